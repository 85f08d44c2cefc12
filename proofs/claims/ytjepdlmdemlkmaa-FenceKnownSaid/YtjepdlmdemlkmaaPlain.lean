/- Plain functions on stands: what package fence computes; the document's answer is the same function. No program is named here. Conditions: none. -/
import GoSem.Core.Value
namespace Go.Proofs.Ytjepdlmdemlkmaa

structure St where
  r : Int
  s : Int
  g : Int
  deriving DecidableEq

def rightP (r s g : Int) : Prop := 0 ≤ g ∧ g ≤ s ∧ ((r = 0 ∧ s = 0) ∨ (r = 1 ∧ 1 ≤ g ∧ g = s) ∨ (r = 2 ∧ 1 ≤ s) ∨ (r = 3 ∧ 1 ≤ g ∧ g < s))
instance (r s g : Int) : Decidable (rightP r s g) := by unfold rightP; infer_instance
def rightB (r s g : Int) : Bool := decide (rightP r s g)

def writesN (r s g : Int) : Int := if ¬ rightP r s g then 1 else if r = 0 then 30 else if r = 2 then 31 else if r = 3 then 32 else 0

/-- What a stand becomes: 0 Heard, 1 Begun, 2 Joined, 3 Promoted, 4 Demoted that holds, 5 Demoted that does not; any other: nothing. -/
def doesN (r s g : Int) (d : Int) (ep : Int) : St × Int :=
  if 5 < d then (⟨r, s, g⟩, 0)
  else if ¬ rightP r s g then (⟨r, s, g⟩, 1)
  else if d = 0 then
    (if r = 0 then (⟨r, s, g⟩, 30) else if ep < 1 then (⟨r, s, g⟩, 1) else if ep < s then (⟨r, s, g⟩, 12) else if s < ep ∧ r = 1 then (⟨3, ep, g⟩, 0) else (⟨r, ep, g⟩, 0))
  else if d = 1 then (if ep < 1 then (⟨r, s, g⟩, 1) else if r ≠ 0 then (⟨r, s, g⟩, 11) else (⟨1, ep, ep⟩, 0))
  else if d = 2 then (if ep < 1 then (⟨r, s, g⟩, 1) else if r ≠ 0 then (⟨r, s, g⟩, 11) else (⟨2, ep, 0⟩, 0))
  else if d = 3 then (if ep < 1 then (⟨r, s, g⟩, 1) else if r = 0 then (⟨r, s, g⟩, 30) else if ep ≤ s then (⟨r, s, g⟩, 12) else (⟨1, ep, ep⟩, 0))
  else if d = 4 then (if r = 0 then (⟨r, s, g⟩, 30) else (⟨r, s, g⟩, 11))
  else (if r = 0 then (⟨r, s, g⟩, 30) else if r ≠ 3 then (⟨r, s, g⟩, 11) else (⟨2, s, g⟩, 0))

/-- What a blank stand becomes. -/
def blankN (r s g ep r' s' g' : Int) : St × Int :=
  if ¬ rightP r s g then (⟨r, s, g⟩, 1) else if ep < 1 then (⟨r, s, g⟩, 1) else if r ≠ 0 then (⟨r, s, g⟩, 11) else (⟨r', s', g'⟩, 0)

end Go.Proofs.Ytjepdlmdemlkmaa
