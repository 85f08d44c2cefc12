/- What can become of a stand that is right, case by case. No program is named here. Conditions: none. -/
import Derived.Test.YtjepdlmdemlkmaaPlain
namespace Go.Proofs.Ytjepdlmdemlkmaa

theorem st_eq {r s g r' s' g' : Int} {e : Int} (h : r = r' ∧ s = s' ∧ g = g') : ((⟨r, s, g⟩, e) : St × Int) = (⟨r', s', g'⟩, e) := by
  obtain ⟨rfl, rfl, rfl⟩ := h; rfl
theorem round_cases (r s g d ep : Int) (y : St × Int) (HR : rightP r s g) (hd : 0 ≤ d) (hy : doesN r s g d ep = y) :
    ((∃ e, y = (⟨r, s, g⟩, e) ∧ (e == 0) = false ∧ (e != 0) = true) ∨ (d = 0 ∧ s < ep ∧ r = 1 ∧ y = (⟨3, ep, g⟩, 0)) ∨ (d = 0 ∧ s < ep ∧ (r = 2 ∨ r = 3) ∧ y = (⟨r, ep, g⟩, 0))) ∨
    ((d = 0 ∧ ep = s ∧ y = (⟨r, s, g⟩, 0)) ∨ (d = 1 ∧ 0 < ep ∧ r = 0 ∧ s = 0 ∧ g = 0 ∧ y = (⟨1, ep, ep⟩, 0)) ∨ (d = 2 ∧ 0 < ep ∧ r = 0 ∧ s = 0 ∧ g = 0 ∧ y = (⟨2, ep, 0⟩, 0))) ∨
    ((d = 3 ∧ s < ep ∧ y = (⟨1, ep, ep⟩, 0)) ∨ (d = 5 ∧ r = 3 ∧ y = (⟨2, s, g⟩, 0)) ∨ (5 < d ∧ y = (⟨r, s, g⟩, 0))) := by
  unfold doesN at hy
  rw [if_neg (not_not_intro HR)] at hy
  unfold rightP at HR
  repeat' split at hy
  all_goals subst hy
  all_goals first
    | exact .inl (.inl ⟨_, rfl, rfl, rfl⟩)
    | exact .inl (.inr (.inl ⟨by omega, by omega, by omega, st_eq (by omega)⟩))
    | exact .inl (.inr (.inr ⟨by omega, by omega, by omega, st_eq (by omega)⟩))
    | exact .inr (.inl (.inl ⟨by omega, by omega, st_eq (by omega)⟩))
    | exact .inr (.inl (.inr (.inl ⟨by omega, by omega, by omega, by omega, by omega, st_eq (by omega)⟩)))
    | exact .inr (.inl (.inr (.inr ⟨by omega, by omega, by omega, by omega, by omega, st_eq (by omega)⟩)))
    | exact .inr (.inr (.inl ⟨by omega, by omega, st_eq (by omega)⟩))
    | exact .inr (.inr (.inr (.inl ⟨by omega, by omega, st_eq (by omega)⟩)))
    | exact .inr (.inr (.inr (.inr ⟨by omega, st_eq (by omega)⟩)))
    | skip
  all_goals by_cases h1 : s < ep
  all_goals first
    | exact .inl (.inr (.inr ⟨by omega, by omega, by omega, st_eq (by omega)⟩))
    | exact .inr (.inl (.inl ⟨by omega, by omega, st_eq (by omega)⟩))
theorem writes_cases (r s g : Int) (HR : rightP r s g) : (writesN r s g = 0 ∧ r = 1 ∧ g = s) ∨ (writesN r s g = 32 ∧ r = 3) ∨ (∃ v, writesN r s g = v ∧ (v == 0) = false ∧ (v == 32) = false ∧ (r = 0 ∨ r = 2)) := by
  unfold writesN
  rw [if_neg (not_not_intro HR)]
  unfold rightP at HR
  have h4 : (r = 0 ∨ r = 1) ∨ (r = 2 ∨ r = 3) := by omega
  rcases h4 with (rfl | rfl) | (rfl | rfl)
  · exact .inr (.inr ⟨_, rfl, rfl, rfl, .inl rfl⟩)
  · exact .inl ⟨rfl, rfl, by omega⟩
  · exact .inr (.inr ⟨_, rfl, rfl, rfl, .inr rfl⟩)
  · exact .inr (.inl ⟨rfl, rfl⟩)
theorem writes_1 {s g : Int} (h : rightP 1 s g) : writesN 1 s g = 0 := by unfold writesN; rw [if_neg (not_not_intro h)]; rfl
theorem writes_2 {s g : Int} (h : rightP 2 s g) : writesN 2 s g = 31 := by unfold writesN; rw [if_neg (not_not_intro h)]; rfl
theorem writes_3' {s g : Int} (h : rightP 3 s g) : writesN 3 s g = 32 := by unfold writesN; rw [if_neg (not_not_intro h)]; rfl

theorem next_13 {s g ep : Int} (h : rightP 1 s g) (hl : s < ep) : rightP 3 ep g := by unfold rightP at *; omega
theorem next_22 {s g ep : Int} (h : rightP 2 s g) (hl : s < ep) : rightP 2 ep g := by unfold rightP at *; omega
theorem next_33 {s g ep : Int} (h : rightP 3 s g) (hl : s < ep) : rightP 3 ep g := by unfold rightP at *; omega
theorem next_11 {ep : Int} (hl : 0 < ep) : rightP 1 ep ep := by unfold rightP; omega
theorem next_20 {ep : Int} (hl : 0 < ep) : rightP 2 ep 0 := by unfold rightP; omega
theorem next_r1 {r s g ep : Int} (h : rightP r s g) (hl : s < ep) : rightP 1 ep ep := by unfold rightP at *; omega
theorem next_32 {s g : Int} (h : rightP 3 s g) : rightP 2 s g := by unfold rightP at *; omega
theorem right_bounds {r s g : Int} (h : rightP r s g) : 0 ≤ g ∧ g ≤ s := by unfold rightP at h; exact ⟨h.1, h.2.1⟩
theorem rightB_of {r s g : Int} (h : rightP r s g) : rightB r s g = true := decide_eq_true h

end Go.Proofs.Ytjepdlmdemlkmaa
