/- A mix as plain data, and how its cells bear it. No program is named here. Conditions: none. -/
import Derived.Test.YtgjdkdfgfbonfaaPlain
import Derived.Test.YtgjdkdfgfbonfaaBase
namespace Go.Proofs.Ytgjdkdfgfbonfaa
open Go.RowKit

structure Mx where
  W : Nat → Int
  nd : Int
  pk : Int
  tk : Int
  P : List ByteArray
  V : List ByteArray

structure IsC (C : Array Value) (M : Mx) (vp vv : Value) : Prop where
  size : C.size = 23
  w : ∀ k, k < 18 → C[k]? = some (.int .i64 (M.W k))
  nd : C[18]? = some (.int .i64 M.nd)
  pk : C[19]? = some (.int .i64 M.pk)
  tk : C[20]? = some (.int .i64 M.tk)
  p : C[21]? = some vp
  v : C[22]? = some vv

/-- Texts in memory. -/
def TextsAt (w : World) (v : Value) (l : List ByteArray) : Prop :=
  ∃ (a : Option Addr) (cap : Nat), v = .slice a l.length cap ∧ l.length ≤ maxLen ∧ (l = [] ∨ ∃ b off, a = some ⟨b, off, none⟩ ∧ b < w.heap.size ∧ ∀ i s, l[i]? = some s → w.cell? ⟨b, off + i, none⟩ = some (.string s))

theorem TextsAt.of_keep {w w' : World} {v : Value} {l : List ByteArray} (h : TextsAt w v l) (hs : w.heap.size ≤ w'.heap.size)
    (hk : ∀ b off n cap, v = .slice (some ⟨b, off, none⟩) n cap → b < w.heap.size → w'.heap[b]? = w.heap[b]?) : TextsAt w' v l := by
  obtain ⟨a, cap, rfl, hm, h⟩ := h
  refine ⟨a, cap, rfl, hm, ?_⟩
  rcases h with h | ⟨b, off, rfl, hb, hc⟩
  · exact .inl h
  · refine .inr ⟨b, off, rfl, by omega, fun i s hi => ?_⟩
    rw [World.cell?_of_block (w := w) (hk b off _ _ rfl hb)]
    exact hc i s hi
theorem TextsAt.below {w w' : World} {v : Value} {l : List ByteArray} (h : TextsAt w v l) (hb : Below w.heap.size w w') : TextsAt w' v l :=
  h.of_keep hb.size fun b _ _ _ _ hlt => hb.block b hlt
theorem TextsAt.alloc {w : World} {v : Value} {l : List ByteArray} {o : Obj} (h : TextsAt w v l) : TextsAt (w.alloc o) v l :=
  h.below ((Below.refl _ _).alloc (Nat.le_refl _) _)

def sumW (W : Nat → Int) : Nat → Int
  | 0 => 0
  | k + 1 => sumW W k + W k

def countB (n : Int) : Bool := decide (1 ≤ n) && decide (n ≤ 1000)
def longB (l : List ByteArray) : Bool := l.any fun s => decide (80 < s.size)
def textsB (l : List ByteArray) : Bool := decide (1 ≤ l.length) && decide (l.length ≤ 50) && !longB l
def okW (W : Nat → Int) : Bool := (List.range 18).all fun k => decide (0 ≤ W k) && decide (W k ≤ 1000)
def rightB (M : Mx) : Bool := okW M.W && (M.W 0 == 0) && decide (0 < sumW M.W 18) && countB M.nd && countB M.pk && countB M.tk && textsB M.P && textsB M.V

theorem okW_iff (W : Nat → Int) : okW W = true ↔ ∀ k, k < 18 → 0 ≤ W k ∧ W k ≤ 1000 := by
  unfold okW
  simp [List.all_eq_true]
theorem sumW_range {W : Nat → Int} (h : ∀ k, k < 18 → 0 ≤ W k ∧ W k ≤ 1000) : ∀ k, k ≤ 18 → 0 ≤ sumW W k ∧ sumW W k ≤ 1000 * k
  | 0, _ => by simp [sumW]
  | k + 1, hk => by
    have h1 := sumW_range h k (by omega)
    have h2 := h k (by omega)
    simp only [sumW]
    omega

/-- The kind of a number, of a right mix. -/
def kindW (W : Nat → Int) : Nat → Nat → Int → Nat
  | 0, _, _ => 0
  | f + 1, k, w => if w < W k then k else kindW W f (k + 1) (w - W k)
def kindN (M : Mx) (w : Int) : Nat := if rightB M && decide (0 ≤ w) then kindW M.W 18 0 w else 0

theorem kindW_le (W : Nat → Int) : ∀ f k w, kindW W f k w < k + f ∨ kindW W f k w = 0
  | 0, _, _ => .inr rfl
  | f + 1, k, w => by
    simp only [kindW]
    split
    · exact .inl (by omega)
    · rcases kindW_le W f (k + 1) (w - W k) with h | h
      · exact .inl (by omega)
      · exact .inr h
theorem kindN_le (M : Mx) (w : Int) : kindN M w < 18 := by
  unfold kindN
  split
  · rcases kindW_le M.W 18 0 w with h | h <;> omega
  · omega

end Go.Proofs.Ytgjdkdfgfbonfaa
