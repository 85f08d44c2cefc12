/- Some acts in memory. No program is named here. Conditions: none. -/
import Derived.Test.YtgjdkdfgfbonfaaSt
namespace Go.Proofs.Ytgjdkdfgfbonfaa
open Go.RowKit

def stN (M : Mx) (s : Int) : Nat → Int
  | 0 => s
  | k + 1 => actNext M (stN M s k)
def acN (M : Mx) (s : Int) (i : Nat) : Ac := actOf M (stN M s i)
def acCells (x : Ac) (ks : Value) : List Value := [.int .u8 x.k, .int .i64 x.a, .int .i64 0, .int .i64 x.n, .string x.p, .string x.v, ks]
def rowOf (A : Nat → Ac) (KS : Nat → Value) : Nat → List Value
  | 0 => []
  | k + 1 => rowOf A KS k ++ acCells (A k) (KS k)
def KeepIs (w : World) (base : Nat) (v : Value) (l : List Int) : Prop := w.ownsRow base 3 1 v l.length (l.map (.int .i64 ·))

def ActsIs (w : World) (base : Nat) (v : Value) (n : Nat) (A : Nat → Ac) : Prop :=
  ∃ KS : Nat → Value, w.ownsRow base 35 7 v n (rowOf A KS n) ∧ ∀ i, i < n → KeepIs w base (KS i) (A i).keep

theorem own_base {W : World} {base base' : Nat} {e : TypeId} {size : Nat} {v : Value} {n : Nat} {xs : List Value} (h : W.ownsRow base e size v n xs) (hb : base' ≤ base) : W.ownsRow base' e size v n xs := by
  obtain ⟨h1, h2 | ⟨g, cap, cur, rfl, hg, h3⟩⟩ := h
  · exact ⟨h1, .inl h2⟩
  · exact ⟨h1, .inr ⟨g, cap, cur, rfl, Nat.le_trans hb hg, h3⟩⟩
theorem own_grown {W W' : World} {base base' : Nat} {e e' : TypeId} {size size' : Nat} {v v' : Value} {n n' : Nat} {xs xs' : List Value} (h : W.ownsRow base e size v n xs) (h' : W.ownsRow base' e' size' v' n' xs') (he : e ≠ e') (hgr : W.grownBy W' v'.ownBlock) : W'.ownsRow base e size v n xs := by
  refine own_keep h fun b _cur hk hh => hgr.block b (lt_of_heap hh) (own_ne h' hh he)
theorem rowOf_congr {A : Nat → Ac} {KS KS' : Nat → Value} : ∀ n, (∀ i, i < n → KS i = KS' i) → rowOf A KS n = rowOf A KS' n
  | 0, _ => rfl
  | k + 1, h => by
    simp only [rowOf]
    rw [rowOf_congr k fun i hi => h i (by omega), h k (by omega)]
theorem rowOf_length (A : Nat → Ac) (KS : Nat → Value) : ∀ n, (rowOf A KS n).length = n * 7
  | 0 => rfl
  | k + 1 => by simp [rowOf, rowOf_length A KS k, acCells]; omega

theorem ActsIs.but {g : Nat} {w w' : World} {base n : Nat} {v : Value} {A : Nat → Ac} {s : Int} (h : ActsIs w base v n A) (hg : w.heap[g]? = some (src s)) (hb : But g w w') : ActsIs w' base v n A := by
  obtain ⟨KS, h1, h2⟩ := h
  exact ⟨KS, own_but h1 hg hb (by decide), fun i hi => own_but (h2 i hi) hg hb (by decide)⟩
theorem own_below {W W' : World} {base : Nat} {e : TypeId} {size : Nat} {v : Value} {n : Nat} {xs : List Value} (h : W.ownsRow base e size v n xs) (hb : Below W.heap.size W W') : W'.ownsRow base e size v n xs :=
  own_keep h fun b _ _ hh => hb.block b (lt_of_heap hh)
theorem ActsIs.below {w w' : World} {base n : Nat} {v : Value} {A : Nat → Ac} (h : ActsIs w base v n A) (hb : Below w.heap.size w w') : ActsIs w' base v n A := by
  obtain ⟨KS, h1, h2⟩ := h
  exact ⟨KS, own_below h1 hb, fun i hi => own_below (h2 i hi) hb⟩

/-- One more act, appended. -/
theorem ActsIs.more {w w' : World} {base n : Nat} {v v' ks : Value} {A : Nat → Ac} {KS : Nat → Value} (h2 : ∀ i, i < n → KeepIs w base (KS i) (A i).keep) (h1 : w.ownsRow base 35 7 v n (rowOf A KS n))
    (hk : KeepIs w base ks (A n).keep) (hgr : w.grownBy w' v.ownBlock) (hrow : w'.ownsRow base 35 7 v' (n + 1) (rowOf A KS n ++ acCells (A n) ks)) : ActsIs w' base v' (n + 1) A := by
  refine ⟨fun i => if i = n then ks else KS i, ?_, fun i hi => ?_⟩
  · have e : rowOf A (fun i => if i = n then ks else KS i) (n + 1) = rowOf A KS n ++ acCells (A n) ks := by
      simp only [rowOf, if_true]
      rw [rowOf_congr n fun i hi => by rw [if_neg (by omega)]]
    rw [e]
    exact hrow
  · by_cases hin : i = n
    · subst hin
      simp only [if_true]
      exact own_grown hk h1 (by decide) hgr
    · simp only [if_neg hin]
      exact own_grown (h2 i (by omega)) h1 (by decide) hgr

def cntN (M : Mx) (n : Int) : Nat := if rightB M then (max 0 (min n 4096)).toNat else 0

end Go.Proofs.Ytgjdkdfgfbonfaa
