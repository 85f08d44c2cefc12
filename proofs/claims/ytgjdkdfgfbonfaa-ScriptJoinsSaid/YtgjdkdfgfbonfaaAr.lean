/- Some acts in memory, one by one. Conditions: none. -/
import Derived.Test.YtgjdkdfgfbonfaaW4
namespace Go.Proofs.Ytgjdkdfgfbonfaa
open Go.RowKit

theorem rowOf_at (A : Nat → Ac) (KS : Nat → Value) {i j : Nat} (hj : j < 7) : ∀ n, i < n → (rowOf A KS n)[i * 7 + j]? = (acCells (A i) (KS i))[j]?
  | 0, h => by omega
  | n + 1, h => by
    simp only [rowOf]
    have hl := rowOf_length A KS n
    by_cases hi : i = n
    · subst hi
      rw [List.getElem?_append_right (by omega), hl, show i * 7 + j - i * 7 = j from by omega]
    · rw [List.getElem?_append_left (by omega)]
      exact rowOf_at A KS hj n (by omega)

/-- The row of some acts: g its block, cur its cells. -/
structure ActsRow (w : World) (base g : Nat) (cur : Array Value) (KS : Nat → Value) (n : Nat) (A : Nat → Ac) : Prop where
  hb : base ≤ g
  hg : w.heap[g]? = some (.cells cur 35)
  sz : n * 7 ≤ cur.size
  at_ : ∀ i j, i < n → j < 7 → cur[i * 7 + j]? = (acCells (A i) (KS i))[j]?
  keep : ∀ i, i < n → KeepIs w base (KS i) (A i).keep

theorem ActsIs.row {w : World} {base n : Nat} {v : Value} {A : Nat → Ac} (h : ActsIs w base v n A) (hn : 0 < n) : ∃ g cap cur KS, v = .slice (some ⟨g, 0, none⟩) n cap ∧ ActsRow w base g cur KS n A := by
  obtain ⟨KS, ⟨h1, ⟨_, h0⟩ | ⟨g, cap, cur, rfl, hg, hh, h3, h4, h5, h6⟩⟩, hk⟩ := h
  · omega
  · have hl := rowOf_length A KS n
    refine ⟨g, cap, cur, KS, rfl, hg, hh, by have := Nat.mul_le_mul_right 7 h3; omega, fun i j hi hj => ?_, hk⟩
    rw [← rowOf_at A KS hj n hi, ← h6, List.getElem?_take, if_pos (by omega), Array.getElem?_toList]
theorem ActsRow.below {w w' : World} {base g n : Nat} {cur : Array Value} {KS : Nat → Value} {A : Nat → Ac} (h : ActsRow w base g cur KS n A) (hb : Below w.heap.size w w') : ActsRow w' base g cur KS n A :=
  ⟨h.hb, kept hb h.hg, h.sz, h.at_, fun i hi => own_below (h.keep i hi) hb⟩
theorem ActsRow.part {w : World} {base g n : Nat} {cur : Array Value} {KS : Nat → Value} {A : Nat → Ac} (h : ActsRow w base g cur KS n A) {i : Nat} (hi : i < n) : cur.extract (i * 7) (i * 7 + 7) = (acCells (A i) (KS i)).toArray := by
  have hsz := h.sz
  apply Array.ext_getElem?
  intro j
  rw [Array.getElem?_extract]
  by_cases hj : j < 7
  · rw [if_pos (by omega), h.at_ i j hi hj]
    simp
  · rw [if_neg (by omega)]
    symm
    apply Array.getElem?_eq_none
    simp [acCells]
    omega
theorem ActsRow.kindAt {w : World} {base g n : Nat} {cur : Array Value} {KS : Nat → Value} {A : Nat → Ac} (h : ActsRow w base g cur KS n A) {i : Nat} (hi : i < n) : w.cell? ⟨g, i * 7, none⟩ = some (.int .u8 ((A i).k : Int)) := by
  have h0 := h.at_ i 0 hi (by omega)
  rw [Nat.add_zero] at h0
  exact (cell_of h.hg (i * 7)).trans h0
theorem acv_cells (x : Ac) (ks : Value) : Value.agg (acCells x ks).toArray = acv x ks := rfl

theorem act_k (M : Mx) (s : Int) : (actOf M s).k = kindN M (dr s (sumW M.W 18)) := by
  unfold actOf
  simp only
  repeat' split
  all_goals rfl
theorem act_weight {M : Mx} (hr : rightB M = true) (s : Int) : 1 ≤ M.W (actOf M s).k := by
  have hF := fit_of hr
  have hd := dr_range s (sumW M.W 18) (by have := hF.sum; omega)
  have h := kind_in hr hd.1 hd.2
  rw [act_k]
  omega
theorem cnt_right {M : Mx} (hr : rightB M = true) {B : Nat} (hB : B ≤ 4096) : cntN M (B : Int) = B := by
  unfold cntN
  rw [hr, if_pos rfl]
  omega
theorem cnt_wrong {M : Mx} (hr : rightB M = false) (n : Int) : cntN M n = 0 := by
  unfold cntN
  rw [hr, if_neg Bool.false_ne_true]

end Go.Proofs.Ytgjdkdfgfbonfaa
