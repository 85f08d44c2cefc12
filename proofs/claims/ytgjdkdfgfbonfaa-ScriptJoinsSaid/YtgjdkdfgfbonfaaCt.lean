/- How many numbers have a kind. Plain. No program is named here but by its variable. Conditions: none. -/
import Derived.Test.YtgjdkdfgfbonfaaN4
import Derived.ChangeKeysEq
import Derived.Laws.StructEq
namespace Go.Proofs.Ytgjdkdfgfbonfaa
open Go.RowKit

/-! ### Rows of numbers -/
def ints (n : Nat) (f : Nat → Int) : Array Value := Array.ofFn (n := n) fun i => .int .i64 (f i)
def updI (f : Nat → Int) (i : Nat) (v : Int) : Nat → Int := fun j => if j = i then v else f j
theorem ints_size (n : Nat) (f : Nat → Int) : (ints n f).size = n := by simp [ints]
theorem ints_at {n : Nat} {f : Nat → Int} {i : Nat} (h : i < n) : (ints n f)[i]? = some (.int .i64 (f i)) := by simp [ints, h]
theorem ints_get (n : Nat) (f : Nat → Int) (i : Nat) : (ints n f)[i]? = if i < n then some (.int .i64 (f i)) else none := by
  by_cases h : i < n
  · rw [if_pos h, ints_at h]
  · rw [if_neg h]
    exact Array.getElem?_eq_none (by rw [ints_size]; omega)
theorem ints_ext {n : Nat} {f g : Nat → Int} (h : ∀ i, i < n → f i = g i) : ints n f = ints n g := by
  unfold ints
  congr 1
  funext i
  rw [h i i.isLt]
theorem ints_set {n : Nat} {f : Nat → Int} {i : Nat} (v : Int) : (ints n f).setIfInBounds i (.int .i64 v) = ints n (updI f i v) := by
  apply Array.ext_getElem?
  intro j
  rw [Array.getElem?_setIfInBounds, ints_size, ints_get, ints_get]
  unfold updI
  by_cases e : i = j
  · subst e
    simp
  · simp [e, Ne.symm e]

theorem run_items_ints {P : Program} {e : TypeId} {n : Nat} (f g : Nat → Int) {i : TypeInfo} (hi : P.info? e = some i) (he : P.underlying e = some (.int .i64)) (d : Nat) (w : World) (hfg : ∀ j, j < n → f j = g j) :
    ∀ l : List Nat, (∀ j ∈ l, j < n) → (Op.eqItems (d + 1) e 1 (ints n f) (ints n g) l).run P w = .ok true w
  | [], _ => by simp [Op.eqItems]
  | j :: l, h => by
    have hagg : (isAgg e).run P w = .ok false w := by
      unfold isAgg
      rw [Sem.run_bind, run_underlying he w]
      rfl
    have hj := h j (by simp)
    have ih := run_items_ints f g hi he d w hfg l fun k hk => h k (by simp [hk])
    simp only [Op.eqItems, Sem.run_bind, part, hagg, Result.andThen_ok, Nat.mul_one, ints_at hj, Sem.run_pure, Bool.false_eq_true, if_false]
    rw [run_equalIn_int w d e .i64 .i64 _ _ he]
    simp [hfg j hj, ih]
theorem run_eql_ints {P : Program} {t e : TypeId} {n : Nat} {i : TypeInfo} (hu : P.underlying t = some (.array n e)) (hi : P.info? e = some i) (hs : P.cellsOf e = 1) (he : P.underlying e = some (.int .i64)) (f g : Nat → Int) (hfg : ∀ j, j < n → f j = g j) (w : World) :
    (Op.equalIn 10000 t (.agg (ints n f)) (.agg (ints n g))).run P w = .ok true w := by
  rw [show (10000 : Nat) = (9998 + 1) + 1 from rfl, run_equalIn_array w (9998 + 1) _ _ hu hi, hs, run_items_ints f g hi he 9998 w hfg (List.range n) fun j hj => List.mem_range.1 hj]

theorem isC_ints {C : Array Value} {M : Mx} {vp vv : Value} (hC : IsC C M vp vv) : C.extract 0 18 = ints 18 M.W := by
  apply Array.ext_getElem?
  intro k
  rw [ints_get, Array.getElem?_extract]
  have hs := hC.size
  by_cases h : k < 18
  · rw [if_pos (by omega), if_pos h, Nat.zero_add, hC.w k h]
  · rw [if_neg (by omega), if_neg h]

/-! ### Kinds -/
theorem sumW_add {W : Nat → Int} (hW : ∀ k, k < 18 → 0 ≤ W k ∧ W k ≤ 1000) (j : Nat) : ∀ d, j + d ≤ 18 → sumW W j ≤ sumW W (j + d)
  | 0, _ => Int.le_refl _
  | d + 1, h => by
    have h1 := sumW_add hW j d (by omega)
    have h2 := (hW (j + d) (by omega)).1
    have e : sumW W (j + (d + 1)) = sumW W (j + d) + W (j + d) := rfl
    omega
theorem sumW_mono {W : Nat → Int} (hW : ∀ k, k < 18 → 0 ≤ W k ∧ W k ≤ 1000) {j : Nat} (m : Nat) (h1 : j ≤ m) (h2 : m ≤ 18) : sumW W j ≤ sumW W m := by
  have := sumW_add hW j (m - j) (by omega)
  rwa [show j + (m - j) = m from by omega] at this

/-- Where a number's kind begins. -/
theorem kindW_spec {W : Nat → Int} (hW : ∀ k, k < 18 → 0 ≤ W k ∧ W k ≤ 1000) : ∀ f k (w : Int), k + f = 18 → 0 ≤ w → (w < sumW W 18 - sumW W k → kindW W f k w < 18 ∧ k ≤ kindW W f k w ∧ sumW W (kindW W f k w) - sumW W k ≤ w ∧ w < sumW W (kindW W f k w + 1) - sumW W k) ∧ (sumW W 18 - sumW W k ≤ w → kindW W f k w = 0)
  | 0, k, w, hk, h0 => by
    obtain rfl : k = 18 := by omega
    exact ⟨fun h => by omega, fun _ => rfl⟩
  | f + 1, k, w, hk, h0 => by
    by_cases hlt : w < W k
    · rw [kindW_here hlt]
      have e : sumW W (k + 1) = sumW W k + W k := rfl
      have hm := sumW_mono hW (j := k + 1) 18 (by omega) (by omega)
      exact ⟨fun _ => ⟨by omega, Nat.le_refl _, by omega, by omega⟩, fun h => by omega⟩
    · rw [kindW_step hlt]
      have ih := kindW_spec hW f (k + 1) (w - W k) (by omega) (by omega)
      have e : sumW W (k + 1) = sumW W k + W k := rfl
      refine ⟨fun h => ?_, fun h => ih.2 (by omega)⟩
      have := ih.1 (by omega)
      exact ⟨this.1, by omega, by omega, by omega⟩

/-- How many of the numbers below w have the kind k. -/
def cntW (W : Nat → Int) (w : Int) : Nat → Int := fun k => max 0 (min (w - sumW W k) (W k))

section
variable {M : Mx}

theorem right_W (hr : rightB M = true) : ∀ k, k < 18 → 0 ≤ M.W k ∧ M.W k ≤ 1000 := by
  have : okW M.W = true := by
    simp only [rightB, Bool.and_eq_true] at hr
    exact hr.1.1.1.1.1.1.1
  exact (okW_iff _).1 this

theorem kind_in (hr : rightB M = true) {w : Int} (h0 : 0 ≤ w) (h1 : w < sumW M.W 18) : kindN M w < 18 ∧ sumW M.W (kindN M w) ≤ w ∧ w < sumW M.W (kindN M w) + M.W (kindN M w) := by
  have hs := (kindW_spec (right_W hr) 18 0 w rfl h0).1 (by have e0 : sumW M.W 0 = 0 := rfl; omega)
  rw [kindN, hr, decide_eq_true h0]
  simp only [Bool.and_self, if_true]
  have e : sumW M.W (kindW M.W 18 0 w + 1) = sumW M.W (kindW M.W 18 0 w) + M.W (kindW M.W 18 0 w) := rfl
  have e0 : sumW M.W 0 = 0 := rfl
  omega
theorem kind_past (hr : rightB M = true) {w : Int} (h0 : 0 ≤ w) (h1 : sumW M.W 18 ≤ w) : kindN M w = 0 := by
  rw [kindN, hr, decide_eq_true h0]
  simp only [Bool.and_self, if_true]
  exact (kindW_spec (right_W hr) 18 0 w rfl h0).2 (by have e0 : sumW M.W 0 = 0 := rfl; omega)
theorem kind_rise (hr : rightB M = true) {w : Int} (h0 : 0 ≤ w) (h1 : w + 1 < sumW M.W 18) : kindN M w ≤ kindN M (w + 1) := by
  have a := kind_in hr h0 (by omega)
  have b := kind_in hr (w := w + 1) (by omega) h1
  refine Nat.le_of_not_lt fun hlt => ?_
  have := sumW_mono (right_W hr) (j := kindN M (w + 1) + 1) (kindN M w) (by omega) (by omega)
  have e : sumW M.W (kindN M (w + 1) + 1) = sumW M.W (kindN M (w + 1)) + M.W (kindN M (w + 1)) := rfl
  omega
theorem cnt_step (hr : rightB M = true) {w : Int} (h0 : 0 ≤ w) (h1 : w < sumW M.W 18) : ints 18 (updI (cntW M.W w) (kindN M w) (cntW M.W w (kindN M w) + 1)) = ints 18 (cntW M.W (w + 1)) := by
  refine ints_ext fun j hj => ?_
  have a := kind_in hr h0 h1
  have hW := right_W hr j hj
  unfold updI
  by_cases e : j = kindN M w
  · rw [if_pos e, e]
    unfold cntW
    omega
  · rw [if_neg e]
    unfold cntW
    have e2 : ∀ k, sumW M.W (k + 1) = sumW M.W k + M.W k := fun _ => rfl
    rcases Nat.lt_or_ge j (kindN M w) with h | h
    · have := sumW_mono (right_W hr) (j := j + 1) (kindN M w) (by omega) (by omega)
      have := e2 j
      omega
    · have := sumW_mono (right_W hr) (j := kindN M w + 1) j (by omega) (by omega)
      have := e2 (kindN M w)
      omega
theorem cnt_end (hr : rightB M = true) : ∀ j, j < 18 → cntW M.W (sumW M.W 18) j = M.W j := fun j hj => by
  have hW := right_W hr j hj
  have := sumW_mono (right_W hr) (j := j + 1) 18 (by omega) (by omega)
  have e2 : sumW M.W (j + 1) = sumW M.W j + M.W j := rfl
  unfold cntW
  omega
theorem cnt_zero (hr : rightB M = true) : ∀ j, j < 18 → cntW M.W 0 j = 0 := fun j hj => by
  have := (sumW_range (right_W hr) j (by omega)).1
  unfold cntW
  omega
theorem cnt_range (hr : rightB M = true) {w : Int} : ∀ j, j < 18 → 0 ≤ cntW M.W w j ∧ cntW M.W w j ≤ 1000 := fun j hj => by
  have hW := right_W hr j hj
  unfold cntW
  omega
/-- The kind of the number ahead. -/
theorem last_le (hr : rightB M = true) {x : Nat} (hx : (x : Int) < sumW M.W 18) : (if x = 0 then 0 else kindN M ((x : Int) - 1)) ≤ kindN M x := by
  split
  · omega
  · have := kind_rise hr (w := (x : Int) - 1) (by omega) (by omega)
    rwa [show (x : Int) - 1 + 1 = x from by omega] at this
end

def lastN (M : Mx) (x : Nat) : Nat := if x = 0 then 0 else kindN M ((x : Int) - 1)
theorem last_succ (M : Mx) (x : Nat) : lastN M (x + 1) = kindN M x := by
  unfold lastN
  rw [if_neg (by omega), show ((x + 1 : Nat) : Int) - 1 = x from by omega]

end Go.Proofs.Ytgjdkdfgfbonfaa
