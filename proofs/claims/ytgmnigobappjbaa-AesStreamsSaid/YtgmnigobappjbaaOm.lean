/- What the document's one computes, as plain bytes. No program is named here. Conditions: none. -/
import Derived.Test.YtgmnigobappjbaaSw
import Derived.Test.YtgmnigobappjbaaPl
namespace Go.Proofs.Ytgmnigobappjbaa

theorem three_tim (p : UInt8) : tim p 3 = xr (twi p) p := by
  have h : (3 : UInt8) = xr 2 1 := rfl
  rw [tim_comm, h, tim_xr, one_tim, tim_comm, two_tim]
theorem col_at {q j k : Nat} (t : Nat → UInt8) (hj : j < 4) : colN t (4 * q + j) k = t (4 * q + (j + k) % 4) := by
  unfold colN
  congr 1
  omega
theorem col_at0 {q k : Nat} (t : Nat → UInt8) : colN t (4 * q) k = t (4 * q + k % 4) := by
  unfold colN
  congr 1
  omega
theorem one_m0 (t : Nat → UInt8) (q : Nat) : xr (xr (xr (tim (t (4 * q)) 2) (tim (t (4 * q + 1)) 3)) (t (4 * q + 2))) (t (4 * q + 3)) = mixAt t (4 * q) := by
  unfold mixAt
  rw [two_tim, three_tim, col_at0, col_at0, col_at0, col_at0]
  simp only [Nat.reduceMod, Nat.zero_mod, Nat.add_zero, xr_assoc]
theorem one_m1 (t : Nat → UInt8) (q : Nat) : xr (xr (xr (t (4 * q)) (tim (t (4 * q + 1)) 2)) (tim (t (4 * q + 2)) 3)) (t (4 * q + 3)) = mixAt t (4 * q + 1) := by
  unfold mixAt
  rw [two_tim, three_tim, col_at _ (by decide), col_at _ (by decide), col_at _ (by decide), col_at _ (by decide)]
  simp only [Nat.reduceMod, Nat.reduceAdd, Nat.zero_mod, Nat.add_zero, xr_comm, xr_left]
theorem one_m2 (t : Nat → UInt8) (q : Nat) : xr (xr (xr (t (4 * q)) (t (4 * q + 1))) (tim (t (4 * q + 2)) 2)) (tim (t (4 * q + 3)) 3) = mixAt t (4 * q + 2) := by
  unfold mixAt
  rw [two_tim, three_tim, col_at _ (by decide), col_at _ (by decide), col_at _ (by decide), col_at _ (by decide)]
  simp only [Nat.reduceMod, Nat.reduceAdd, Nat.zero_mod, Nat.add_zero, xr_comm, xr_left]
theorem one_m3 (t : Nat → UInt8) (q : Nat) : xr (xr (xr (tim (t (4 * q)) 3) (t (4 * q + 1))) (t (4 * q + 2))) (tim (t (4 * q + 3)) 2) = mixAt t (4 * q + 3) := by
  unfold mixAt
  rw [two_tim, three_tim, col_at _ (by decide), col_at _ (by decide), col_at _ (by decide), col_at _ (by decide)]
  simp only [Nat.reduceMod, Nat.reduceAdd, Nat.zero_mod, Nat.add_zero, xr_comm, xr_left]

/-- The turned block, as far as the rows and columns have come. -/
def fillN (C x : Nat → UInt8) (row col : Nat) : Nat → UInt8 := fun j => if j % 4 < row ∨ (j % 4 = row ∧ j / 4 < col) then subAt C x j else 0
theorem fill_step (C x : Nat → UInt8) {row : Nat} (col : Nat) (hr : row < 4) : upd8 (fillN C x row col) (4 * col + row) (subAt C x (4 * col + row)) = fillN C x row (col + 1) := by
  funext j
  unfold upd8 fillN
  by_cases e : j = 4 * col + row
  · subst e
    rw [if_pos rfl, if_pos (by omega)]
  · rw [if_neg e]
    by_cases h : j % 4 < row ∨ (j % 4 = row ∧ j / 4 < col)
    · rw [if_pos h, if_pos (by omega)]
    · rw [if_neg h, if_neg (by omega)]
theorem fill_row (C x : Nat → UInt8) (row : Nat) {j : Nat} (h : j < 16) : fillN C x row 4 j = fillN C x (row + 1) 0 j := by
  unfold fillN
  by_cases h1 : j % 4 < row ∨ (j % 4 = row ∧ j / 4 < 4)
  · rw [if_pos h1, if_pos (by omega)]
  · rw [if_neg h1, if_neg (by omega)]
theorem fill_none (C x : Nat → UInt8) (j : Nat) : (0 : UInt8) = fillN C x 0 0 j := by
  unfold fillN
  rw [if_neg (by omega)]
theorem fill_all (C x : Nat → UInt8) {j : Nat} (h : j < 16) : fillN C x 4 0 j = subN C x 16 j := by
  unfold fillN subN
  rw [if_pos (by omega), if_pos h]
theorem sub_of (key x : Nat → UInt8) {row col : Nat} (hr : row < 4) (hc : col < 4) : subAt (cfN key 240) x (4 * col + row) = sN (x (4 * ((col + row) % 4) + row)).toNat := by
  unfold subAt
  rw [cfN_s]
  congr 3
  omega
theorem add_wK (key x : Nat → UInt8) {r : Nat} (hr : r ≤ 14) : addN (wK key) x r 16 = addN (cfN key 240) x r 16 := by
  funext i
  unfold addN
  by_cases h : i < 16
  · rw [if_pos h, if_pos h, cfN_at key (by omega) (by omega)]
  · rw [if_neg h, if_neg h]

end Go.Proofs.Ytgmnigobappjbaa
