/- The words and the states of two examples, held against their steps. Plain; no program is named here. Conditions: none. -/
import Derived.Test.YtgmnigobappjbaaAp
namespace Go.Proofs.Ytgmnigobappjbaa

def litF (l : List UInt8) : Nat → UInt8 := fun j => l.getD j 0
def chkW (key : Nat → UInt8) (l : List UInt8) : Bool := (List.range 240).all fun j => litF l j == (if j < 32 then key j else xr (litF l (j - 32)) (tN (litF l) (j / 4) (j % 4)))
theorem wK_lit {key : Nat → UInt8} {l : List UInt8} (h : chkW key l = true) : ∀ n j, j < n → j < 240 → wK key j = litF l j
  | 0, _, h, _ => by omega
  | n + 1, j, hn, hj => by
    have hc := all_lt (p := fun j => litF l j == (if j < 32 then key j else xr (litF l (j - 32)) (tN (litF l) (j / 4) (j % 4)))) h hj
    simp only [beq_iff_eq] at hc
    rw [hc]
    by_cases h32 : j < 32
    · rw [if_pos h32, wK_key key h32]
    · rw [if_neg h32]
      have e := wK_step key (i := j / 4) (k := j % 4) (by omega) (by omega)
      rw [show 4 * (j / 4) + j % 4 = j from by omega, show 4 * (j / 4 - 8) + j % 4 = j - 32 from by omega] at e
      rw [e, wK_lit h n (j - 32) (by omega) (by omega)]
      congr 1
      exact tN_congr (fun m hm => wK_lit h n (4 * (j / 4 - 1) + m) (by omega) (by omega)) (by omega)
def cLit (l : List UInt8) : Nat → UInt8 := fun j => if j < 240 then litF l j else sN (j - 240)
theorem cf_lit {key : Nat → UInt8} {l : List UInt8} (h : chkW key l = true) : cfN key 240 = cLit l := by
  funext j
  unfold cfN cLit
  by_cases hj : j < 240
  · rw [if_pos hj, if_pos hj, if_pos hj, wK_lit h (j + 1) j (by omega) hj]
  · rw [if_neg hj, if_neg hj]
/-- The states: sixteen bytes each. -/
def row (s : List UInt8) (r : Nat) : Nat → UInt8 := fun i => litF s (16 * r + i)
def chkS (C x : Nat → UInt8) (s : List UInt8) : Bool := (List.range 16).all (fun i => row s 0 i == addN C x 0 16 i) && (List.range 14).all fun r => (List.range 16).all fun i => row s (r + 1) i == rdN C (row s r) (r + 1) i
theorem st_lit {C x : Nat → UInt8} {s : List UInt8} (h : chkS C x s = true) : ∀ r, r < 15 → Same 16 (stN C x r) (row s r)
  | 0, _ => fun i hi => by
    have := all_lt (p := fun i => row s 0 i == addN C x 0 16 i) (Bool.and_eq_true_iff.1 h).1 hi
    simp only [beq_iff_eq] at this
    rw [this]
    rfl
  | r + 1, hr => fun i hi => by
    have := all_lt (p := fun i => row s (r + 1) i == rdN C (row s r) (r + 1) i) (all_lt (p := fun r => (List.range 16).all fun i => row s (r + 1) i == rdN C (row s r) (r + 1) i) (Bool.and_eq_true_iff.1 h).2 (show r < 14 by omega)) hi
    simp only [beq_iff_eq] at this
    rw [this]
    exact add_same (mid_same (st_lit h r (by omega))) i hi

def exK : Nat → UInt8 := fun i => by8 i
def exB : Nat → UInt8 := fun i => by8 (17 * i)
def exW : List UInt8 := [0, 1, 2, 3, 4, 5, 6, 7, 8, 9, 10, 11, 12, 13, 14, 15, 16, 17, 18, 19, 20, 21, 22, 23, 24, 25, 26, 27, 28, 29, 30, 31, 165, 115, 194, 159, 161, 118, 196, 152, 169, 127, 206, 147, 165, 114, 192, 156, 22, 81, 168, 205, 2, 68, 190, 218, 26, 93, 164, 193, 6, 64, 186, 222, 174, 135, 223, 240, 15, 241, 27, 104, 166, 142, 213, 251, 3, 252, 21, 103, 109, 225, 241, 72, 111, 165, 79, 146, 117, 248, 235, 83, 115, 184, 81, 141, 198, 86, 130, 127, 201, 167, 153, 23, 111, 41, 76, 236, 108, 213, 89, 139, 61, 226, 58, 117, 82, 71, 117, 231, 39, 191, 158, 180, 84, 7, 207, 57, 11, 220, 144, 95, 194, 123, 9, 72, 173, 82, 69, 164, 193, 135, 28, 47, 69, 245, 166, 96, 23, 178, 211, 135, 48, 13, 77, 51, 100, 10, 130, 10, 124, 207, 247, 28, 190, 180, 254, 84, 19, 230, 187, 240, 210, 97, 167, 223, 240, 26, 250, 254, 231, 168, 41, 121, 215, 165, 100, 74, 179, 175, 230, 64, 37, 65, 254, 113, 155, 245, 0, 37, 136, 19, 187, 213, 90, 114, 28, 10, 78, 90, 102, 153, 169, 242, 79, 224, 126, 87, 43, 170, 205, 248, 205, 234, 36, 252, 121, 204, 191, 9, 121, 233, 55, 26, 194, 60, 109, 104, 222, 54]
def exS : List UInt8 := [0, 16, 32, 48, 64, 80, 96, 112, 128, 144, 160, 176, 192, 208, 224, 240, 79, 99, 118, 6, 67, 224, 170, 133, 239, 167, 33, 50, 1, 164, 231, 5, 24, 89, 251, 194, 138, 28, 0, 160, 120, 237, 138, 173, 196, 47, 97, 9, 151, 92, 102, 193, 203, 159, 63, 168, 169, 58, 40, 223, 142, 225, 15, 99, 28, 5, 242, 113, 164, 23, 224, 79, 249, 33, 197, 193, 4, 112, 21, 84, 195, 87, 170, 225, 27, 69, 183, 176, 162, 199, 189, 40, 168, 220, 153, 250, 127, 7, 65, 67, 203, 78, 36, 62, 193, 12, 129, 93, 131, 117, 213, 76, 214, 83, 164, 105, 108, 160, 188, 15, 90, 202, 171, 93, 185, 108, 94, 125, 90, 168, 88, 57, 95, 210, 141, 125, 5, 225, 163, 136, 104, 243, 185, 197, 74, 130, 72, 81, 197, 126, 126, 71, 100, 61, 229, 12, 42, 243, 232, 201, 193, 73, 7, 246, 202, 59, 58, 160, 112, 233, 170, 49, 59, 82, 181, 236, 95, 156, 106, 191, 186, 198, 52, 170, 80, 64, 159, 167, 102, 103, 118, 83, 81, 102, 4, 149, 67, 83, 149, 3, 20, 251, 134, 228, 1, 146, 37, 33, 98, 123, 206, 185, 153, 157, 90, 170, 201, 69, 236, 244, 35, 245, 109, 165, 142, 162, 183, 202, 81, 103, 69, 191, 234, 252, 73, 144, 75, 73, 96, 137]
theorem ex_w : chkW (exK) exW = true := by decide +kernel
theorem ex_s : chkS (cLit exW) (exB) exS = true := by decide +kernel
/-- 8e a2 b7 ca 51 67 45 bf ea fc 49 90 4b 49 60 89 -/
def exO : List UInt8 := [142, 162, 183, 202, 81, 103, 69, 191, 234, 252, 73, 144, 75, 73, 96, 137]
theorem aes_ex : Same 16 (aesN (exK) (exB)) (litF exO) := by
  intro i hi
  unfold aesN
  rw [cf_lit ex_w, st_lit ex_s 14 (by omega) i hi]
  have h : ∀ i, i < 16 → row exS 14 i = litF exO i := by decide +kernel
  exact h i hi

def noW : List UInt8 := [0, 0, 0, 0, 0, 0, 0, 0, 0, 0, 0, 0, 0, 0, 0, 0, 0, 0, 0, 0, 0, 0, 0, 0, 0, 0, 0, 0, 0, 0, 0, 0, 98, 99, 99, 99, 98, 99, 99, 99, 98, 99, 99, 99, 98, 99, 99, 99, 170, 251, 251, 251, 170, 251, 251, 251, 170, 251, 251, 251, 170, 251, 251, 251, 111, 108, 108, 207, 13, 15, 15, 172, 111, 108, 108, 207, 13, 15, 15, 172, 125, 141, 141, 106, 215, 118, 118, 145, 125, 141, 141, 106, 215, 118, 118, 145, 83, 84, 237, 193, 94, 91, 226, 109, 49, 55, 142, 162, 60, 56, 129, 14, 150, 138, 129, 193, 65, 252, 247, 80, 60, 113, 122, 58, 235, 7, 12, 171, 158, 170, 143, 40, 192, 241, 109, 69, 241, 198, 227, 231, 205, 254, 98, 233, 43, 49, 43, 223, 106, 205, 220, 143, 86, 188, 166, 181, 189, 187, 170, 30, 100, 6, 253, 82, 164, 247, 144, 23, 85, 49, 115, 240, 152, 207, 17, 25, 109, 187, 169, 11, 7, 118, 117, 132, 81, 202, 211, 49, 236, 113, 121, 47, 231, 176, 232, 156, 67, 71, 120, 139, 22, 118, 11, 123, 142, 185, 26, 98, 116, 237, 11, 161, 115, 155, 126, 37, 34, 81, 173, 20, 206, 32, 212, 59, 16, 248, 10, 23, 83, 191, 114, 156, 69, 201, 121, 231, 203, 112, 99, 133]
def noS : List UInt8 := [0, 0, 0, 0, 0, 0, 0, 0, 0, 0, 0, 0, 0, 0, 0, 0, 99, 99, 99, 99, 99, 99, 99, 99, 99, 99, 99, 99, 99, 99, 99, 99, 153, 152, 152, 152, 153, 152, 152, 152, 153, 152, 152, 152, 153, 152, 152, 152, 167, 21, 21, 94, 167, 21, 21, 94, 167, 21, 21, 94, 167, 21, 21, 94, 61, 49, 51, 155, 95, 82, 80, 248, 61, 49, 51, 155, 95, 82, 80, 248, 177, 181, 244, 66, 71, 205, 228, 103, 177, 181, 244, 66, 71, 205, 228, 103, 62, 162, 105, 145, 36, 221, 49, 114, 92, 193, 10, 242, 70, 190, 82, 17, 84, 138, 161, 181, 36, 187, 33, 107, 248, 44, 183, 51, 95, 242, 121, 177, 154, 109, 79, 128, 92, 49, 57, 105, 190, 167, 206, 97, 244, 18, 108, 189, 227, 224, 215, 180, 135, 2, 38, 220, 44, 245, 194, 248, 97, 165, 39, 47, 239, 131, 238, 25, 250, 245, 110, 5, 53, 216, 137, 124, 211, 186, 41, 167, 2, 29, 33, 136, 143, 185, 15, 132, 34, 188, 92, 154, 128, 126, 230, 214, 79, 67, 92, 238, 64, 179, 62, 102, 135, 91, 107, 101, 54, 5, 76, 151, 39, 186, 159, 47, 43, 179, 100, 126, 200, 125, 16, 106, 21, 145, 99, 6, 220, 149, 192, 120, 162, 64, 137, 137, 173, 72, 162, 20, 146, 132, 32, 135]
theorem no_w : chkW (fun _ => 0) noW = true := by decide +kernel
theorem no_s : chkS (cLit noW) (fun _ => 0) noS = true := by decide +kernel
/-- dc 95 c0 78 a2 40 89 89 ad 48 a2 14 92 84 20 87 -/
def noO : List UInt8 := [220, 149, 192, 120, 162, 64, 137, 137, 173, 72, 162, 20, 146, 132, 32, 135]
theorem aes_no : Same 16 (aesN (fun _ => 0) (fun _ => 0)) (litF noO) := by
  intro i hi
  unfold aesN
  rw [cf_lit no_w, st_lit no_s 14 (by omega) i hi]
  have h : ∀ i, i < 16 → row noS 14 i = litF noO i := by decide +kernel
  exact h i hi

end Go.Proofs.Ytgmnigobappjbaa
