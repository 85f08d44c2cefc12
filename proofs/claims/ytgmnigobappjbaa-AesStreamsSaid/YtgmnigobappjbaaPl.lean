/- A block's steps, as plain bytes. No program is named here. Conditions: none. -/
import Derived.Test.YtgmnigobappjbaaSc
namespace Go.Proofs.Ytgmnigobappjbaa

/-- A block and a round's words. -/
def addN (C x : Nat → UInt8) (r k : Nat) : Nat → UInt8 := fun i => if i < k then xr (x i) (C (16 * r + i)) else x i

theorem addN_step (C x : Nat → UInt8) (r k : Nat) : upd8 (addN C x r k) k (xr (addN C x r k k) (C (16 * r + k))) = addN C x r (k + 1) := by
  funext j
  unfold upd8 addN
  by_cases e : j = k
  · subst e
    simp
  · rw [if_neg e]
    by_cases h : j < k
    · rw [if_pos h, if_pos (by omega)]
    · rw [if_neg h, if_neg (by omega)]

/-- A byte of a column. -/
def colN (x : Nat → UInt8) (i k : Nat) : UInt8 := x (i / 4 * 4 + (i + k) % 4)
def mixAt (x : Nat → UInt8) (i : Nat) : UInt8 := xr (xr (xr (xr (twi (colN x i 0)) (twi (colN x i 1))) (colN x i 1)) (colN x i 2)) (colN x i 3)
def mixN (x : Nat → UInt8) (k : Nat) : Nat → UInt8 := fun i => if i < k then mixAt x i else 0
theorem mixN_step (x : Nat → UInt8) (k : Nat) : upd8 (mixN x k) k (mixAt x k) = mixN x (k + 1) := by
  funext j
  unfold upd8 mixN
  by_cases e : j = k
  · subst e
    simp
  · rw [if_neg e]
    by_cases h : j < k
    · rw [if_pos h, if_pos (by omega)]
    · rw [if_neg h, if_neg (by omega)]

/-- Bytes put through S, rows turned. -/
def subAt (C x : Nat → UInt8) (i : Nat) : UInt8 := C (240 + (x ((i + 4 * (i % 4)) % 16)).toNat)
def subN (C x : Nat → UInt8) (k : Nat) : Nat → UInt8 := fun i => if i < k then subAt C x i else 0
def midN (C x : Nat → UInt8) (r : Nat) : Nat → UInt8 := if r < 14 then mixN (subN C x 16) 16 else subN C x 16
def rdN (C x : Nat → UInt8) (r : Nat) : Nat → UInt8 := addN C (midN C x r) r 16
def stN (C x : Nat → UInt8) : Nat → Nat → UInt8
  | 0 => addN C x 0 16
  | r + 1 => rdN C (stN C x r) (r + 1)
theorem subN_step (C x : Nat → UInt8) (k : Nat) : upd8 (subN C x k) k (subAt C x k) = subN C x (k + 1) := by
  funext j
  unfold upd8 subN
  by_cases e : j = k
  · subst e
    simp
  · rw [if_neg e]
    by_cases h : j < k
    · rw [if_pos h, if_pos (by omega)]
    · rw [if_neg h, if_neg (by omega)]

theorem st_mix (C x : Nat → UInt8) {r : Nat} (h : r < 13) : addN C (mixN (subN C (stN C x r) 16) 16) (r + 1) 16 = stN C x (r + 1) := by
  show _ = addN C (midN C (stN C x r) (r + 1)) (r + 1) 16
  rw [midN, if_pos (by omega)]
theorem st_last (C x : Nat → UInt8) {r : Nat} (h : ¬ r < 13) : addN C (subN C (stN C x r) 16) (r + 1) 16 = stN C x (r + 1) := by
  show _ = addN C (midN C (stN C x r) (r + 1)) (r + 1) 16
  rw [midN, if_neg (by omega)]

/-- A block, enciphered. -/
def aesN (key x : Nat → UInt8) : Nat → UInt8 := stN (cfN key 240) x 14

end Go.Proofs.Ytgmnigobappjbaa
