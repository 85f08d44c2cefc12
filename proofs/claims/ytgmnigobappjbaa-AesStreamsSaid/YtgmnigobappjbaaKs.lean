/- The stream, as plain bytes. No program is named here. Conditions: none. -/
import Derived.Test.YtgmnigobappjbaaAp
import Derived.Test.YtgmnigobappjbaaRw
namespace Go.Proofs.Ytgmnigobappjbaa

/-- A number's four lowest bytes, the highest one first. -/
def bigN (X j : Nat) : UInt8 := by8 (X / 2 ^ (8 * (3 - j)) % 256)
/-- The block that is enciphered for the c-th sixteen bytes. -/
def ctrN (nonce : Nat → UInt8) (c : Nat) : Nat → UInt8 := spl (spl (fun _ => 0) 0 12 nonce) 12 4 (bigN c)
/-- The stream. -/
def ksN (key nonce : Nat → UInt8) (j : Nat) : UInt8 := aesN key (ctrN nonce (j / 16)) (j % 16)
/-- Bytes, of which the first p have been streamed. -/
def strN (f ks : Nat → UInt8) (p : Nat) : Nat → UInt8 := fun j => if j < p then xr (f j) (ks j) else f j

theorem strN_step (f ks : Nat → UInt8) (n p : Nat) (hp : p < n) : upd8 (only n (strN f ks p)) p (xr (f p) (ks p)) = only n (strN f ks (p + 1)) := by
  funext j
  unfold upd8 only strN
  by_cases e : j = p
  · subst e
    rw [if_pos rfl, if_pos hp, if_pos (by omega)]
  · rw [if_neg e]
    by_cases h : j < n
    · rw [if_pos h, if_pos h]
      by_cases h2 : j < p
      · rw [if_pos h2, if_pos (by omega)]
      · rw [if_neg h2, if_neg (by omega)]
    · rw [if_neg h, if_neg h]
theorem strN_past (f ks : Nat → UInt8) (n p p' : Nat) (hp : n ≤ p) (hp' : n ≤ p') : only n (strN f ks p) = only n (strN f ks p') := by
  funext j
  unfold only strN
  by_cases h : j < n
  · rw [if_pos h, if_pos h, if_pos (by omega), if_pos (by omega)]
  · rw [if_neg h, if_neg h]
theorem strN_here (f ks : Nat → UInt8) (n p : Nat) (hp : p < n) : only n (strN f ks p) p = f p := by
  unfold only strN
  rw [if_pos hp, if_neg (by omega)]
theorem strN_zero (f ks : Nat → UInt8) (n : Nat) : only n (strN f ks 0) = only n f := by
  funext j
  unfold only strN
  by_cases h : j < n
  · rw [if_pos h, if_pos h, if_neg (by omega)]
  · rw [if_neg h, if_neg h]

theorem ks_at (key nonce : Nat → UInt8) (q k : Nat) (hk : k < 16) : stN (cfN key 240) (ctrN nonce q) 14 k = ksN key nonce (16 * q + k) := by
  unfold ksN
  rw [show (16 * q + k) / 16 = q from by omega, show (16 * q + k) % 16 = k from by omega]
  rfl
theorem strN_end (f ks : Nat → UInt8) (n q m : Nat) (h : m = 16 ∨ 16 * q + m = n) (hm : m ≤ 16) : only n (strN f ks (16 * q + m)) = only n (strN f ks (16 * (q + 1))) := by
  rcases h with rfl | h
  · rfl
  · exact strN_past f ks n _ _ (by omega) (by omega)

end Go.Proofs.Ytgmnigobappjbaa
