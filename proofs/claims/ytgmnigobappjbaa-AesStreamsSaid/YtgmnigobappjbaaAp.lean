/- A block's steps can be taken back. Plain; no program is named here. Conditions: none. -/
import Derived.Test.YtgmnigobappjbaaPl
namespace Go.Proofs.Ytgmnigobappjbaa

theorem xr_comm (a b : UInt8) : xr a b = xr b a := UInt8.xor_comm a b
theorem xr_assoc (a b c : UInt8) : xr (xr a b) c = xr a (xr b c) := UInt8.xor_assoc a b c
theorem xr_left (a b c : UInt8) : xr a (xr b c) = xr b (xr a c) := by rw [← xr_assoc, xr_comm a b, xr_assoc]
theorem xr_self (a : UInt8) : xr a a = 0 := UInt8.xor_self
theorem xr_zero (a : UInt8) : xr a 0 = a := UInt8.xor_zero
theorem zero_xr (a : UInt8) : xr 0 a = a := UInt8.zero_xor
theorem xr_again (a b : UInt8) : xr a (xr a b) = b := by rw [← xr_assoc, xr_self, zero_xr]
theorem xr_eq {a b : UInt8} (h : xr a b = 0) : a = b := by
  have := xr_again a b
  rw [h, xr_zero] at this
  exact this
theorem xr_cancel {a b c : UInt8} (h : xr a c = xr b c) : a = b := by
  have := congrArg (fun x => xr x c) h
  simpa only [xr_assoc, xr_self, xr_zero] using this

theorem nat_shl_xor (a b : Nat) : (a ^^^ b) * 2 % 256 = (a * 2 % 256) ^^^ (b * 2 % 256) := by
  have h : ∀ x : Nat, x * 2 = x <<< 1 := fun x => by rw [Nat.shiftLeft_eq]
  rw [h, h, h, Nat.shiftLeft_xor_distrib, show (256 : Nat) = 2 ^ 8 from rfl, Nat.xor_mod_two_pow]
theorem nat_red_xor {a b : Nat} (ha : a < 256) (hb : b < 256) : (a ^^^ b) / 128 * 27 % 256 = (a / 128 * 27 % 256) ^^^ (b / 128 * 27 % 256) := by
  have h : ∀ x : Nat, x / 128 = x >>> 7 := fun x => by rw [Nat.shiftRight_eq_div_pow]
  rw [h (a ^^^ b), Nat.shiftRight_xor_distrib, ← h, ← h]
  have h1 : a / 128 = 0 ∨ a / 128 = 1 := by omega
  have h2 : b / 128 = 0 ∨ b / 128 = 1 := by omega
  rcases h1 with h1 | h1 <;> rcases h2 with h2 | h2 <;> rw [h1, h2] <;> rfl
theorem twi_xr (a b : UInt8) : twi (xr a b) = xr (twi a) (twi b) := by
  apply UInt8.toNat_inj.1
  unfold twi xr
  simp only [UInt8.toNat_xor]
  rw [by8_toNat (by omega), by8_toNat (by omega), by8_toNat (by omega), by8_toNat (by omega), by8_toNat (by omega), by8_toNat (by omega), nat_shl_xor, nat_red_xor a.toNat_lt b.toNat_lt]
  ac_rfl
theorem twi_zero : twi 0 = 0 := rfl

/-- What is made of a column's bytes. -/
def colM (a b c d : UInt8) : UInt8 := xr (xr (xr (xr (twi a) (twi b)) b) c) d

theorem colM_xr (a b c d a' b' c' d' : UInt8) : colM (xr a a') (xr b b') (xr c c') (xr d d') = xr (colM a b c d) (colM a' b' c' d') := by
  unfold colM
  simp only [twi_xr, xr_comm, xr_left]

theorem col_zero {a b c d : UInt8} (h0 : colM a b c d = 0) (h1 : colM b c d a = 0) (h2 : colM c d a b = 0) (h3 : colM d a b c = 0) : a = 0 ∧ b = 0 ∧ c = 0 ∧ d = 0 := by
  have hS : xr (xr a b) (xr c d) = 0 := by
    have : xr (xr (colM a b c d) (colM b c d a)) (xr (colM c d a b) (colM d a b c)) = xr (xr a b) (xr c d) := by
      unfold colM
      simp only [xr_comm, xr_left, xr_again, xr_self, xr_zero]
    rw [← this, h0, h1, h2, h3]
    rfl
  have hd : d = xr (xr a b) c := by
    apply Eq.symm
    apply xr_eq
    rw [← hS]
    simp only [xr_assoc]
  subst hd
  unfold colM at h0 h1 h2 h3
  simp only [twi_xr, xr_comm, xr_left, xr_again, xr_self] at h0 h1 h2 h3
  have e0 := xr_eq h0
  rw [zero_xr] at h2
  have e2 := xr_eq h2
  have e1 := xr_eq h1
  have hc : c = a := e2.trans e0.symm
  rw [hc, xr_comm] at e1
  have hb : b = a := e1.trans e0.symm
  rw [hb, xr_self] at e0
  subst e0
  subst hc
  subst hb
  exact ⟨rfl, rfl, rfl, rfl⟩

theorem col_inj {a b c d a' b' c' d' : UInt8} (h0 : colM a b c d = colM a' b' c' d') (h1 : colM b c d a = colM b' c' d' a') (h2 : colM c d a b = colM c' d' a' b') (h3 : colM d a b c = colM d' a' b' c') : a = a' ∧ b = b' ∧ c = c' ∧ d = d' := by
  have h := @col_zero (xr a a') (xr b b') (xr c c') (xr d d') (by rw [colM_xr, h0, xr_self]) (by rw [colM_xr, h1, xr_self]) (by rw [colM_xr, h2, xr_self]) (by rw [colM_xr, h3, xr_self])
  exact ⟨xr_eq h.1, xr_eq h.2.1, xr_eq h.2.2.1, xr_eq h.2.2.2⟩

def Same (n : Nat) (f g : Nat → UInt8) : Prop := ∀ i, i < n → f i = g i

theorem mixAt_col (x : Nat → UInt8) (c k : Nat) (hk : k < 4) : mixAt x (4 * c + k) = colM (x (4 * c + k % 4)) (x (4 * c + (k + 1) % 4)) (x (4 * c + (k + 2) % 4)) (x (4 * c + (k + 3) % 4)) := by
  have e : ∀ j, colN x (4 * c + k) j = x (4 * c + (k + j) % 4) := fun j => by
    unfold colN
    congr 1
    omega
  unfold mixAt colM
  rw [e, e, e, e]
  rfl

theorem mix_inj {x y : Nat → UInt8} (h : Same 16 (mixN x 16) (mixN y 16)) : Same 16 x y := by
  have hm : ∀ i, i < 16 → mixAt x i = mixAt y i := fun i hi => by
    have := h i hi
    unfold mixN at this
    rwa [if_pos hi, if_pos hi] at this
  have hc : ∀ c, c < 4 → x (4 * c) = y (4 * c) ∧ x (4 * c + 1) = y (4 * c + 1) ∧ x (4 * c + 2) = y (4 * c + 2) ∧ x (4 * c + 3) = y (4 * c + 3) := fun c hc => by
    have h0 := hm (4 * c + 0) (by omega)
    have h1 := hm (4 * c + 1) (by omega)
    have h2 := hm (4 * c + 2) (by omega)
    have h3 := hm (4 * c + 3) (by omega)
    rw [mixAt_col x c _ (by omega), mixAt_col y c _ (by omega)] at h0 h1 h2 h3
    exact col_inj h0 h1 h2 h3
  intro i hi
  have h4 := hc (i / 4) (by omega)
  have hr : i % 4 = 0 ∨ i % 4 = 1 ∨ i % 4 = 2 ∨ i % 4 = 3 := by omega
  rcases hr with hr | hr | hr | hr
  · have := h4.1
    rwa [show 4 * (i / 4) = i from by omega] at this
  · have := h4.2.1
    rwa [show 4 * (i / 4) + 1 = i from by omega] at this
  · have := h4.2.2.1
    rwa [show 4 * (i / 4) + 2 = i from by omega] at this
  · have := h4.2.2.2
    rwa [show 4 * (i / 4) + 3 = i from by omega] at this

theorem add_inj {C x y : Nat → UInt8} {r : Nat} (h : Same 16 (addN C x r 16) (addN C y r 16)) : Same 16 x y := fun i hi => by
  have := h i hi
  unfold addN at this
  rw [if_pos hi, if_pos hi] at this
  exact xr_cancel this

theorem sub_inj {C x y : Nat → UInt8} (hC : ∀ v, C (240 + v) = sN v) (h : Same 16 (subN C x 16) (subN C y 16)) : Same 16 x y := fun i hi => by
  have := h ((i + 12 * (i % 4)) % 16) (by omega)
  unfold subN at this
  rw [if_pos (by omega), if_pos (by omega)] at this
  unfold subAt at this
  rw [hC, hC, show ((i + 12 * (i % 4)) % 16 + 4 * ((i + 12 * (i % 4)) % 16 % 4)) % 16 = i from by omega] at this
  exact sx_inj this

theorem mid_inj {C x y : Nat → UInt8} {r : Nat} (hC : ∀ v, C (240 + v) = sN v) (h : Same 16 (midN C x r) (midN C y r)) : Same 16 x y := by
  unfold midN at h
  split at h
  · exact sub_inj hC (mix_inj h)
  · exact sub_inj hC h

theorem st_inj {C x y : Nat → UInt8} (hC : ∀ v, C (240 + v) = sN v) : ∀ r, Same 16 (stN C x r) (stN C y r) → Same 16 x y
  | 0, h => add_inj h
  | r + 1, h => st_inj hC r (mid_inj hC (add_inj h))

theorem aes_inj {key x y : Nat → UInt8} (h : Same 16 (aesN key x) (aesN key y)) : Same 16 x y := st_inj (cfN_s key 240) 14 h

/-! ### What lies beyond the block does not matter -/
theorem add_same {C x y : Nat → UInt8} {r : Nat} (h : Same 16 x y) : Same 16 (addN C x r 16) (addN C y r 16) := fun i hi => by
  unfold addN
  rw [h i hi]
theorem sub_same {C x y : Nat → UInt8} (h : Same 16 x y) : Same 16 (subN C x 16) (subN C y 16) := fun i hi => by
  unfold subN subAt
  rw [h _ (Nat.mod_lt _ (by omega))]
theorem mix_same {x y : Nat → UInt8} (h : Same 16 x y) : Same 16 (mixN x 16) (mixN y 16) := fun i hi => by
  unfold mixN mixAt colN
  rw [h _ (by omega), h _ (by omega), h _ (by omega), h _ (by omega)]
theorem mid_same {C x y : Nat → UInt8} {r : Nat} (h : Same 16 x y) : Same 16 (midN C x r) (midN C y r) := by
  unfold midN
  split
  · exact mix_same (sub_same h)
  · exact sub_same h
theorem st_same {C x y : Nat → UInt8} (h : Same 16 x y) : ∀ r, Same 16 (stN C x r) (stN C y r)
  | 0 => add_same h
  | r + 1 => add_same (mid_same (st_same h r))
theorem aes_same {key x y : Nat → UInt8} (h : Same 16 x y) : Same 16 (aesN key x) (aesN key y) := st_same h 14

end Go.Proofs.Ytgmnigobappjbaa
