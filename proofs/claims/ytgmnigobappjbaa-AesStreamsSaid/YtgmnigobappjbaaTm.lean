/- Two bytes multiplied; the mirror of a byte. Plain; no program is named here. Conditions: none. -/
import Derived.Test.YtgmnigobappjbaaAp
namespace Go.Proofs.Ytgmnigobappjbaa

def half (b : UInt8) : UInt8 := by8 (b.toNat / 2)
def odd (b : UInt8) : Bool := b.toNat % 2 == 1
/-- So many steps of a product: n: what has come together. -/
def tmF : Nat → UInt8 → UInt8 → UInt8 → UInt8
  | 0, n, _, _ => n
  | f + 1, n, a, b => tmF f (if odd b then xr n a else n) (twi a) (half b)
def tim (a b : UInt8) : UInt8 := tmF 8 0 a b

theorem tmF_acc : ∀ f n m a b, tmF f (xr n m) a b = xr n (tmF f m a b)
  | 0, _, _, _, _ => rfl
  | f + 1, n, m, a, b => by
    simp only [tmF]
    split
    · rw [xr_assoc, tmF_acc f]
    · rw [tmF_acc f]
theorem tmF_xr : ∀ f n m a a' b, tmF f (xr n m) (xr a a') b = xr (tmF f n a b) (tmF f m a' b)
  | 0, _, _, _, _, _ => rfl
  | f + 1, n, m, a, a', b => by
    simp only [tmF]
    rw [twi_xr]
    split
    · rw [← tmF_xr f, xr_assoc, xr_left m, ← xr_assoc]
    · rw [← tmF_xr f]
theorem tim_xr (a a' b : UInt8) : tim (xr a a') b = xr (tim a b) (tim a' b) := by
  unfold tim
  rw [← tmF_xr, xr_self]
theorem tmF_twi : ∀ f n a b, tmF f (twi n) (twi a) b = twi (tmF f n a b)
  | 0, _, _, _ => rfl
  | f + 1, n, a, b => by
    simp only [tmF]
    split
    · rw [← twi_xr, tmF_twi f]
    · rw [tmF_twi f]
theorem tim_twi (a b : UInt8) : tim (twi a) b = twi (tim a b) := by
  unfold tim
  rw [← tmF_twi]
  rfl
theorem tim_zero_tmF : ∀ f b, tmF f 0 0 b = 0
  | 0, _ => rfl
  | f + 1, b => by
    simp only [tmF]
    rw [show xr 0 0 = 0 from rfl, twi_zero, ite_self]
    exact tim_zero_tmF f _
theorem zero_tim (b : UInt8) : tim 0 b = 0 := tim_zero_tmF 8 b
theorem tmF_tim (c : UInt8) : ∀ f n a b, tim (tmF f n a b) c = tmF f (tim n c) (tim a c) b
  | 0, _, _, _ => rfl
  | f + 1, n, a, b => by
    simp only [tmF]
    rw [tmF_tim c f, tim_twi]
    split
    · rw [tim_xr]
    · rfl
theorem tim_right (a b c : UInt8) : tim (tim a b) c = tim (tim a c) b := by
  show tim (tmF 8 0 a b) c = tmF 8 0 (tim a c) b
  rw [tmF_tim, zero_tim]
theorem one_tim (b : UInt8) : tim 1 b = b := by
  have h := all_lt (n := 256) (p := fun n => tim 1 (by8 n) == by8 n) (by decide +kernel) b.toNat_lt
  have e : by8 b.toNat = b := UInt8.ofNat_toNat
  simpa [e] using h
theorem tim_comm (a b : UInt8) : tim a b = tim b a := by
  have h := tim_right 1 a b
  rwa [one_tim, one_tim] at h
theorem tim_mirror {k : Nat} (hk : k < 255) : tim (pN k) (qN k) = 1 := by
  simpa using all_lt (n := 255) (p := fun k => tim (pN k) (qN k) == 1) (by decide +kernel) hk
theorem mirror_one {a b c : UInt8} (h : tim a b = 1) (h' : tim a c = 1) : b = c := by
  have h1 := tim_right a b c
  rw [h, h', one_tim, one_tim] at h1
  exact h1.symm

/-- The last of the numbers from 1 to k - 1 by which b makes 1. -/
def mN (b : UInt8) : Nat → UInt8
  | 0 => 0
  | k + 1 => if 1 ≤ k ∧ tim b (by8 k) = 1 then by8 k else mN b k
theorem mN_zero : ∀ k, mN 0 k = 0
  | 0 => rfl
  | k + 1 => by
    simp only [mN]
    rw [if_neg (fun h => by rw [zero_tim] at h; exact absurd h.2 (by decide)), mN_zero k]
theorem mN_is {b c : UInt8} (h : tim b c = 1) : ∀ k, k ≤ 256 → mN b k = if 1 ≤ c.toNat ∧ c.toNat < k then c else 0
  | 0, _ => by rw [if_neg (by omega)]; rfl
  | k + 1, hk => by
    simp only [mN]
    by_cases hc : 1 ≤ k ∧ tim b (by8 k) = 1
    · rw [if_pos hc]
      have e := mirror_one hc.2 h
      have hkt : (by8 k).toNat = k := by8_toNat (by omega)
      rw [e] at hkt
      rw [e, if_pos (by omega)]
    · rw [if_neg hc, mN_is h k (by omega)]
      by_cases h2 : 1 ≤ c.toNat ∧ c.toNat < k
      · rw [if_pos h2, if_pos (by omega)]
      · rw [if_neg h2]
        by_cases h3 : 1 ≤ c.toNat ∧ c.toNat < k + 1
        · exfalso
          have hck : c.toNat = k := by omega
          have e : by8 k = c := by rw [← hck]; exact UInt8.ofNat_toNat
          exact hc ⟨by omega, by rw [e]; exact h⟩
        · rw [if_neg h3]
theorem q_pos {k : Nat} (hk : k < 255) : 1 ≤ (qN k).toNat := by
  simpa using all_lt (n := 255) (p := fun k => decide (1 ≤ (qN k).toNat)) (by decide +kernel) hk
/-- S, by the mirror that was looked for. -/
theorem aff_mirror (b : UInt8) : affN (mN b 256) = sx b := by
  by_cases h0 : b = 0
  · subst h0
    rw [mN_zero]
    rfl
  · have hb : b.toNat ≠ 0 := fun h => h0 (UInt8.toNat_inj.1 h)
    obtain ⟨hl, hp⟩ := p_log b.toNat_lt hb
    have hbp : pN (lN b.toNat) = b := UInt8.toNat_inj.1 hp
    have hm := tim_mirror hl
    rw [hbp] at hm
    rw [mN_is hm 256 (by omega), if_pos ⟨q_pos hl, (qN (lN b.toNat)).toNat_lt⟩, step_s hl, hp]
    rfl

end Go.Proofs.Ytgmnigobappjbaa
