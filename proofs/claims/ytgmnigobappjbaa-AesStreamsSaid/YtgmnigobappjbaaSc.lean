/- A key's words, as plain bytes. No program is named here. Conditions: none. -/
import Derived.Test.YtgmnigobappjbaaTab
import Derived.Test.YtgmnigobappjbaaArr
namespace Go.Proofs.Ytgmnigobappjbaa

/-- The power of two that stands ahead of round n. -/
def pwN : Nat → UInt8
  | 0 => 1
  | n + 1 => twi (pwN n)
/-- The word ahead, turned, put through S, the power laid on: step by step. -/
def pvN (W : Nat → UInt8) (i : Nat) : Nat → UInt8 := fun k => W (4 * (i - 1) + k)
def trN (W : Nat → UInt8) (i : Nat) : Nat → UInt8 := if i % 8 = 0 then fun k => pvN W i ((k + 1) % 4) else pvN W i
def tsN (W : Nat → UInt8) (i : Nat) : Nat → UInt8 := if i % 4 = 0 then fun k => sx (trN W i k) else trN W i
def tN (W : Nat → UInt8) (i : Nat) : Nat → UInt8 := if i % 8 = 0 then upd8 (tsN W i) 0 (xr (tsN W i 0) (pwN ((i - 1) / 8))) else tsN W i

theorem tN_congr {W W' : Nat → UInt8} {i : Nat} (h : ∀ k, k < 4 → W (4 * (i - 1) + k) = W' (4 * (i - 1) + k)) {k : Nat} (hk : k < 4) : tN W i k = tN W' i k := by
  have h1 : ∀ k, k < 4 → trN W i k = trN W' i k := fun k hk => by
    unfold trN pvN
    split
    · exact h _ (by omega)
    · exact h _ hk
  have h2 : ∀ k, k < 4 → tsN W i k = tsN W' i k := fun k hk => by
    unfold tsN
    split
    · exact congrArg sx (h1 k hk)
    · exact h1 k hk
  unfold tN
  split
  · unfold upd8
    split
    · rw [h2 0 (by omega)]
    · exact h2 k hk
  · exact h2 k hk

/-- A key's bytes, spread: with so many steps at most. -/
def wF (key : Nat → UInt8) : Nat → Nat → UInt8
  | 0, j => key j
  | f + 1, j => if j < 32 then key j else xr (wF key f (j - 32)) (tN (wF key f) (j / 4) (j % 4))
def wK (key : Nat → UInt8) (j : Nat) : UInt8 := wF key (j + 1) j

theorem wF_free (key : Nat → UInt8) : ∀ (f g j : Nat), j < f → j < g → wF key f j = wF key g j
  | 0, _, j, h, _ => by omega
  | _, 0, j, _, h => by omega
  | f + 1, g + 1, j, h1, h2 => by
    simp only [wF]
    by_cases h : j < 32
    · rw [if_pos h, if_pos h]
    · rw [if_neg h, if_neg h, wF_free key f g (j - 32) (by omega) (by omega)]
      congr 1
      exact tN_congr (fun k hk => wF_free key f g _ (by omega) (by omega)) (by omega)
theorem wK_key (key : Nat → UInt8) {j : Nat} (h : j < 32) : wK key j = key j := by
  simp only [wK, wF, if_pos h]
theorem wK_step (key : Nat → UInt8) {i k : Nat} (hi : 8 ≤ i) (hk : k < 4) : wK key (4 * i + k) = xr (wK key (4 * (i - 8) + k)) (tN (wK key) i k) := by
  rw [wK, wF, if_neg (by omega), show (4 * i + k) / 4 = i from by omega, show (4 * i + k) % 4 = k from by omega]
  congr 1
  · rw [show 4 * i + k - 32 = 4 * (i - 8) + k from by omega]
    exact wF_free key (4 * i + k) (4 * (i - 8) + k + 1) (4 * (i - 8) + k) (by omega) (by omega)
  · exact tN_congr (fun m hm => wF_free key (4 * i + k) (4 * (i - 1) + m + 1) (4 * (i - 1) + m) (by omega) (by omega)) hk

/-- The cells of a cipher: the first n bytes of its words are laid. -/
def cfN (key : Nat → UInt8) (n : Nat) : Nat → UInt8 := fun j => if j < 240 then (if j < n then wK key j else 0) else sN (j - 240)
theorem cfN_lay (key : Nat → UInt8) {n : Nat} (hn : n < 240) : upd8 (cfN key n) n (wK key n) = cfN key (n + 1) := by
  funext j
  unfold upd8 cfN
  by_cases e : j = n
  · subst e
    rw [if_pos rfl, if_pos hn, if_pos (by omega)]
  · rw [if_neg e]
    by_cases h1 : j < 240
    · rw [if_pos h1, if_pos h1]
      by_cases h2 : j < n
      · rw [if_pos h2, if_pos (by omega)]
      · rw [if_neg h2, if_neg (by omega)]
    · rw [if_neg h1, if_neg h1]
theorem cfN_copy (key : Nat → UInt8) {k : Nat} (hk : k < 8) : spl (cfN key (4 * k)) (4 * k) 4 (fun j => key (4 * k + j)) = cfN key (4 * (k + 1)) := by
  funext j
  unfold spl cfN
  by_cases h : 4 * k ≤ j ∧ j < 4 * k + 4
  · rw [if_pos h, if_pos (by omega), if_pos (by omega), wK_key key (by omega)]
    show key (4 * k + (j - 4 * k)) = key j
    rw [show 4 * k + (j - 4 * k) = j from by omega]
  · rw [if_neg h]
    by_cases h1 : j < 240
    · rw [if_pos h1, if_pos h1]
      by_cases h2 : j < 4 * k
      · rw [if_pos h2, if_pos (by omega)]
      · rw [if_neg h2, if_neg (by omega)]
    · rw [if_neg h1, if_neg h1]
theorem cfN_at (key : Nat → UInt8) {n j : Nat} (h : j < n) (hn : n ≤ 240) : cfN key n j = wK key j := by
  unfold cfN
  rw [if_pos (by omega), if_pos h]
theorem cfN_s (key : Nat → UInt8) (n v : Nat) : cfN key n (240 + v) = sN v := by
  unfold cfN
  rw [if_neg (by omega), show 240 + v - 240 = v from by omega]

/-- A word, of which k bytes have been put through S. -/
def ssN (W : Nat → UInt8) (i k : Nat) : Nat → UInt8 := fun j => if j < k then sx (trN W i j) else trN W i j
theorem ssN_step (W : Nat → UInt8) (i k : Nat) : upd8 (ssN W i k) k (sx (trN W i k)) = ssN W i (k + 1) := by
  funext j
  unfold upd8 ssN
  by_cases e : j = k
  · subst e
    rw [if_pos rfl, if_pos (by omega)]
  · rw [if_neg e]
    by_cases h2 : j < k
    · rw [if_pos h2, if_pos (by omega)]
    · rw [if_neg h2, if_neg (by omega)]
theorem ssN_here (W : Nat → UInt8) (i k : Nat) : ssN W i k k = trN W i k := by
  unfold ssN
  rw [if_neg (by omega)]
theorem ssN_end (W : Nat → UInt8) {i : Nat} (h : i % 4 = 0) : arr 4 (ssN W i 4) = arr 4 (tsN W i) := by
  refine arr_ext fun j hj => ?_
  unfold ssN tsN
  rw [if_pos hj, if_pos h]
theorem tsN_skip (W : Nat → UInt8) {i : Nat} (h : ¬ i % 4 = 0) : tsN W i = trN W i := by
  unfold tsN
  rw [if_neg h]
theorem trN_skip (W : Nat → UInt8) {i : Nat} (h : ¬ i % 8 = 0) : trN W i = pvN W i := by
  unfold trN
  rw [if_neg h]
theorem tN_skip (W : Nat → UInt8) {i : Nat} (h : ¬ i % 8 = 0) : tN W i = tsN W i := by
  unfold tN
  rw [if_neg h]
theorem tN_turn (W : Nat → UInt8) {i : Nat} (h : i % 8 = 0) : upd8 (tsN W i) 0 (xr (tsN W i 0) (pwN ((i - 1) / 8))) = tN W i := by
  unfold tN
  rw [if_pos h]
theorem trN_turn (W : Nat → UInt8) {i : Nat} (h : i % 8 = 0) : #[byt (pvN W i 1), byt (pvN W i 2), byt (pvN W i 3), byt (pvN W i 0)] = arr 4 (trN W i) := by
  rw [arr4, trN, if_pos h]
theorem pw_turn {i : Nat} (h : i % 8 = 0) (h8 : 8 ≤ i) : twi (pwN ((i - 1) / 8)) = pwN ((i + 1 - 1) / 8) := by
  rw [show (i + 1 - 1) / 8 = (i - 1) / 8 + 1 from by omega]
  rfl
theorem pw_skip {i : Nat} (h : ¬ i % 8 = 0) : pwN ((i - 1) / 8) = pwN ((i + 1 - 1) / 8) := by
  rw [show (i + 1 - 1) / 8 = (i - 1) / 8 from by omega]
theorem cfN_word (key : Nat → UInt8) {i k : Nat} (hi : 8 ≤ i) (hi6 : i < 60) (hk : k < 4) : arr 496 (upd8 (cfN key (4 * i + k)) (i * 4 + k) (xr (wK key (4 * (i - 8) + k)) (tN (wK key) i k))) = arr 496 (cfN key (4 * i + (k + 1))) := by
  rw [← wK_step key hi hk, Nat.mul_comm i 4, cfN_lay key (by omega)]
  rfl

end Go.Proofs.Ytgmnigobappjbaa
