/- Sources and draws as plain numbers. No program is named here. Conditions: none. -/
import GoSem.Core.Value
import Derived.Laws.Bits64
namespace Go.Proofs.Ytgjdkdfgfbonfaa

/-- The next source. -/
def nx (s : Int) : Int := IntKind.u64.wrap (IntKind.u64.wrap (s * 6364136223846793005) + 1442695040888963407)
/-- What a source tells. -/
def tl (s : Int) : Int := s / 4294967296
/-- A draw of n, from 1 to 2^31: the value. -/
def dr (s n : Int) : Int := tl (nx s) * n / 4294967296

theorem nx_range (s : Int) : 0 ≤ nx s ∧ nx s ≤ 18446744073709551615 := by
  unfold nx; rw [IntKind.wrap_u64]; omega
theorem tl_range {s : Int} (h0 : 0 ≤ s) (h1 : s ≤ 18446744073709551615) : 0 ≤ tl s ∧ tl s ≤ 4294967295 := by
  unfold tl; omega
theorem mul_hi {a n : Int} (h0 : 0 ≤ a) (h1 : a ≤ 4294967295) (hn0 : 1 ≤ n) : 0 ≤ a * n ∧ a * n ≤ 4294967295 * n :=
  ⟨Int.mul_nonneg h0 (by omega), Int.mul_le_mul_of_nonneg_right h1 (by omega)⟩
theorem dr_range (s n : Int) (hn0 : 1 ≤ n) : 0 ≤ dr s n ∧ dr s n < n := by
  obtain ⟨h0, h1⟩ := tl_range (nx_range s).1 (nx_range s).2
  obtain ⟨h2, h3⟩ := mul_hi h0 h1 hn0
  unfold dr
  omega
theorem dr_mid (s n : Int) (hn0 : 1 ≤ n) (hn1 : n ≤ 2147483648) : 0 ≤ tl (nx s) * n ∧ tl (nx s) * n ≤ 18446744073709551615 := by
  obtain ⟨h0, h1⟩ := tl_range (nx_range s).1 (nx_range s).2
  obtain ⟨h2, h3⟩ := mul_hi h0 h1 hn0
  omega
theorem tl_mod (s : Int) : tl (nx s) % 4294967296 = tl (nx s) := by
  obtain ⟨h0, h1⟩ := tl_range (nx_range s).1 (nx_range s).2
  omega

end Go.Proofs.Ytgjdkdfgfbonfaa
