/- So many Nexts, as a step that is made by doublings. Plain; no program is named here. Conditions: none. -/
import Derived.Test.YtgjdkdfgfbonfaaBut
namespace Go.Proofs.Ytgjdkdfgfbonfaa

/-- What a step makes of a source. -/
def aff (t m s : Int) : Int := (s * t + m) % 18446744073709551616
def itA (t m : Int) : Nat → Int → Int
  | 0, s => s
  | k + 1, s => itA t m k (aff t m s)

theorem aff_range (t m s : Int) : 0 ≤ aff t m s ∧ aff t m s < 18446744073709551616 := by unfold aff; omega
theorem mod_mul (a b N : Int) : (a % N * b) % N = (a * b) % N := by rw [Int.mul_emod, Int.emod_emod, ← Int.mul_emod]
theorem mul_mod (a b N : Int) : (a * (b % N)) % N = (a * b) % N := by rw [Int.mul_emod, Int.emod_emod, ← Int.mul_emod]
theorem mod_add (a b N : Int) : (a % N + b) % N = (a + b) % N := by rw [Int.add_emod, Int.emod_emod, ← Int.add_emod]
theorem add_mod (a b N : Int) : (a + b % N) % N = (a + b) % N := by rw [Int.add_emod, Int.emod_emod, ← Int.add_emod]

theorem aff_then (t m t' m' s : Int) : aff (t * t' % 18446744073709551616) ((m * t' % 18446744073709551616 + m') % 18446744073709551616) s = aff t' m' (aff t m s) := by
  unfold aff
  rw [add_mod, ← Int.add_assoc, Int.add_comm (s * _) _, Int.add_assoc, mod_add, ← Int.add_assoc, Int.add_comm (m * t') _, Int.add_assoc, ← mod_add (s * _), mul_mod, mod_add,
    ← mod_add ((s * t + m) % _ * t'), mod_mul, mod_add]
  congr 1
  rw [Int.add_mul, Int.mul_assoc, Int.add_assoc]

theorem itA_add (t m : Int) : ∀ (j k : Nat) (s : Int), itA t m k (itA t m j s) = itA t m (j + k) s
  | 0, k, s => by rw [Nat.zero_add]; rfl
  | j + 1, k, s => by
    show itA t m k (itA t m j (aff t m s)) = _
    rw [itA_add t m j k, show j + 1 + k = (j + k) + 1 from by omega]
    rfl
theorem itA_two (t m : Int) : ∀ (k : Nat) (s : Int), itA (t * t % 18446744073709551616) ((m * t % 18446744073709551616 + m) % 18446744073709551616) k s = itA t m (2 * k) s
  | 0, _ => rfl
  | k + 1, s => by
    show itA _ _ k (aff _ _ s) = itA t m (2 * k + 1 + 1) s
    rw [aff_then, itA_two t m k]
    rfl

theorem nx_aff (s : Int) : nx s = aff 6364136223846793005 1442695040888963407 s := by
  unfold nx aff
  rw [IntKind.wrap_u64, IntKind.wrap_u64, mod_add]
theorem nxi_it (s : Int) : ∀ k, nxi s k = itA 6364136223846793005 1442695040888963407 k s
  | 0 => rfl
  | k + 1 => by
    show nx (nxi s k) = _
    rw [nxi_it s k, nx_aff, ← itA_add _ _ k 1]
    rfl
theorem nxi_add (s : Int) (j k : Nat) : nxi (nxi s j) k = nxi s (j + k) := by
  rw [nxi_it, nxi_it, nxi_it, itA_add]

/-- 2^n Nexts, by doublings. -/
def dbl : Nat → Int × Int
  | 0 => (6364136223846793005, 1442695040888963407)
  | n + 1 => ((dbl n).1 * (dbl n).1 % 18446744073709551616, ((dbl n).2 * (dbl n).1 % 18446744073709551616 + (dbl n).2) % 18446744073709551616)
theorem dbl_it : ∀ (n k : Nat) (s : Int), itA (dbl n).1 (dbl n).2 k s = itA 6364136223846793005 1442695040888963407 (2 ^ n * k) s
  | 0, k, s => by rw [Nat.pow_zero, Nat.one_mul]; rfl
  | n + 1, k, s => by
    show itA ((dbl n).1 * (dbl n).1 % 18446744073709551616) (((dbl n).2 * (dbl n).1 % 18446744073709551616 + (dbl n).2) % 18446744073709551616) k s = _
    rw [itA_two, dbl_it n (2 * k) s, Nat.pow_succ, Nat.mul_assoc]
theorem dbl_64 : dbl 64 = (1, 0) := by decide +kernel

theorem nxi_round (s : Int) (h0 : 0 ≤ s) (h1 : s < 18446744073709551616) : nxi s 18446744073709551616 = s := by
  have h := dbl_it 64 1 s
  rw [dbl_64] at h
  rw [nxi_it, show (18446744073709551616 : Nat) = 2 ^ 64 * 1 from by decide, ← h]
  show aff 1 0 s = s
  unfold aff
  omega
theorem nxi_range (s : Int) (h0 : 0 ≤ s) (h1 : s < 18446744073709551616) : ∀ k, 0 ≤ nxi s k ∧ nxi s k < 18446744073709551616
  | 0 => ⟨h0, h1⟩
  | k + 1 => by
    have := nx_range (nxi s k)
    show 0 ≤ nx (nxi s k) ∧ nx (nxi s k) < 18446744073709551616
    omega
theorem nxi_mul (s : Int) (h0 : 0 ≤ s) (h1 : s < 18446744073709551616) : ∀ q : Nat, nxi s (18446744073709551616 * q) = s
  | 0 => rfl
  | q + 1 => by
    rw [Nat.mul_succ, ← nxi_add, nxi_mul s h0 h1 q, nxi_round s h0 h1]
theorem nxi_mod (s : Int) (h0 : 0 ≤ s) (h1 : s < 18446744073709551616) (k : Nat) : nxi s (k % 18446744073709551616) = nxi s k := by
  have h := Nat.div_add_mod k 18446744073709551616
  have h2 := nxi_add s (18446744073709551616 * (k / 18446744073709551616)) (k % 18446744073709551616)
  rw [h, nxi_mul s h0 h1] at h2
  exact h2

/-- What is made with a step, then k times with another one, is K Nexts. -/
def Leads (t m t' m' : Int) (k K : Nat) : Prop := ∀ s, itA t' m' k (aff t m s) = itA 6364136223846793005 1442695040888963407 K (aff 1 0 s)
theorem wrap_then (t m t' m' s : Int) : aff (IntKind.u64.wrap (t * t')) (IntKind.u64.wrap (IntKind.u64.wrap (m * t') + m')) s = aff t' m' (aff t m s) := by
  rw [IntKind.wrap_u64, IntKind.wrap_u64, IntKind.wrap_u64, aff_then]
theorem wrap_two (t m : Int) (k : Nat) (s : Int) : itA (IntKind.u64.wrap (t * t)) (IntKind.u64.wrap (IntKind.u64.wrap (m * t) + m)) k s = itA t m (2 * k) s := by
  rw [IntKind.wrap_u64, IntKind.wrap_u64, IntKind.wrap_u64, itA_two]
theorem leads_odd {t m t' m' : Int} {k K : Nat} (h : Leads t m t' m' k K) (ho : k % 2 = 1) : Leads (IntKind.u64.wrap (t * t')) (IntKind.u64.wrap (IntKind.u64.wrap (m * t') + m')) (IntKind.u64.wrap (t' * t')) (IntKind.u64.wrap (IntKind.u64.wrap (m' * t') + m')) (k / 2) K := fun s => by
  rw [wrap_two, wrap_then, ← h s, show k = 2 * (k / 2) + 1 from by omega, show (2 * (k / 2) + 1) / 2 = k / 2 from by omega]
  rfl
theorem leads_even {t m t' m' : Int} {k K : Nat} (h : Leads t m t' m' k K) (he : k % 2 = 0) : Leads t m (IntKind.u64.wrap (t' * t')) (IntKind.u64.wrap (IntKind.u64.wrap (m' * t') + m')) (k / 2) K := fun s => by
  rw [wrap_two, ← h s, show 2 * (k / 2) = k from by omega]
theorem leads_end {t m t' m' : Int} {K : Nat} (h : Leads t m t' m' 0 K) {s : Int} (h0 : 0 ≤ s) (h1 : s < 18446744073709551616) : IntKind.u64.wrap (IntKind.u64.wrap (s * t) + m) = nxi s K := by
  have hs : aff 1 0 s = s := by unfold aff; omega
  have := h s
  rw [hs, ← nxi_it] at this
  rw [← this, IntKind.wrap_u64, IntKind.wrap_u64, mod_add]
  rfl

end Go.Proofs.Ytgjdkdfgfbonfaa
