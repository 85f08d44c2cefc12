/- The contracts of the document's Next, Tells, steps and Ahead. Conditions: none. -/
import Derived.Test.YtgjdkdfgfbonfaaN9
namespace Go.Proofs.Ytgjdkdfgfbonfaa
open Go.RowKit

theorem refNext_any (s : Int) (w : World) : Calls Try.prog 20 #[.int .u64 s] w fun e w' => e = .returned (.int .u64 (nx s)) ∧ w = w' := by
  go_enter Try.func20, Try.ntmps20
  go_wp2
  go_ret
  exact ⟨rfl, rfl⟩
theorem refTells_any (s : Int) (h0 : 0 ≤ s) (h1 : s ≤ 18446744073709551615) (w : World) : Calls Try.prog 21 #[.int .u64 s] w fun e w' => e = .returned (.int .i64 (tl s)) ∧ w = w' := by
  obtain ⟨t0, t1⟩ := tl_range h0 h1
  go_enter Try.func21, Try.ntmps21
  go_wp2
  go_ret
  refine ⟨ret_int ?_, rfl⟩
  unfold tl
  first | rfl | omega

/-- A step that is so many Nexts. -/
def Steps (t m : Int) (K : Nat) : Prop := ∀ s, aff t m s = itA 6364136223846793005 1442695040888963407 K (aff 1 0 s)
theorem steps_zero : Steps 1 0 0 := fun _ => rfl
theorem it_mod : ∀ (K : Nat) (s : Int), aff 1 0 (itA 6364136223846793005 1442695040888963407 K (aff 1 0 s)) = itA 6364136223846793005 1442695040888963407 K (aff 1 0 s) := fun K s => by
  have h : ∀ (K : Nat) (s : Int), 0 ≤ s → s < 18446744073709551616 → 0 ≤ itA 6364136223846793005 1442695040888963407 K s ∧ itA 6364136223846793005 1442695040888963407 K s < 18446744073709551616 := by
    intro K
    induction K with
    | zero => exact fun s h0 h1 => ⟨h0, h1⟩
    | succ k ih =>
      intro s _ _
      have hr := aff_range 6364136223846793005 1442695040888963407 s
      exact ih _ hr.1 hr.2
  have hr := aff_range 1 0 s
  have h2 := h K _ hr.1 hr.2
  generalize itA 6364136223846793005 1442695040888963407 K (aff 1 0 s) = z at h2
  unfold aff
  omega
theorem steps_two {t m : Int} {K : Nat} (h : Steps t m K) : Steps (IntKind.u64.wrap (t * t)) (IntKind.u64.wrap (IntKind.u64.wrap (m * t) + m)) (K + K) := fun s => by
  rw [wrap_then, h (aff t m s), h s, it_mod, itA_add]
theorem steps_more {t m : Int} {K : Nat} (h : Steps t m K) : Steps (IntKind.u64.wrap (t * 6364136223846793005)) (IntKind.u64.wrap (IntKind.u64.wrap (m * 6364136223846793005) + 1442695040888963407)) (K + 1) := fun s => by
  rw [wrap_then, h s, ← itA_add _ _ K 1]
  rfl
theorem steps_end {t m : Int} {K : Nat} (h : Steps t m K) {s : Int} (h0 : 0 ≤ s) (h1 : s < 18446744073709551616) : IntKind.u64.wrap (IntKind.u64.wrap (s * t) + m) = nxi s K := by
  have hs : aff 1 0 s = s := by unfold aff; omega
  have := h s
  rw [hs, ← nxi_it] at this
  rw [← this, IntKind.wrap_u64, IntKind.wrap_u64, mod_add]
  rfl

set_option maxRecDepth 100000 in
set_option maxHeartbeats 1600000 in
theorem steps_any (w : World) : ∀ K : Nat, K < 18446744073709551616 → Calls Try.prog 35 #[.int .u64 K] w fun e w' => ∃ t m, e = .returned (.tuple #[.int .u64 t, .int .u64 m]) ∧ Steps t m K ∧ w = w' := by
  intro K
  induction K using Nat.strongRecOn with
  | ind K ih =>
    intro hK
    by_cases h0 : K = 0
    · subst h0
      go_enter Try.func35, Try.ntmps35
      go_wp2_with fail
      refine bodyPost_ret (v := .tuple #[.int .u64 1, .int .u64 0]) (by simp [results, Try.results35, go_sem]) rfl ?_
      exact ⟨1, 0, rfl, steps_zero, rfl⟩
    · have ih2 := ih (K / 2) (by omega) (by omega)
      have hne : ¬ (K : Int) = 0 := by omega
      clear ih
      rcases hodd : decide (K % 2 = 1) with _ | _
      · have ho := of_decide_eq_false hodd
        have hodd' : (K : Int) % 2 = 0 := by omega
        clear hodd
        go_enter Try.func35, Try.ntmps35
        go_wp2_with fail
        refine ih2.mono ?_
        rintro e w' ⟨t, m, rfl, hS, rfl⟩
        go_wp2_with fail
        refine bodyPost_ret (v := .tuple #[.int .u64 (IntKind.u64.wrap (t * t)), .int .u64 (IntKind.u64.wrap (IntKind.u64.wrap (m * t) + m))]) (by simp [results, Try.results35, go_sem]) rfl ?_
        refine ⟨_, _, rfl, ?_, rfl⟩
        have h := steps_two hS
        rw [show K / 2 + K / 2 = K from by omega] at h
        exact h
      · have ho := of_decide_eq_true hodd
        have hodd' : (K : Int) % 2 = 1 := by omega
        clear hodd
        go_enter Try.func35, Try.ntmps35
        go_wp2_with fail
        refine ih2.mono ?_
        rintro e w' ⟨t, m, rfl, hS, rfl⟩
        go_wp2_with fail
        refine bodyPost_ret (v := .tuple #[.int .u64 (IntKind.u64.wrap (IntKind.u64.wrap (t * t) * 6364136223846793005)), .int .u64 (IntKind.u64.wrap (IntKind.u64.wrap (IntKind.u64.wrap (IntKind.u64.wrap (m * t) + m) * 6364136223846793005) + 1442695040888963407))]) (by simp [results, Try.results35, go_sem]) rfl ?_
        refine ⟨_, _, rfl, ?_, rfl⟩
        have h := steps_more (steps_two hS)
        rw [show K / 2 + K / 2 + 1 = K from by omega] at h
        exact h

set_option maxRecDepth 100000 in
set_option maxHeartbeats 1600000 in
theorem refAhead_any (s : Int) (K : Nat) (h0 : 0 ≤ s) (h1 : s < 18446744073709551616) (hK : K < 18446744073709551616) (w : World) :
    Calls Try.prog 22 #[.int .u64 s, .int .u64 K] w fun e w' => e = .returned (.int .u64 (nxi s K)) ∧ w = w' := by
  go_enter Try.func22, Try.ntmps22
  go_wp2_with fail
  refine (steps_any _ K hK).mono ?_
  rintro e w' ⟨t, m, rfl, hS, rfl⟩
  go_wp2_with fail
  go_ret
  exact ⟨ret_int (steps_end hS h0 h1), rfl⟩

end Go.Proofs.Ytgjdkdfgfbonfaa
