/- The contracts of Next and Tell. Conditions: none. -/
import Derived.Test.YtgjdkdfgfbonfaaProg
import Derived.Test.YtgjdkdfgfbonfaaBase
import Derived.Test.YtgjdkdfgfbonfaaPlain
namespace Go.Proofs.Ytgjdkdfgfbonfaa
open Go.RowKit

set_option maxHeartbeats 400000 in
theorem next_any (b o : Nat) (s : Int) (w : World) (hc : w.cell? ⟨b, o, none⟩ = some (.int .u64 s)) (hf : w.frozen? ⟨b, o, none⟩ = false) :
    Calls Try.prog 18 #[.pointer (some ⟨b, o, none⟩)] w fun e w' => e = .returned (.int .u32 (tl (nx s))) ∧ w.setCell ⟨b, o, none⟩ (.int .u64 (nx s)) = w' := by
  have ht := hide (tl_mod s)
  go_enter Try.func18, Try.ntmps18
  go_wp2
  go_ret
  exact ⟨ret_int ht.out, rfl⟩

theorem next_nil (w : World) : Calls Try.prog 18 #[.pointer none] w fun e w' => e = .returned (.int .u32 0) ∧ w = w' := by
  go_enter Try.func18, Try.ntmps18
  go_wp2
  go_ret
  exact ⟨rfl, rfl⟩

set_option maxHeartbeats 400000 in
theorem tell_any (b o : Nat) (s n : Int) (w : World) (hn0 : 1 ≤ n) (hn1 : n ≤ 2147483648) (hc : w.cell? ⟨b, o, none⟩ = some (.int .u64 s)) (hf : w.frozen? ⟨b, o, none⟩ = false) :
    Calls Try.prog 16 #[.pointer (some ⟨b, o, none⟩), .int .i64 n] w fun e w' => e = .returned (.int .i64 (dr s n)) ∧ w.setCell ⟨b, o, none⟩ (.int .u64 (nx s)) = w' := by
  have hd := hide (dr_mid s n hn0 hn1)
  have hr := hide (dr_range s n hn0)
  obtain ⟨ht0, ht1⟩ := tl_range (nx_range s).1 (nx_range s).2
  go_enter Try.func16, Try.ntmps16
  go_wp2_with (go_at_call 18; refine (next_any _ _ _ _ hc hf).mono ?_; rintro e w' ⟨rfl, rfl⟩)
  go_ret
  refine ⟨ret_int ?_, rfl⟩
  have hw := hd.out
  have hq := hr.out
  show wrap64 (IntKind.u64.wrap (tl (nx s) * n) / 4294967296) = dr s n
  rw [IntWalk.u64_in _ hw]
  exact IntWalk.wrap64_in _ (by unfold dr at hq; omega)

set_option maxHeartbeats 400000 in
theorem tell_nil (n : Int) (w : World) : Calls Try.prog 16 #[.pointer none, .int .i64 n] w fun e w' => e = .returned (.int .i64 0) ∧ w = w' := by
  go_enter Try.func16, Try.ntmps16
  go_wp2
  go_ret
  exact ⟨rfl, rfl⟩

set_option maxHeartbeats 400000 in
theorem tell_out (b o : Nat) (n : Int) (w : World) (h : n < 1 ∨ 2147483648 < n) :
    Calls Try.prog 16 #[.pointer (some ⟨b, o, none⟩), .int .i64 n] w fun e w' => e = .returned (.int .i64 0) ∧ w = w' := by
  rcases h with h | h
  · go_enter Try.func16, Try.ntmps16
    go_wp2
    go_ret
    exact ⟨rfl, rfl⟩
  · have h' : 1 ≤ n := by omega
    go_enter Try.func16, Try.ntmps16
    go_wp2
    go_ret
    exact ⟨rfl, rfl⟩

set_option maxHeartbeats 400000 in
theorem then_any (t m t' m' : Int) (w : World) :
    Calls Try.prog 34 #[.agg #[.int .u64 t, .int .u64 m], .agg #[.int .u64 t', .int .u64 m']] w fun e w' => e = .returned (.agg #[.int .u64 (IntKind.u64.wrap (t * t')), .int .u64 (IntKind.u64.wrap (IntKind.u64.wrap (m * t') + m'))]) ∧ Below w.heap.size w w' := by
  go_enter Try.func34, Try.ntmps34
  go_wp2
  refine bodyPost_ret (v := .agg #[.int .u64 (IntKind.u64.wrap (t * t')), .int .u64 (IntKind.u64.wrap (IntKind.u64.wrap (m * t') + m'))]) ?_ rfl ⟨rfl, by repeat (first | exact Below.refl _ _ | refine Below.alloc ?_ (by simp <;> omega) _ | refine Below.setCell ?_ (by simp <;> omega) _)⟩
  simp [results, Try.results34, go_sem]

end Go.Proofs.Ytgjdkdfgfbonfaa
