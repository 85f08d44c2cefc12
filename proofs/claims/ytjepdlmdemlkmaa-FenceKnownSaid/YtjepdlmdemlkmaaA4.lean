/- The contract of the law's own 'does'. Conditions: the act's number is a byte. -/
import Derived.Test.YtjepdlmdemlkmaaA2
namespace Go.Proofs.Ytjepdlmdemlkmaa
open Go.RowKit

set_option maxHeartbeats 800000 in
theorem does_0 (r s g ep : Int) (w : World) :
    Calls Try.prog 16 #[.agg #[.int .i64 r, .int .i64 s, .int .i64 g], .agg #[.int .u8 0, .int .i64 ep]] w fun e w' => e = .returned (retS (doesN r s g 0 ep)) ∧ Below w.heap.size w w' := by
  go_enter Try.func16, Try.ntmps16
  go_wp2_with fail
  refine (heard_any _ _ _ _ _).mono ?_
  rintro e w1 ⟨rfl, hb⟩
  rw [retS_eq]
  obtain ⟨c0, c1, c2, f0, f1, f2⟩ := own3 (b := w.heap.size + 2) hb (by rw [heap_alloc, if_pos (by simp)])
  go_wp2_with fail
  refine bodyPost_ret (v := retS (doesN r s g 0 ep)) ?_ rfl ⟨rfl, ?_⟩
  · simp [results, Try.results16, go_sem, retS, c0, c1, c2]
  · repeat (refine Below.setCell ?_ (by simp <;> omega) _)
    exact below_of hb (by repeat (first | exact Below.refl _ _ | refine Below.alloc ?_ (by simp <;> omega) _ | refine Below.setCell ?_ (by simp <;> omega) _))

set_option maxHeartbeats 800000 in
theorem does_1 (r s g ep : Int) (w : World) :
    Calls Try.prog 16 #[.agg #[.int .i64 r, .int .i64 s, .int .i64 g], .agg #[.int .u8 1, .int .i64 ep]] w fun e w' => e = .returned (retS (doesN r s g 1 ep)) ∧ Below w.heap.size w w' := by
  go_enter Try.func16, Try.ntmps16
  go_wp2_with fail
  refine (begun_any _ _ _ _ _).mono ?_
  rintro e w1 ⟨rfl, hb⟩
  rw [retS_eq]
  obtain ⟨c0, c1, c2, f0, f1, f2⟩ := own3 (b := w.heap.size + 2) hb (by rw [heap_alloc, if_pos (by simp)])
  go_wp2_with fail
  refine bodyPost_ret (v := retS (doesN r s g 1 ep)) ?_ rfl ⟨rfl, ?_⟩
  · simp [results, Try.results16, go_sem, retS, c0, c1, c2]
  · repeat (refine Below.setCell ?_ (by simp <;> omega) _)
    exact below_of hb (by repeat (first | exact Below.refl _ _ | refine Below.alloc ?_ (by simp <;> omega) _ | refine Below.setCell ?_ (by simp <;> omega) _))

set_option maxHeartbeats 800000 in
theorem does_2 (r s g ep : Int) (w : World) :
    Calls Try.prog 16 #[.agg #[.int .i64 r, .int .i64 s, .int .i64 g], .agg #[.int .u8 2, .int .i64 ep]] w fun e w' => e = .returned (retS (doesN r s g 2 ep)) ∧ Below w.heap.size w w' := by
  go_enter Try.func16, Try.ntmps16
  go_wp2_with fail
  refine (joined_any _ _ _ _ _).mono ?_
  rintro e w1 ⟨rfl, hb⟩
  rw [retS_eq]
  obtain ⟨c0, c1, c2, f0, f1, f2⟩ := own3 (b := w.heap.size + 2) hb (by rw [heap_alloc, if_pos (by simp)])
  go_wp2_with fail
  refine bodyPost_ret (v := retS (doesN r s g 2 ep)) ?_ rfl ⟨rfl, ?_⟩
  · simp [results, Try.results16, go_sem, retS, c0, c1, c2]
  · repeat (refine Below.setCell ?_ (by simp <;> omega) _)
    exact below_of hb (by repeat (first | exact Below.refl _ _ | refine Below.alloc ?_ (by simp <;> omega) _ | refine Below.setCell ?_ (by simp <;> omega) _))

set_option maxHeartbeats 800000 in
theorem does_3 (r s g ep : Int) (w : World) :
    Calls Try.prog 16 #[.agg #[.int .i64 r, .int .i64 s, .int .i64 g], .agg #[.int .u8 3, .int .i64 ep]] w fun e w' => e = .returned (retS (doesN r s g 3 ep)) ∧ Below w.heap.size w w' := by
  go_enter Try.func16, Try.ntmps16
  go_wp2_with fail
  refine (promoted_any _ _ _ _ _).mono ?_
  rintro e w1 ⟨rfl, hb⟩
  rw [retS_eq]
  obtain ⟨c0, c1, c2, f0, f1, f2⟩ := own3 (b := w.heap.size + 2) hb (by rw [heap_alloc, if_pos (by simp)])
  go_wp2_with fail
  refine bodyPost_ret (v := retS (doesN r s g 3 ep)) ?_ rfl ⟨rfl, ?_⟩
  · simp [results, Try.results16, go_sem, retS, c0, c1, c2]
  · repeat (refine Below.setCell ?_ (by simp <;> omega) _)
    exact below_of hb (by repeat (first | exact Below.refl _ _ | refine Below.alloc ?_ (by simp <;> omega) _ | refine Below.setCell ?_ (by simp <;> omega) _))

set_option maxHeartbeats 800000 in
theorem does_4 (r s g ep : Int) (w : World) :
    Calls Try.prog 16 #[.agg #[.int .i64 r, .int .i64 s, .int .i64 g], .agg #[.int .u8 4, .int .i64 ep]] w fun e w' => e = .returned (retS (doesN r s g 4 ep)) ∧ Below w.heap.size w w' := by
  go_enter Try.func16, Try.ntmps16
  go_wp2_with fail
  refine (demoted_yes _ _ _ ep _).mono ?_
  rintro e w1 ⟨rfl, hb⟩
  rw [retS_eq]
  obtain ⟨c0, c1, c2, f0, f1, f2⟩ := own3 (b := w.heap.size + 2) hb (by rw [heap_alloc, if_pos (by simp)])
  go_wp2_with fail
  refine bodyPost_ret (v := retS (doesN r s g 4 ep)) ?_ rfl ⟨rfl, ?_⟩
  · simp [results, Try.results16, go_sem, retS, c0, c1, c2]
  · repeat (refine Below.setCell ?_ (by simp <;> omega) _)
    exact below_of hb (by repeat (first | exact Below.refl _ _ | refine Below.alloc ?_ (by simp <;> omega) _ | refine Below.setCell ?_ (by simp <;> omega) _))

set_option maxHeartbeats 800000 in
theorem does_5 (r s g ep : Int) (w : World) :
    Calls Try.prog 16 #[.agg #[.int .i64 r, .int .i64 s, .int .i64 g], .agg #[.int .u8 5, .int .i64 ep]] w fun e w' => e = .returned (retS (doesN r s g 5 ep)) ∧ Below w.heap.size w w' := by
  go_enter Try.func16, Try.ntmps16
  go_wp2_with fail
  refine (demoted_no _ _ _ ep _).mono ?_
  rintro e w1 ⟨rfl, hb⟩
  rw [retS_eq]
  obtain ⟨c0, c1, c2, f0, f1, f2⟩ := own3 (b := w.heap.size + 2) hb (by rw [heap_alloc, if_pos (by simp)])
  go_wp2_with fail
  refine bodyPost_ret (v := retS (doesN r s g 5 ep)) ?_ rfl ⟨rfl, ?_⟩
  · simp [results, Try.results16, go_sem, retS, c0, c1, c2]
  · repeat (refine Below.setCell ?_ (by simp <;> omega) _)
    exact below_of hb (by repeat (first | exact Below.refl _ _ | refine Below.alloc ?_ (by simp <;> omega) _ | refine Below.setCell ?_ (by simp <;> omega) _))

set_option maxHeartbeats 800000 in
theorem does_more (r s g d ep : Int) (h : 5 < d) (w : World) :
    Calls Try.prog 16 #[.agg #[.int .i64 r, .int .i64 s, .int .i64 g], .agg #[.int .u8 d, .int .i64 ep]] w fun e w' => e = .returned (retS (doesN r s g d ep)) ∧ Below w.heap.size w w' := by
  have hd : doesN r s g d ep = (⟨r, s, g⟩, 0) := by simp [doesN, h]
  rw [hd]; clear hd
  go_enter Try.func16, Try.ntmps16
  go_wp2_with fail
  all_goals try simp only [Exit.inBlock, Exit.then]
  refine bodyPost_ret (v := retS (⟨r, s, g⟩, 0)) ?_ rfl ⟨rfl, by repeat (first | exact Below.refl _ _ | refine Below.alloc ?_ (by simp <;> omega) _ | refine Below.setCell ?_ (by simp <;> omega) _)⟩
  simp [results, Try.results16, go_sem, retS]

theorem does_any (r s g d ep : Int) (h : 0 ≤ d) (w : World) :
    Calls Try.prog 16 #[.agg #[.int .i64 r, .int .i64 s, .int .i64 g], .agg #[.int .u8 d, .int .i64 ep]] w fun e w' => e = .returned (retS (doesN r s g d ep)) ∧ Below w.heap.size w w' := by
  by_cases h5 : 5 < d
  · exact does_more r s g d ep h5 w
  · have h6 : (d = 0 ∨ d = 1) ∨ (d = 2 ∨ d = 3) ∨ (d = 4 ∨ d = 5) := by omega
    rcases h6 with (rfl | rfl) | (rfl | rfl) | (rfl | rfl)
    · exact does_0 r s g ep w
    · exact does_1 r s g ep w
    · exact does_2 r s g ep w
    · exact does_3 r s g ep w
    · exact does_4 r s g ep w
    · exact does_5 r s g ep w

end Go.Proofs.Ytjepdlmdemlkmaa
