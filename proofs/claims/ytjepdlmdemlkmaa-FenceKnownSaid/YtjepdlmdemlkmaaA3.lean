/- The contract of the document's answer 'Does'. Conditions: the act's number is from 0 to 5. -/
import Derived.Test.YtjepdlmdemlkmaaA2
namespace Go.Proofs.Ytjepdlmdemlkmaa
open Go.RowKit

set_option maxHeartbeats 2000000 in
theorem rdoes_any (r s g d ep : Int) (h0 : 0 ≤ d) (h5 : d ≤ 5) (w : World) :
    Calls Try.prog 17 #[.agg #[.int .i64 r, .int .i64 s, .int .i64 g], .int .i64 d, .int .i64 ep] w fun e w' => e = .returned (retS (doesN r s g d ep)) ∧ Below w.heap.size w w' := by
  by_cases h4 : d = 4
  · subst h4
    go_enter Try.func17, Try.ntmps17
    go_wp2_with (go_at_call 13; refine (rright_any _ _ _ _).mono ?_; rintro e w' ⟨rfl, rfl⟩)
    all_goals try simp only [Exit.inBlock, Exit.then]
    all_goals refine bodyPost_ret (v := retS (doesN r s g 4 ep)) ?_ rfl ⟨rfl, by repeat (first | exact Below.refl _ _ | refine Below.alloc ?_ (by simp <;> omega) _ | refine Below.setCell ?_ (by simp <;> omega) _)⟩
    all_goals simp [results, Try.results17, go_sem, retS]
    all_goals grind [doesN, rightB]
  · by_cases h0' : d = 0
    · subst h0'
      go_enter Try.func17, Try.ntmps17
      go_wp2_with (go_at_call 13; refine (rright_any _ _ _ _).mono ?_; rintro e w' ⟨rfl, rfl⟩)
      all_goals try simp only [Exit.inBlock, Exit.then]
      all_goals refine bodyPost_ret (v := retS (doesN r s g 0 ep)) ?_ rfl ⟨rfl, by repeat (first | exact Below.refl _ _ | refine Below.alloc ?_ (by simp <;> omega) _ | refine Below.setCell ?_ (by simp <;> omega) _)⟩
      all_goals simp [results, Try.results17, go_sem, retS]
      all_goals grind [doesN, rightB]
    · have h0'' : (d == 0) = false := by simpa using h0'
      have h4'' : (d == 4) = false := by simpa using h4
      go_enter Try.func17, Try.ntmps17
      go_wp2_with (go_at_call 13; refine (rright_any _ _ _ _).mono ?_; rintro e w' ⟨rfl, rfl⟩)
      all_goals try simp only [Exit.inBlock, Exit.then]
      all_goals refine bodyPost_ret (v := retS (doesN r s g d ep)) ?_ rfl ⟨rfl, by repeat (first | exact Below.refl _ _ | refine Below.alloc ?_ (by simp <;> omega) _ | refine Below.setCell ?_ (by simp <;> omega) _)⟩
      all_goals simp [results, Try.results17, go_sem, retS]
      all_goals grind [doesN, rightB]

end Go.Proofs.Ytjepdlmdemlkmaa
