/- The contracts of package fence's functions: what each returns, and that memory below stays. Conditions: none. -/
import Derived.Test.YtjepdlmdemlkmaaProg
import Derived.Test.YtjepdlmdemlkmaaPlain
import Derived.WalkKit
namespace Go.Proofs.Ytjepdlmdemlkmaa
open Go.RowKit

theorem bcell {W w1 : World} (hb : Below W.heap.size W w1) : (∀ b o, b < W.heap.size → w1.cell? ⟨b, o, none⟩ = W.cell? ⟨b, o, none⟩) ∧ (∀ b o, b < W.heap.size → w1.frozen? ⟨b, o, none⟩ = W.frozen? ⟨b, o, none⟩) :=
  ⟨fun b o h => hb.cell (p := ⟨b, o, none⟩) h, fun b o h => hb.frozen (p := ⟨b, o, none⟩) h⟩

theorem ret_bool {a b : Bool} (h : a = b) : Ending.returned (.bool a) = .returned (.bool b) := by rw [h]
theorem ret_int {k : IntKind} {a b : Int} (h : a = b) : Ending.returned (.int k a) = .returned (.int k b) := by rw [h]

theorem below_of {w W w1 : World} (hb : Below W.heap.size W w1) (h : Below w.heap.size w W) : Below w.heap.size w w1 := h.trans (hb.mono h.size)

set_option maxHeartbeats 400000 in
theorem right_any (r s g : Int) (w : World) :
    Calls Try.prog 9 #[.agg #[.int .i64 r, .int .i64 s, .int .i64 g]] w fun e w' => e = .returned (.bool (rightB r s g)) ∧ w.alloc (.cells #[.int .i64 r, .int .i64 s, .int .i64 g] 23) = w' := by
  go_enter Try.func9, Try.ntmps9
  go_wp2
  all_goals go_ret
  all_goals refine ⟨ret_bool ?_, rfl⟩
  all_goals grind [rightB, rightP]

set_option maxHeartbeats 400000 in
theorem writes_any (r s g : Int) (w : World) :
    Calls Try.prog 14 #[.agg #[.int .i64 r, .int .i64 s, .int .i64 g]] w fun e w' => e = .returned (.int .i64 (writesN r s g)) ∧ Below w.heap.size w w' := by
  go_enter Try.func14, Try.ntmps14
  go_wp2_with (go_at_call 9; refine (right_any _ _ _ _).mono ?_; rintro e w' ⟨rfl, rfl⟩)
  all_goals go_ret
  all_goals refine ⟨ret_int ?_, by repeat (first | exact Below.refl _ _ | refine Below.alloc ?_ (by simp) _)⟩
  all_goals simp_all [rightB, writesN]

def retS (x : St × Int) : Value := .tuple #[.agg #[.int .i64 x.1.r, .int .i64 x.1.s, .int .i64 x.1.g], .int .i64 x.2]

set_option maxHeartbeats 800000 in
theorem heard_any (r s g ep : Int) (w : World) :
    Calls Try.prog 12 #[.agg #[.int .i64 r, .int .i64 s, .int .i64 g], .int .i64 ep] w fun e w' => e = .returned (retS (doesN r s g 0 ep)) ∧ Below w.heap.size w w' := by
  go_enter Try.func12, Try.ntmps12
  go_wp2_with (go_at_call 9; refine (right_any _ _ _ _).mono ?_; rintro e w' ⟨rfl, rfl⟩)
  all_goals try simp only [Exit.inBlock, Exit.then]
  all_goals refine bodyPost_ret (v := retS (doesN r s g 0 ep)) ?_ rfl ⟨rfl, by repeat (first | exact Below.refl _ _ | refine Below.alloc ?_ (by simp <;> omega) _ | refine Below.setCell ?_ (by simp <;> omega) _)⟩
  all_goals simp [results, Try.results12, go_sem, retS]
  all_goals grind [doesN, rightB]

set_option maxHeartbeats 800000 in
theorem promoted_any (r s g ep : Int) (w : World) :
    Calls Try.prog 11 #[.agg #[.int .i64 r, .int .i64 s, .int .i64 g], .int .i64 ep] w fun e w' => e = .returned (retS (doesN r s g 3 ep)) ∧ Below w.heap.size w w' := by
  go_enter Try.func11, Try.ntmps11
  go_wp2_with (go_at_call 9; refine (right_any _ _ _ _).mono ?_; rintro e w' ⟨rfl, rfl⟩)
  all_goals try simp only [Exit.inBlock, Exit.then]
  all_goals refine bodyPost_ret (v := retS (doesN r s g 3 ep)) ?_ rfl ⟨rfl, by repeat (first | exact Below.refl _ _ | refine Below.alloc ?_ (by simp <;> omega) _ | refine Below.setCell ?_ (by simp <;> omega) _)⟩
  all_goals simp [results, Try.results11, go_sem, retS]
  all_goals grind [doesN, rightB]


set_option maxHeartbeats 800000 in
theorem blank_any (r s g ep r' s' g' : Int) (w : World) :
    Calls Try.prog 21 #[.agg #[.int .i64 r, .int .i64 s, .int .i64 g], .int .i64 ep, .agg #[.int .i64 r', .int .i64 s', .int .i64 g']] w fun e w' => e = .returned (retS (blankN r s g ep r' s' g')) ∧ Below w.heap.size w w' := by
  go_enter Try.func21, Try.ntmps21
  go_wp2_with (go_at_call 9; refine (right_any _ _ _ _).mono ?_; rintro e w' ⟨rfl, rfl⟩)
  all_goals try simp only [Exit.inBlock, Exit.then]
  all_goals refine bodyPost_ret (v := retS (blankN r s g ep r' s' g')) ?_ rfl ⟨rfl, by repeat (first | exact Below.refl _ _ | refine Below.alloc ?_ (by simp <;> omega) _ | refine Below.setCell ?_ (by simp <;> omega) _)⟩
  all_goals simp [results, Try.results21, go_sem, retS]
  all_goals grind [rightB, blankN]

theorem retS_eq (x : St × Int) : retS x = .tuple #[.agg #[.int .i64 x.1.r, .int .i64 x.1.s, .int .i64 x.1.g], .int .i64 x.2] := rfl

set_option maxHeartbeats 800000 in
theorem demoted_yes (r s g ep : Int) (w : World) :
    Calls Try.prog 19 #[.agg #[.int .i64 r, .int .i64 s, .int .i64 g], .bool true] w fun e w' => e = .returned (retS (doesN r s g 4 ep)) ∧ Below w.heap.size w w' := by
  go_enter Try.func19, Try.ntmps19
  go_wp2_with (go_at_call 9; refine (right_any _ _ _ _).mono ?_; rintro e w' ⟨rfl, rfl⟩)
  all_goals try simp only [Exit.inBlock, Exit.then]
  all_goals refine bodyPost_ret (v := retS (doesN r s g 4 ep)) ?_ rfl ⟨rfl, by repeat (first | exact Below.refl _ _ | refine Below.alloc ?_ (by simp <;> omega) _ | refine Below.setCell ?_ (by simp <;> omega) _)⟩
  all_goals simp [results, Try.results19, go_sem, retS]
  all_goals grind [doesN, rightB]

set_option maxHeartbeats 800000 in
theorem demoted_no (r s g ep : Int) (w : World) :
    Calls Try.prog 19 #[.agg #[.int .i64 r, .int .i64 s, .int .i64 g], .bool false] w fun e w' => e = .returned (retS (doesN r s g 5 ep)) ∧ Below w.heap.size w w' := by
  go_enter Try.func19, Try.ntmps19
  go_wp2_with (go_at_call 9; refine (right_any _ _ _ _).mono ?_; rintro e w' ⟨rfl, rfl⟩)
  all_goals try simp only [Exit.inBlock, Exit.then]
  all_goals refine bodyPost_ret (v := retS (doesN r s g 5 ep)) ?_ rfl ⟨rfl, by repeat (first | exact Below.refl _ _ | refine Below.alloc ?_ (by simp <;> omega) _ | refine Below.setCell ?_ (by simp <;> omega) _)⟩
  all_goals simp [results, Try.results19, go_sem, retS]
  all_goals grind [doesN, rightB]

end Go.Proofs.Ytjepdlmdemlkmaa
