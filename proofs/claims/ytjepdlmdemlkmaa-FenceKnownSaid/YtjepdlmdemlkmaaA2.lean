/- The contracts of Begun and Joined, of the document's answer, and of the law's own 'does'. Conditions: none. -/
import Derived.Test.YtjepdlmdemlkmaaA1
namespace Go.Proofs.Ytjepdlmdemlkmaa
open Go.RowKit

theorem heap_alloc (w : World) (o : Obj) (i : Nat) : (w.alloc o).heap[i]? = if i = w.heap.size then some o else w.heap[i]? := by
  show (w.heap.push o)[i]? = _
  rw [Array.getElem?_push]

theorem own3 {W w1 : World} {b : Nat} {v0 v1 v2 : Value} {t : TypeId} (hb : Below W.heap.size W w1) (h : W.heap[b]? = some (.cells #[v0, v1, v2] t)) :
    w1.cell? ⟨b, 0, none⟩ = some v0 ∧ w1.cell? ⟨b, 1, none⟩ = some v1 ∧ w1.cell? ⟨b, 2, none⟩ = some v2 ∧ w1.frozen? ⟨b, 0, none⟩ = false ∧ w1.frozen? ⟨b, 1, none⟩ = false ∧ w1.frozen? ⟨b, 2, none⟩ = false := by
  have hlt : b < W.heap.size := (Array.getElem?_eq_some_iff.1 h).1
  have hh : w1.heap[b]? = some (.cells #[v0, v1, v2] t) := (hb.block b hlt).trans h
  simp [World.cell?, World.frozen?, hh]

set_option maxHeartbeats 800000 in
theorem begun_any (r s g ep : Int) (w : World) :
    Calls Try.prog 18 #[.agg #[.int .i64 r, .int .i64 s, .int .i64 g], .int .i64 ep] w fun e w' => e = .returned (retS (doesN r s g 1 ep)) ∧ Below w.heap.size w w' := by
  have hd : doesN r s g 1 ep = blankN r s g ep 1 ep ep := by grind [doesN, blankN]
  rw [hd]; clear hd
  go_enter Try.func18, Try.ntmps18
  go_wp2_with fail
  refine (blank_any _ _ _ _ _ _ _ _).mono ?_
  rintro e w1 ⟨rfl, hb⟩
  rw [retS_eq]
  obtain ⟨c0, c1, c2, f0, f1, f2⟩ := own3 (b := w.heap.size + 1) hb (by rw [heap_alloc, if_pos (by simp)])
  go_wp2_with fail
  refine bodyPost_ret (v := retS (blankN r s g ep 1 ep ep)) ?_ rfl ⟨rfl, ?_⟩
  · simp [results, Try.results18, go_sem, retS, c0, c1, c2]
  · repeat (refine Below.setCell ?_ (by simp <;> omega) _)
    exact below_of hb (by repeat (first | exact Below.refl _ _ | refine Below.alloc ?_ (by simp <;> omega) _ | refine Below.setCell ?_ (by simp <;> omega) _))

set_option maxHeartbeats 800000 in
theorem joined_any (r s g ep : Int) (w : World) :
    Calls Try.prog 20 #[.agg #[.int .i64 r, .int .i64 s, .int .i64 g], .int .i64 ep] w fun e w' => e = .returned (retS (doesN r s g 2 ep)) ∧ Below w.heap.size w w' := by
  have hd : doesN r s g 2 ep = blankN r s g ep 2 ep 0 := by grind [doesN, blankN]
  rw [hd]; clear hd
  go_enter Try.func20, Try.ntmps20
  go_wp2_with fail
  refine (blank_any _ _ _ _ _ _ _ _).mono ?_
  rintro e w1 ⟨rfl, hb⟩
  rw [retS_eq]
  obtain ⟨c0, c1, c2, f0, f1, f2⟩ := own3 (b := w.heap.size + 1) hb (by rw [heap_alloc, if_pos (by simp)])
  go_wp2_with fail
  refine bodyPost_ret (v := retS (blankN r s g ep 2 ep 0)) ?_ rfl ⟨rfl, ?_⟩
  · simp [results, Try.results20, go_sem, retS, c0, c1, c2]
  · repeat (refine Below.setCell ?_ (by simp <;> omega) _)
    exact below_of hb (by repeat (first | exact Below.refl _ _ | refine Below.alloc ?_ (by simp <;> omega) _ | refine Below.setCell ?_ (by simp <;> omega) _))

set_option maxHeartbeats 800000 in
theorem rright_any (r s g : Int) (w : World) :
    Calls Try.prog 13 #[.agg #[.int .i64 r, .int .i64 s, .int .i64 g]] w fun e w' => e = .returned (.bool (rightB r s g)) ∧ w.alloc (.cells #[.int .i64 r, .int .i64 s, .int .i64 g] 32) = w' := by
  by_cases h3 : r = 3
  · subst h3
    go_enter Try.func13, Try.ntmps13
    go_wp2
    all_goals go_ret
    all_goals refine ⟨ret_bool ?_, rfl⟩
    all_goals grind [rightB, rightP]
  · go_enter Try.func13, Try.ntmps13
    go_wp2
    all_goals go_ret
    all_goals refine ⟨ret_bool ?_, rfl⟩
    all_goals grind [rightB, rightP]

set_option maxHeartbeats 800000 in
theorem rwrites_any (r s g : Int) (w : World) :
    Calls Try.prog 15 #[.agg #[.int .i64 r, .int .i64 s, .int .i64 g]] w fun e w' => e = .returned (.int .i64 (writesN r s g)) ∧ Below w.heap.size w w' := by
  by_cases hr : rightP r s g
  · have hR : rightB r s g = true := by simp [rightB, hr]
    have h4 : (r = 0 ∨ r = 1) ∨ (r = 2 ∨ r = 3) := by unfold rightP at hr; omega
    have hw : writesN r s g = if r = 0 then 30 else if r = 2 then 31 else if r = 3 then 32 else 0 := by simp [writesN, hr]
    rw [hw]
    clear hw hr
    rcases h4 with (rfl | rfl) | (rfl | rfl)
    all_goals
      go_enter Try.func15, Try.ntmps15
      go_wp2_with (go_at_call 13; refine (rright_any _ _ _ _).mono ?_; rintro e w' ⟨rfl, rfl⟩)
      go_ret
      refine ⟨rfl, by repeat (first | exact Below.refl _ _ | refine Below.alloc ?_ (by simp <;> omega) _ | refine Below.setCell ?_ (by simp <;> omega) _)⟩
  · have hR : rightB r s g = false := by simp [rightB, hr]
    have hw : writesN r s g = 1 := by simp [writesN, hr]
    rw [hw]
    clear hw hr
    go_enter Try.func15, Try.ntmps15
    go_wp2_with (go_at_call 13; refine (rright_any _ _ _ _).mono ?_; rintro e w' ⟨rfl, rfl⟩)
    go_ret
    refine ⟨rfl, by repeat (first | exact Below.refl _ _ | refine Below.alloc ?_ (by simp <;> omega) _ | refine Below.setCell ?_ (by simp <;> omega) _)⟩

end Go.Proofs.Ytjepdlmdemlkmaa
