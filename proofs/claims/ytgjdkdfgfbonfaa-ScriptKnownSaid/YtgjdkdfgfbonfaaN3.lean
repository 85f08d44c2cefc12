/- The contract of Right. Conditions: none. -/
import Derived.Test.YtgjdkdfgfbonfaaN2
import Derived.Deep.DeepCutAuto
namespace Go.Proofs.Ytgjdkdfgfbonfaa
open Go.RowKit

/-- A mix's cells, and its texts in memory. -/
structure MixAt (w : World) (C : Array Value) (M : Mx) : Prop where
  ex : ∃ vp vv, IsC C M vp vv ∧ TextsAt w vp M.P ∧ TextsAt w vv M.V

theorem MixAt.below {w w' : World} {C : Array Value} {M : Mx} (h : MixAt w C M) (hb : Below w.heap.size w w') : MixAt w' C M := by
  obtain ⟨vp, vv, h1, h2, h3⟩ := h.ex
  exact ⟨vp, vv, h1, h2.below hb, h3.below hb⟩

theorem size25 : (Try.prog.info? 25).map (·.size) = some 23 := by kernel_rfl

/-- The cells of the block in which a mix lies. -/
theorem mixCells {w : World} {b : Nat} {C : Array Value} {M : Mx} {vp vv : Value} (hC : IsC C M vp vv) (h : w.heap[b]? = some (.cells C 25)) :
    w.cell? ⟨b, 0, none⟩ = some (.int .i64 (M.W 0)) ∧ w.cell? ⟨b, 18, none⟩ = some (.int .i64 M.nd) ∧ w.cell? ⟨b, 19, none⟩ = some (.int .i64 M.pk) ∧ w.cell? ⟨b, 20, none⟩ = some (.int .i64 M.tk) ∧ w.cell? ⟨b, 21, none⟩ = some vp ∧ w.cell? ⟨b, 22, none⟩ = some vv :=
  ⟨(cell_of h 0).trans (hC.w 0 (by omega)), (cell_of h 18).trans hC.nd, (cell_of h 19).trans hC.pk, (cell_of h 20).trans hC.tk, (cell_of h 21).trans hC.p, (cell_of h 22).trans hC.v⟩

theorem right_bad {M : Mx} {k : Nat} (hk : k < 18) (h : ¬ (0 ≤ M.W k ∧ M.W k ≤ 1000)) : rightB M = false := by
  have : okW M.W = false := by
    rw [Bool.eq_false_iff]
    exact fun ho => h ((okW_iff _).1 ho k hk)
  simp [rightB, this]

set_option maxHeartbeats 800000 in
theorem right_any (C : Array Value) (M : Mx) (w : World) (hM : MixAt w C M) : Calls Try.prog 14 #[.agg C] w fun e w' => e = .returned (.bool (rightB M)) ∧ Below w.heap.size w w' := by
  obtain ⟨vp, vv, hC, hp, hv⟩ := hM.ex
  have h18 : 0 + 18 ≤ C.size := by have := hC.size; omega
  have h23 : (Try.prog.info? 25).map (·.size) = some C.size := by rw [hC.size]; exact size25
  have hnew : (w.alloc (.cells C 25)).heap[w.heap.size]? = some (.cells C 25) := new_alloc
  go_enter Try.func14, Try.ntmps14
  go_wp2_with (with_reducible refine wpList_load_part rfl 22 _ rfl w.heap.size 0 18 ?_ 25 C (0, 0) _ hnew Try.underlying22 rfl size22 h18 ?_; rotate_left)
  rotate_left
  · exact rfl
  go_loopw [7] (fun i wr => ∃ k : Nat, k ≤ 18 ∧ i = .int .i64 k ∧ (∀ j, j < k → 0 ≤ M.W j ∧ M.W j ≤ 1000) ∧ wr = w.alloc (.cells C 25)) (fun i _ => 18 - (intOf i).toNat)
  case atStart => exact ⟨0, by omega, rfl, fun j hj => by omega, rfl⟩
  case round =>
    obtain ⟨k, hk, rfl, hok, rfl⟩ := hrel
    by_cases hlt : k < 18
    · have ix := index22 hC hlt
      go_wp2_with fail
      all_goals first
        | (go_ret; exact ⟨ret_bool (right_bad hlt (by omega)).symm, (Below.refl _ _).alloc (Nat.le_refl _) _⟩)
        | skip
      case roundEnd =>
        refine ⟨⟨k + 1, by omega, by go_num, fun j hj => ?_, trivial⟩, by simp [intOf]; omega⟩
        rcases Nat.lt_succ_iff_lt_or_eq.1 hj with hj | rfl
        · exact hok j hj
        · omega
    · obtain rfl : k = 18 := by omega
      have hokW : okW M.W = true := (okW_iff _).2 hok
      obtain ⟨c0, c18, c19, c20, c21, c22⟩ := mixCells hC hnew
      rcases h0 : (M.W 0 == 0) with _ | _
      · go_wp2_with fail
        go_ret
        exact ⟨ret_bool (by simp [rightB, h0]), (Below.refl _ _).alloc (Nat.le_refl _) _⟩
      go_wp2_with (with_reducible refine wpList_load_row_w ?_ 25 _ rfl w.heap.size ?_ 25 C (0, 0) _ hnew Try.underlying25 rfl h23 ?_; rotate_left; rotate_left)
      rotate_left
      · exact rfl
      refine (sum_any C M vp vv hC hokW _).mono ?_
      rintro e w1 ⟨rfl, hb⟩
      have hbl : Below w.heap.size w w1 := below_of hb ((Below.refl _ _).alloc (Nat.le_refl _) _)
      have K1 := kept hb hnew
      have hp1 := hp.below hbl
      have hv1 := hv.below hbl
      clear hb hnew c0 c18 c19 c20 c21 c22
      obtain ⟨c0, c18, c19, c20, c21, c22⟩ := mixCells hC K1
      by_cases h1 : 0 < sumW M.W 18
      case neg =>
        go_wp2_with fail
        go_ret
        exact ⟨ret_bool (by rw [rightB, decide_eq_false (Int.not_lt.2 h1)]; simp), hbl⟩
      go_wp2_with fail
      refine (count_any _ _).mono ?_
      rintro e u2 ⟨rfl, rfl⟩
      rcases h2 : countB M.nd with _ | _
      · go_wp2_with fail
        go_ret
        exact ⟨ret_bool (by simp [rightB, h2]), hbl⟩
      go_wp2_with fail
      refine (count_any _ _).mono ?_
      rintro e u3 ⟨rfl, rfl⟩
      rcases h3 : countB M.pk with _ | _
      · go_wp2_with fail
        go_ret
        exact ⟨ret_bool (by simp [rightB, h3]), hbl⟩
      go_wp2_with fail
      refine (count_any _ _).mono ?_
      rintro e u4 ⟨rfl, rfl⟩
      rcases h4 : countB M.tk with _ | _
      · go_wp2_with fail
        go_ret
        exact ⟨ret_bool (by simp [rightB, h4]), hbl⟩
      go_wp2_with fail
      refine (texts_any _ _ _ hp1).mono ?_
      rintro e u5 ⟨rfl, rfl⟩
      rcases h5 : textsB M.P with _ | _
      · go_wp2_with fail
        go_ret
        exact ⟨ret_bool (by simp [rightB, h5]), hbl⟩
      go_wp2_with fail
      refine (texts_any _ _ _ hv1).mono ?_
      rintro e u6 ⟨rfl, rfl⟩
      rcases h6 : textsB M.V with _ | _
      · go_wp2_with fail
        go_ret
        exact ⟨ret_bool (by simp [rightB, h6]), hbl⟩
      go_wp2_with fail
      go_ret
      exact ⟨ret_bool (by simp [rightB, hokW, h0, h1, h2, h3, h4, h5, h6]), hbl⟩

end Go.Proofs.Ytgjdkdfgfbonfaa
