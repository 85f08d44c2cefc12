/- The contracts of the document's Sum and Kind, and of given. Conditions: none. -/
import Derived.Test.YtgjdkdfgfbonfaaM1
namespace Go.Proofs.Ytgjdkdfgfbonfaa
open Go.RowKit

set_option maxHeartbeats 800000 in
theorem refSum_any (C : Array Value) (M : Mx) (vp vv : Value) (hC : IsC C M vp vv) (hok : okW M.W = true) (k : Nat) (hk : k < 18) (w : World) : Calls Try.prog 37 #[.agg C, .int .i64 k] w fun e w' => e = .returned (.int .i64 (sumW M.W (k + 1))) ∧ Below w.heap.size w w' := by
  have hW := (okW_iff _).1 hok
  have hnew : (w.alloc (.cells C 51)).heap[w.heap.size]? = some (.cells C 51) := new_alloc
  have hbl : Below w.heap.size w (w.alloc (.cells C 51)) := (Below.refl _ _).alloc (Nat.le_refl _) _
  go_enter Try.func37, Try.ntmps37
  go_wp2_with fail
  go_loopw [5, 6] (fun n i wr => ∃ j : Nat, j ≤ k + 1 ∧ i = .int .i64 j ∧ n = .int .i64 (sumW M.W j) ∧ wr = w.alloc (.cells C 51)) (fun _ i _ => k + 1 - (intOf i).toNat)
  case atStart => exact ⟨0, by omega, rfl, rfl, rfl⟩
  case round =>
    obtain ⟨j, hj, rfl, rfl, rfl⟩ := hrel
    by_cases hlt : j ≤ k
    · have c0 : (w.alloc (.cells C 51)).cell? ⟨w.heap.size, j, none⟩ = some (.int .i64 (M.W j)) := (cell_of hnew j).trans (hC.w j (by omega))
      have hr := sumW_range hW j (by omega)
      have hr1 := hW j (by omega)
      have hlt' : (j : Int) ≤ (k : Int) := by omega
      have hj18 : (j : Int) < 18 := by omega
      go_wp2_with fail
      go_roundw
      case rel => exact ⟨j + 1, by omega, by go_num, by go_num, by trivial⟩
      case measure => simp [intOf]; omega
    · obtain rfl : j = k + 1 := by omega
      go_wp2_with fail
      go_ret
      exact ⟨rfl, hbl⟩

set_option maxHeartbeats 1600000 in
theorem refKind_any (C : Array Value) (M : Mx) (n : Int) (w : World) (hM : MixAt w C M) : Calls Try.prog 25 #[.agg C, .int .i64 n] w fun e w' => e = .returned (.int .i64 (kindN M n)) ∧ Below w.heap.size w w' := by
  obtain ⟨vp, vv, hC, hp, hv⟩ := hM.ex
  have h23 : (Try.prog.info? 51).map (·.size) = some C.size := by rw [hC.size]; kernel_rfl
  replace h23 := hide h23
  have hnew : (w.alloc (.cells C 51)).heap[w.heap.size]? = some (.cells C 51) := new_alloc
  have hbl0 : Below w.heap.size w (w.alloc (.cells C 51)) := (Below.refl _ _).alloc (Nat.le_refl _) _
  go_enter Try.func25, Try.ntmps25
  go_wp2_with (with_reducible refine wpList_load_row rfl 51 _ rfl w.heap.size ?_ 51 C (0, 0) _ hnew Try.underlying51 rfl h23.out ?_; rotate_left)
  all_goals try exact rfl
  refine (refRight_any C M _ (hM.below hbl0)).mono ?_
  rintro e w1 ⟨rfl, hb⟩
  have hbl : Below w.heap.size w w1 := below_of hb hbl0
  have K1 := kept hb hnew
  clear hb hnew hbl0
  rcases hr : rightB M with _ | _
  · go_wp2_with fail
    go_ret
    exact ⟨ret_int (by simp [kindN, hr]), hbl⟩
  by_cases h0 : n < 0
  · go_wp2_with fail
    go_ret
    exact ⟨ret_int (by rw [kindN, hr, decide_eq_false (by omega)]; rfl), hbl⟩
  have hkn : kindN M n = kindW M.W 18 0 n := by rw [kindN, hr, decide_eq_true (by omega)]; rfl
  have hokW : okW M.W = true := by simp only [rightB, Bool.and_eq_true] at hr; exact hr.1.1.1.1.1.1.1
  have hW0 : M.W 0 = 0 := by simp only [rightB, Bool.and_eq_true] at hr; exact beq_iff_eq.1 hr.1.1.1.1.1.1.2
  have hfirst : kindW M.W 18 0 n = kindW M.W 17 1 (n - sumW M.W 1) := by
    rw [kindW_step (f := 17) (by omega)]
    congr 1
    simp only [sumW]
    omega
  replace hkn := hide hkn
  replace hfirst := hide hfirst
  clear hW0
  go_wp2_with fail
  go_loopw [5] (fun i wr => ∃ k : Nat, 1 ≤ k ∧ k ≤ 18 ∧ i = .int .i64 k ∧ kindW M.W 18 0 n = kindW M.W (18 - k) k (n - sumW M.W k) ∧ wr.heap[w.heap.size]? = some (.cells C 51) ∧ Below w.heap.size w wr) (fun i _ => 18 - (intOf i).toNat)
  case atStart => exact ⟨1, by omega, by omega, rfl, hfirst.out, K1, hbl⟩
  case round =>
    clear K1 hbl
    obtain ⟨k, hk1, hk, rfl, hkw, K1, hbl⟩ := hrel
    by_cases hlt : k < 18
    · obtain ⟨f, hf⟩ : ∃ f, 18 - k = f + 1 := ⟨17 - k, by omega⟩
      rw [hf] at hkw
      replace hkw := hide hkw
      go_wp2_with (with_reducible refine wpList_load_row rfl 51 _ rfl w.heap.size ?_ 51 C (0, 0) _ K1 Try.underlying51 rfl h23.out ?_; rotate_left)
      all_goals try exact rfl
      refine (refSum_any C M vp vv hC hokW k hlt _).mono ?_
      rintro e w2 ⟨rfl, hb2⟩
      have K2 := kept hb2 K1
      have hbl2 := below_of hb2 hbl
      clear K1 hbl hb2
      have hs : sumW M.W (k + 1) = sumW M.W k + M.W k := rfl
      by_cases hb : n < sumW M.W (k + 1)
      · have hh : kindN M n = k := by rw [hkn.out, hkw.out, kindW_here (by omega)]
        replace hh := hide hh
        clear hs
        go_wp2_with fail
        go_ret
        exact ⟨ret_int (by rw [hh.out]), hbl2⟩
      · have hh : kindW M.W 18 0 n = kindW M.W (18 - (k + 1)) (k + 1) (n - sumW M.W (k + 1)) := by
          rw [hkw.out, kindW_step (by omega), show 18 - (k + 1) = f by omega, hs]
          congr 1
          omega
        replace hh := hide hh
        clear hs
        go_wp2_with fail
        go_roundw
        case rel => exact ⟨k + 1, by omega, by omega, by go_num, hh.out, K2, hbl2⟩
        case measure => simp [intOf]; omega
    · obtain rfl : k = 18 := by omega
      replace hkw := hide hkw
      go_wp2_with fail
      go_ret
      exact ⟨ret_int (by rw [hkn.out, hkw.out]; rfl), hbl⟩

end Go.Proofs.Ytgjdkdfgfbonfaa
