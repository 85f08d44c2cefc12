/- ScriptCounts: as many numbers have a kind as its weight is; a draw of n is below n. Conditions: none. -/
import Derived.Test.YtgjdkdfgfbonfaaWk
import Derived.Test.YtgjdkdfgfbonfaaCt
import Derived.Test.YtgjdkdfgfbonfaaN7
namespace Go.Proofs.Ytgjdkdfgfbonfaa
open Go.RowKit

/-- What a draw tells, of any number. -/
def TellIs (s n k s' : Int) : Prop := (1 ≤ n → 0 ≤ k ∧ k < n) ∧ (n < 1 → k = 0 ∧ s' = s)
theorem tell_all (g : Nat) (s n : Int) (w : World) (hg : w.heap[g]? = some (src s)) :
    Calls Try.prog 16 #[.pointer (some ⟨g, 0, none⟩), .int .i64 n] w fun e w' => ∃ k s', e = .returned (.int .i64 k) ∧ TellIs s n k s' ∧ w'.heap[g]? = some (src s') ∧ But g w w' := by
  by_cases h1 : 1 ≤ n ∧ n ≤ 2147483648
  · refine (tell_src g s n w h1.1 h1.2 hg).mono ?_
    rintro e w' ⟨rfl, hg', hb⟩
    exact ⟨_, _, rfl, ⟨fun _ => dr_range s n h1.1, fun h => by omega⟩, hg', hb⟩
  · refine (tell_out g 0 n w (by omega)).mono ?_
    rintro e w' ⟨rfl, rfl⟩
    exact ⟨0, s, rfl, ⟨fun h => by omega, fun _ => ⟨rfl, rfl⟩⟩, hg, But.refl _ _⟩

theorem zero22 : (Try.prog.info? 22).bind (·.zero) = some (.agg (ints 18 fun _ => 0)) := by kernel_rfl
theorem guard22 : Try.prog.eqGuardType Try.prog.depth 22 = false := by kernel_rfl
theorem cnt3' : Try.prog.cellsOf 3 = 1 := by kernel_rfl
theorem eql22 (f g : Nat → Int) (hfg : ∀ j, j < 18 → f j = g j) (w : World) : (Op.equalIn 10000 22 (.agg (ints 18 f)) (.agg (ints 18 g))).run Try.prog w = .ok true w := by
  obtain ⟨i, hi, _⟩ := info3
  exact run_eql_ints Try.underlying22 hi cnt3' Try.underlying3 f g hfg w

set_option maxRecDepth 100000 in
set_option maxHeartbeats 4000000 in
theorem law4_any (C : Array Value) (M : Mx) (s n : Int) (w : World) (hM : MixAt w C M) :
    Calls Try.prog 4 #[.agg C, .int .u64 s, .int .i64 n] w fun e w' => e = .returned (.bool true) ∧ Below w.heap.size w w' := by
  obtain ⟨vp, vv, hC, hp, hv⟩ := hM.ex
  have h18 : 0 + 18 ≤ C.size := by have := hC.size; omega
  have h23 : (Try.prog.info? 25).map (·.size) = some C.size := by rw [hC.size]; exact size25
  have hK : (w.alloc (.cells C 25)).heap[w.heap.size]? = some (.cells C 25) := new_alloc
  have gb : Below w.heap.size w (w.alloc (.cells C 25)) := (Below.refl _ _).alloc (Nat.le_refl _) _
  go_enter Try.func4, Try.ntmps4
  go_wp2_with (with_reducible refine wpList_load_row rfl 25 _ rfl w.heap.size ?_ 25 C (0, 0) _ hK Try.underlying25 rfl h23 ?_; rotate_left)
  all_goals try exact rfl
  refine (great_any C M _ (hM.below gb)).mono ?_
  rintro e w1 ⟨⟨b, rfl⟩, hb1⟩
  replace hK := kept hb1 hK
  replace gb := below_of hb1 gb
  clear hb1
  cases b with
  | true =>
    go_wp2_with fail
    refine (wakes_any _).mono ?_
    rintro e w2 ⟨rfl, hb2⟩
    go_wp2_with fail
    go_ret
    exact ⟨rfl, below_of hb2 gb⟩
  | false =>
    have hg1 : (w1.alloc (src s)).heap[w1.heap.size]? = some (src s) := new_alloc
    have hK1 := old_alloc (o' := src s) hK
    have gb1 := gb.alloc gb.size (src s)
    have gsz := gb.size
    have hlt1 := lt_of_heap hK
    clear hK gb
    go_wp2_with fail
    refine (tell_all w1.heap.size s n _ hg1).mono ?_
    rintro e w2 ⟨k, s', rfl, hT, hg2, hb2⟩
    have hK2 := kept_but hb2 hg1 hK1 (by decide)
    have gb2 := gb1.trans (hb2.toBelow gb1.size gsz)
    clear hg1 hK1 gb1 hb2
    obtain ⟨hT1, hT2⟩ := hT
    obtain ⟨c0, f0⟩ := cells1 hg2
    by_cases hn : 1 ≤ n
    · obtain ⟨hk0, hkn⟩ := hT1 hn
      clear hT1 hT2
      go_wp2_with (with_reducible refine wpList_load_row rfl 25 _ rfl w.heap.size ?_ 25 C (0, 0) _ hK2 Try.underlying25 rfl h23 ?_; rotate_left)
      all_goals try exact rfl
      refine (right_any C M _ (hM.below gb2)).mono ?_
      rintro e w3 ⟨rfl, hb3⟩
      have hK3 := kept hb3 hK2
      have gb3 := below_of hb3 gb2
      clear hK2 gb2 hg2 c0 f0 hb3
      rcases hr : rightB M with _ | _
      · go_wp2_with (with_reducible refine wpList_load_row rfl 25 _ rfl w.heap.size ?_ 25 C (0, 0) _ hK3 Try.underlying25 rfl h23 ?_; rotate_left)
        all_goals try exact rfl
        refine (kind_any C M 0 (by omega) _ (hM.below gb3)).mono ?_
        rintro e w4 ⟨rfl, hb4⟩
        have hk0' : kindN M 0 = 0 := by simp [kindN, hr]
        rw [hk0']
        go_wp2_with fail
        refine (wakes_any _).mono ?_
        rintro e w5 ⟨rfl, hb5⟩
        go_wp2_with fail
        go_ret
        exact ⟨rfl, below_of hb5 (below_of hb4 gb3)⟩
      · have hW := right_W hr
        have hsum := sumW_range hW 18 (by omega)
        have hK4 := old_alloc (o' := .cells (ints 18 fun _ => 0) 22) hK3
        have hc4 : (w3.alloc (.cells (ints 18 fun _ => 0) 22)).heap[w3.heap.size]? = some (.cells (ints 18 fun _ => 0) 22) := new_alloc
        have gb4 := gb3.alloc gb3.size (.cells (ints 18 fun _ => 0) 22)
        have gsz3 := gb3.size
        have hlt3 := lt_of_heap hK3
        clear hK3 gb3
        have hz22 : ∀ f : Nat → Int, (Try.prog.info? 22).map (·.size) = some (ints 18 f).size := fun f => by rw [ints_size]; exact size22
        replace hz22 := hide hz22
        go_wp2_with (with_reducible refine wpList_alloc_row rfl 22 rfl _ zero22 ?_)
        generalize w3.alloc (.cells (ints 18 fun _ => 0) 22) = W4 at hK4 hc4 gb4 ⊢
        go_loopw [10, 11] (fun a10 a11 wr => ∃ k : Nat, k ≤ 18 ∧ a11 = .int .i64 k ∧ a10 = .int .i64 (sumW M.W k) ∧ wr = W4) (fun _ a11 _ => 18 - (intOf a11).toNat)
        case atStart => exact ⟨0, by omega, rfl, rfl, rfl⟩
        case round =>
          obtain ⟨k, hk, rfl, rfl, rfl⟩ := hrel
          by_cases hlt : k < 18
          · have c1 : wr.cell? ⟨w.heap.size, k, none⟩ = some (.int .i64 (M.W k)) := (cell_of hK4 _).trans (hC.w k hlt)
            have hrk := sumW_range hW k hk
            have hwk := hW k hlt
            go_wp2_with fail
            go_roundw
            case rel => exact ⟨k + 1, by omega, by go_num, by go_num, by trivial⟩
            case measure => simp [intOf]; omega
          · obtain rfl : k = 18 := by omega
            have hc5 : wr.heap[w3.heap.size]? = some (.cells (ints 18 (cntW M.W ((0 : Nat) : Int))) 22) := by
              rw [hc4, ints_ext fun j hj => (cnt_zero hr j hj).symm]
              rfl
            clear hc4
            go_wp2_with fail
            go_loopw [12, 13, 14] (fun a12 a13 a14 wr => ∃ x : Nat, (x : Int) ≤ sumW M.W 18 ∧ a13 = .int .i64 x ∧ a12 = .int .u8 (lastN M x) ∧ wr.heap[w.heap.size]? = some (.cells C 25) ∧ wr.heap[w3.heap.size]? = some (.cells (ints 18 (cntW M.W x)) 22) ∧ Below w.heap.size w wr) (fun _ a13 _ _ => (sumW M.W 18 - intOf a13).toNat)
            case atStart => exact ⟨0, by omega, rfl, rfl, hK4, hc5, gb4⟩
            case round =>
              clear hK4 hc5 gb4
              obtain ⟨x, hx, rfl, rfl, hK5, hc5, gb5⟩ := hrel
              by_cases hxs : (x : Int) < sumW M.W 18
              · have hx2 : (x : Int) < 20000 := by omega
                go_wp2_with (with_reducible refine wpList_load_row rfl 25 _ rfl w.heap.size ?_ 25 C (0, 0) _ hK5 Try.underlying25 rfl h23 ?_; rotate_left)
                all_goals try exact rfl
                refine (kind_any C M x (by omega) _ (hM.below gb5)).mono ?_
                rintro e w6 ⟨rfl, hb6⟩
                have hK6 := kept hb6 hK5
                have hc6 := kept hb6 hc5
                have gb6 := below_of hb6 gb5
                clear hK5 hc5 gb5 hb6
                have hin := kind_in hr (w := (x : Int)) (by omega) hxs
                have hlast : lastN M x ≤ kindN M x := last_le hr hxs
                have hstep := cnt_step hr (w := (x : Int)) (by omega) hxs
                have hrng := cnt_range hr (w := (x : Int)) (kindN M x) hin.1
                have hl' : lastN M (x + 1) = kindN M x := last_succ M x
                generalize kindN M (x : Int) = k at hin hlast hstep hrng hl' ⊢
                obtain ⟨hin1, _, _⟩ := hin
                replace hl' := hide hl'
                replace hstep := hide hstep
                have m1 : ¬ (k : Int) < lastN M x := by omega
                have m2 : ¬ (17 : Int) < k := by omega
                have m3 : (k : Int) < 18 := by omega
                have c6 : w6.cell? ⟨w3.heap.size, k, none⟩ = some (.int .i64 (cntW M.W x k)) := (cell_of hc6 _).trans (ints_at hin1)
                have f6 : w6.frozen? ⟨w3.heap.size, k, none⟩ = false := free_of hc6 _
                go_wp2_with fail
                go_roundw
                case rel =>
                  first | refine ⟨x + 1, by omega, by go_num, by rw [hl'.out], set_ne (show w.heap.size ≠ w3.heap.size by omega) hK6, ?_, gb6.setCell gsz3 _⟩ | ((repeat apply Exists.intro); refine ⟨⟨x + 1, by omega, by go_num, by rw [hl'.out], set_ne (show w.heap.size ≠ w3.heap.size by omega) hK6, ?_, gb6.setCell gsz3 _⟩, rfl⟩)
                  have h := set_at (j := k) (u := .int .i64 (cntW M.W x k + 1)) hc6
                  rw [ints_set, hstep.out] at h
                  exact h
                case measure => simp [intOf]; omega
              · have hxe : (x : Int) = sumW M.W 18 := by omega
                have hq := eql22 (cntW M.W x) M.W (fun j hj => by rw [hxe]; exact cnt_end hr j hj)
                have hgd := guard22
                have hie := isC_ints hC
                have hp18 : kindN M (sumW M.W 18) = 0 := kind_past hr (by omega) (Int.le_refl _)
                replace hxe := hide hxe
                go_wp2_with (first | (with_reducible refine wpList_load_row rfl 22 (.tmp 9) rfl w3.heap.size ?_ 22 (ints 18 (cntW M.W x)) (0, 0) _ hc5 Try.underlying22 rfl (hz22.out _) ?_; rotate_left) | (with_reducible refine wpList_load_part rfl 22 (.tmp 90) rfl w.heap.size 0 18 ?_ 25 C (0, 0) _ hK5 Try.underlying22 rfl size22 h18 ?_; rotate_left) | (with_reducible refine wpList_load_row_w ?_ 25 _ rfl w.heap.size ?_ 25 C (0, 0) _ hK5 Try.underlying25 rfl h23 ?_; rotate_left; rotate_left))
                all_goals try exact rfl
                refine (kind_any C M (sumW M.W 18) (by omega) _ (hM.below gb5)).mono ?_
                rintro e w6 ⟨rfl, hb6⟩
                rw [hp18]
                go_wp2_with fail
                refine (wakes_any _).mono ?_
                rintro e w7 ⟨rfl, hb7⟩
                go_wp2_with fail
                go_ret
                exact ⟨rfl, below_of hb7 (below_of hb6 gb5)⟩
    · obtain ⟨rfl, rfl⟩ := hT2 (by omega)
      clear hT1 hT2
      go_wp2_with (with_reducible refine wpList_load_row rfl 25 _ rfl w.heap.size ?_ 25 C (0, 0) _ hK2 Try.underlying25 rfl h23 ?_; rotate_left)
      all_goals try exact rfl
      refine (right_any C M _ (hM.below gb2)).mono ?_
      rintro e w3 ⟨rfl, hb3⟩
      have hK3 := kept hb3 hK2
      have gb3 := below_of hb3 gb2
      clear hK2 gb2 hg2 c0 f0 hb3
      rcases hr : rightB M with _ | _
      · go_wp2_with (with_reducible refine wpList_load_row rfl 25 _ rfl w.heap.size ?_ 25 C (0, 0) _ hK3 Try.underlying25 rfl h23 ?_; rotate_left)
        all_goals try exact rfl
        refine (kind_any C M 0 (by omega) _ (hM.below gb3)).mono ?_
        rintro e w4 ⟨rfl, hb4⟩
        have hk0' : kindN M 0 = 0 := by simp [kindN, hr]
        rw [hk0']
        go_wp2_with fail
        refine (wakes_any _).mono ?_
        rintro e w5 ⟨rfl, hb5⟩
        go_wp2_with fail
        go_ret
        exact ⟨rfl, below_of hb5 (below_of hb4 gb3)⟩
      · have hW := right_W hr
        have hsum := sumW_range hW 18 (by omega)
        have hK4 := old_alloc (o' := .cells (ints 18 fun _ => 0) 22) hK3
        have hc4 : (w3.alloc (.cells (ints 18 fun _ => 0) 22)).heap[w3.heap.size]? = some (.cells (ints 18 fun _ => 0) 22) := new_alloc
        have gb4 := gb3.alloc gb3.size (.cells (ints 18 fun _ => 0) 22)
        have gsz3 := gb3.size
        have hlt3 := lt_of_heap hK3
        clear hK3 gb3
        have hz22 : ∀ f : Nat → Int, (Try.prog.info? 22).map (·.size) = some (ints 18 f).size := fun f => by rw [ints_size]; exact size22
        replace hz22 := hide hz22
        go_wp2_with (with_reducible refine wpList_alloc_row rfl 22 rfl _ zero22 ?_)
        generalize w3.alloc (.cells (ints 18 fun _ => 0) 22) = W4 at hK4 hc4 gb4 ⊢
        go_loopw [10, 11] (fun a10 a11 wr => ∃ k : Nat, k ≤ 18 ∧ a11 = .int .i64 k ∧ a10 = .int .i64 (sumW M.W k) ∧ wr = W4) (fun _ a11 _ => 18 - (intOf a11).toNat)
        case atStart => exact ⟨0, by omega, rfl, rfl, rfl⟩
        case round =>
          obtain ⟨k, hk, rfl, rfl, rfl⟩ := hrel
          by_cases hlt : k < 18
          · have c1 : wr.cell? ⟨w.heap.size, k, none⟩ = some (.int .i64 (M.W k)) := (cell_of hK4 _).trans (hC.w k hlt)
            have hrk := sumW_range hW k hk
            have hwk := hW k hlt
            go_wp2_with fail
            go_roundw
            case rel => exact ⟨k + 1, by omega, by go_num, by go_num, by trivial⟩
            case measure => simp [intOf]; omega
          · obtain rfl : k = 18 := by omega
            have hc5 : wr.heap[w3.heap.size]? = some (.cells (ints 18 (cntW M.W ((0 : Nat) : Int))) 22) := by
              rw [hc4, ints_ext fun j hj => (cnt_zero hr j hj).symm]
              rfl
            clear hc4
            go_wp2_with fail
            go_loopw [12, 13, 14] (fun a12 a13 a14 wr => ∃ x : Nat, (x : Int) ≤ sumW M.W 18 ∧ a13 = .int .i64 x ∧ a12 = .int .u8 (lastN M x) ∧ wr.heap[w.heap.size]? = some (.cells C 25) ∧ wr.heap[w3.heap.size]? = some (.cells (ints 18 (cntW M.W x)) 22) ∧ Below w.heap.size w wr) (fun _ a13 _ _ => (sumW M.W 18 - intOf a13).toNat)
            case atStart => exact ⟨0, by omega, rfl, rfl, hK4, hc5, gb4⟩
            case round =>
              clear hK4 hc5 gb4
              obtain ⟨x, hx, rfl, rfl, hK5, hc5, gb5⟩ := hrel
              by_cases hxs : (x : Int) < sumW M.W 18
              · have hx2 : (x : Int) < 20000 := by omega
                go_wp2_with (with_reducible refine wpList_load_row rfl 25 _ rfl w.heap.size ?_ 25 C (0, 0) _ hK5 Try.underlying25 rfl h23 ?_; rotate_left)
                all_goals try exact rfl
                refine (kind_any C M x (by omega) _ (hM.below gb5)).mono ?_
                rintro e w6 ⟨rfl, hb6⟩
                have hK6 := kept hb6 hK5
                have hc6 := kept hb6 hc5
                have gb6 := below_of hb6 gb5
                clear hK5 hc5 gb5 hb6
                have hin := kind_in hr (w := (x : Int)) (by omega) hxs
                have hlast : lastN M x ≤ kindN M x := last_le hr hxs
                have hstep := cnt_step hr (w := (x : Int)) (by omega) hxs
                have hrng := cnt_range hr (w := (x : Int)) (kindN M x) hin.1
                have hl' : lastN M (x + 1) = kindN M x := last_succ M x
                generalize kindN M (x : Int) = k at hin hlast hstep hrng hl' ⊢
                obtain ⟨hin1, _, _⟩ := hin
                replace hl' := hide hl'
                replace hstep := hide hstep
                have m1 : ¬ (k : Int) < lastN M x := by omega
                have m2 : ¬ (17 : Int) < k := by omega
                have m3 : (k : Int) < 18 := by omega
                have c6 : w6.cell? ⟨w3.heap.size, k, none⟩ = some (.int .i64 (cntW M.W x k)) := (cell_of hc6 _).trans (ints_at hin1)
                have f6 : w6.frozen? ⟨w3.heap.size, k, none⟩ = false := free_of hc6 _
                go_wp2_with fail
                go_roundw
                case rel =>
                  first | refine ⟨x + 1, by omega, by go_num, by rw [hl'.out], set_ne (show w.heap.size ≠ w3.heap.size by omega) hK6, ?_, gb6.setCell gsz3 _⟩ | ((repeat apply Exists.intro); refine ⟨⟨x + 1, by omega, by go_num, by rw [hl'.out], set_ne (show w.heap.size ≠ w3.heap.size by omega) hK6, ?_, gb6.setCell gsz3 _⟩, rfl⟩)
                  have h := set_at (j := k) (u := .int .i64 (cntW M.W x k + 1)) hc6
                  rw [ints_set, hstep.out] at h
                  exact h
                case measure => simp [intOf]; omega
              · have hxe : (x : Int) = sumW M.W 18 := by omega
                have hq := eql22 (cntW M.W x) M.W (fun j hj => by rw [hxe]; exact cnt_end hr j hj)
                have hgd := guard22
                have hie := isC_ints hC
                have hp18 : kindN M (sumW M.W 18) = 0 := kind_past hr (by omega) (Int.le_refl _)
                replace hxe := hide hxe
                go_wp2_with (first | (with_reducible refine wpList_load_row rfl 22 (.tmp 9) rfl w3.heap.size ?_ 22 (ints 18 (cntW M.W x)) (0, 0) _ hc5 Try.underlying22 rfl (hz22.out _) ?_; rotate_left) | (with_reducible refine wpList_load_part rfl 22 (.tmp 90) rfl w.heap.size 0 18 ?_ 25 C (0, 0) _ hK5 Try.underlying22 rfl size22 h18 ?_; rotate_left) | (with_reducible refine wpList_load_row_w ?_ 25 _ rfl w.heap.size ?_ 25 C (0, 0) _ hK5 Try.underlying25 rfl h23 ?_; rotate_left; rotate_left))
                all_goals try exact rfl
                refine (kind_any C M (sumW M.W 18) (by omega) _ (hM.below gb5)).mono ?_
                rintro e w6 ⟨rfl, hb6⟩
                rw [hp18]
                go_wp2_with fail
                refine (wakes_any _).mono ?_
                rintro e w7 ⟨rfl, hb7⟩
                go_wp2_with fail
                go_ret
                exact ⟨rfl, below_of hb7 (below_of hb6 gb5)⟩

end Go.Proofs.Ytgjdkdfgfbonfaa
