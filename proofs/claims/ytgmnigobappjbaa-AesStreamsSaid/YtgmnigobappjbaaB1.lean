/- The contracts of twice, RotateLeft8 and box. Conditions: none. -/
import Derived.Test.YtgmnigobappjbaaProg
import Derived.Test.YtgmnigobappjbaaBase
import Derived.Test.YtgmnigobappjbaaArr
import Derived.Test.YtgmnigobappjbaaTab
import Derived.Test.YtgmnigobappjbaaRun
import Derived.Outline
namespace Go.Proofs.Ytgmnigobappjbaa
open Go.RowKit

theorem twice_any (b : UInt8) (w : World) : Calls Try.prog 24 #[byt b] w fun e w' => e = .returned (byt (twi b)) ∧ w = w' := by
  go_enter Try.func24, Try.ntmps24
  go_wp2
  go_ret
  exact ⟨ret_int (w_twi b), rfl⟩
theorem rot1_any (b : UInt8) (w : World) : Calls Try.prog 30 #[byt b, .int .i64 1] w fun e w' => e = .returned (byt (rotm b 2 128)) ∧ w = w' := by
  have h3 : bits .and .u64 1 7 = 1 := by kernel_rfl
  go_enter Try.func30, Try.ntmps30
  go_wp2
  go_ret
  exact ⟨ret_int (w_rot b 2 128), rfl⟩
theorem rot2_any (b : UInt8) (w : World) : Calls Try.prog 30 #[byt b, .int .i64 2] w fun e w' => e = .returned (byt (rotm b 4 64)) ∧ w = w' := by
  have h3 : bits .and .u64 2 7 = 2 := by kernel_rfl
  go_enter Try.func30, Try.ntmps30
  go_wp2
  go_ret
  exact ⟨ret_int (w_rot b 4 64), rfl⟩
theorem rot3_any (b : UInt8) (w : World) : Calls Try.prog 30 #[byt b, .int .i64 3] w fun e w' => e = .returned (byt (rotm b 8 32)) ∧ w = w' := by
  have h3 : bits .and .u64 3 7 = 3 := by kernel_rfl
  go_enter Try.func30, Try.ntmps30
  go_wp2
  go_ret
  exact ⟨ret_int (w_rot b 8 32), rfl⟩
theorem rot4_any (b : UInt8) (w : World) : Calls Try.prog 30 #[byt b, .int .i64 4] w fun e w' => e = .returned (byt (rotm b 16 16)) ∧ w = w' := by
  have h3 : bits .and .u64 4 7 = 4 := by kernel_rfl
  go_enter Try.func30, Try.ntmps30
  go_wp2
  go_ret
  exact ⟨ret_int (w_rot b 16 16), rfl⟩

theorem zero51 : (Try.prog.info? 51).bind (·.zero) = some (.agg (arr 256 fun _ => 0)) := by kernel_rfl
theorem size51 : (Try.prog.info? 51).map (·.size) = some 256 := by kernel_rfl

/-- S, as far as k rounds have written it. -/
def boxN (k : Nat) : Nat → UInt8 := fun j => if lN j < k then sN j else 0

theorem boxN_step {k : Nat} (hk : k < 255) : arr 256 (upd8 (boxN k) (pN k).toNat (affN (qN k))) = arr 256 (boxN (k + 1)) := by
  refine arr_ext fun j hj => ?_
  unfold upd8 boxN
  by_cases e : j = (pN k).toNat
  · subst e
    rw [if_pos rfl, log_p hk, if_pos (by omega), step_s hk]
  · rw [if_neg e]
    by_cases h0 : j = 0
    · subst h0
      rw [log_0, if_neg (by omega), if_neg (by omega)]
    · have h1 := p_log hj h0
      have : lN j ≠ k := fun h => e (by rw [← h]; exact h1.2.symm)
      by_cases h2 : lN j < k
      · rw [if_pos h2, if_pos (by omega)]
      · rw [if_neg h2, if_neg (by omega)]
theorem boxN_end : arr 256 (upd8 (boxN 255) 0 99) = arr 256 sN := by
  refine arr_ext fun j hj => ?_
  unfold upd8 boxN
  by_cases h0 : j = 0
  · subst h0
    rw [if_pos rfl, s_0]
  · rw [if_neg h0, if_pos (p_log hj h0).1]

theorem w_q1 (q : UInt8) : bits .xor .u8 (q.toNat : Int) ((q.toNat : Int) * 2 % 256) = ((q1 q).toNat : Int) := by
  rw [show (q.toNat : Int) * 2 % 256 = _ from w_shl q 2, w_xor]; rfl
theorem w_q2 (q : UInt8) : bits .xor .u8 ((q1 q).toNat : Int) (((q1 q).toNat : Int) * 4 % 256) = ((q2 q).toNat : Int) := by
  rw [show ((q1 q).toNat : Int) * 4 % 256 = _ from w_shl _ 4, w_xor]; rfl
theorem w_q3 (q : UInt8) : bits .xor .u8 ((q2 q).toNat : Int) (((q2 q).toNat : Int) * 16 % 256) = ((q3 q).toNat : Int) := by
  rw [show ((q2 q).toNat : Int) * 16 % 256 = _ from w_shl _ 16, w_xor]; rfl
theorem w_q4 (q : UInt8) : bits .xor .u8 ((q3 q).toNat : Int) (((q3 q).toNat : Int) / 128 * 9 % 256) = ((q4 q).toNat : Int) := by
  rw [w_ninth, w_xor]; rfl

theorem w_99 (a : UInt8) : bits .xor .u8 (a.toNat : Int) 99 = ((xr a 99).toNat : Int) := w_xor a 99

set_option maxRecDepth 100000 in
set_option maxHeartbeats 800000 in
theorem box_any (w : World) : Calls Try.prog 23 #[] w fun e w' => e = .returned (.agg (arr 256 sN)) ∧ Below w.heap.size w w' := by
  have h0 : (w.alloc (.cells (arr 256 fun _ => 0) 51)).heap[w.heap.size]? = some (.cells (arr 256 (boxN 0)) 51) := new_alloc
  have hb0 : Below w.heap.size w (w.alloc (.cells (arr 256 fun _ => 0) 51)) := (Below.refl _ _).alloc (Nat.le_refl _) _
  go_enter Try.func23, Try.ntmps23
  go_wp2_with (with_reducible refine wpList_alloc_row rfl 51 rfl _ zero51 ?_)
  go_loopw [1, 2, 3] (fun p q i wr => ∃ k : Nat, k ≤ 255 ∧ i = .int .i64 k ∧ p = byt (pN k) ∧ q = byt (qN k) ∧ wr.heap[w.heap.size]? = some (.cells (arr 256 (boxN k)) 51) ∧ Below w.heap.size w wr) (fun _ _ i _ => 255 - (intOf i).toNat)
  case atStart => exact ⟨0, by omega, rfl, rfl, rfl, h0, hb0⟩
  case round =>
    clear h0 hb0
    obtain ⟨k, hk, rfl, rfl, rfl, hg, hb⟩ := hrel
    by_cases hlt : k < 255
    · have hx := w_xor
      have hx9 := w_99
      have e1 := w_q1
      have e2 := w_q2
      have e3 := w_q3
      have e4 := w_q4
      have hp := (pN k).toNat_lt
      have hsp := hide (step_p hlt)
      have hsq := hide (step_q hlt)
      have c0 : wr.cell? ⟨w.heap.size, (pN k).toNat, none⟩ = some (byt (boxN k (pN k).toNat)) := (cell_of hg _).trans (arr_at hp)
      have f0 : wr.frozen? ⟨w.heap.size, (pN k).toNat, none⟩ = false := free_of hg _
      go_wp2_with fail
      refine (rot1_any _ _).mono ?_
      rintro e w' ⟨rfl, rfl⟩
      go_wp2_with fail
      refine (rot2_any _ _).mono ?_
      rintro e w' ⟨rfl, rfl⟩
      go_wp2_with fail
      refine (rot3_any _ _).mono ?_
      rintro e w' ⟨rfl, rfl⟩
      go_wp2_with fail
      refine (rot4_any _ _).mono ?_
      rintro e w' ⟨rfl, rfl⟩
      go_wp2_with fail
      refine (twice_any _ _).mono ?_
      rintro e w' ⟨rfl, rfl⟩
      go_wp2_with fail
      go_roundw
      case rel =>
        refine ⟨k + 1, by omega, by go_num, by rw [← hsp.out], by rw [← hsq.out], ?_, hb.setCell (Nat.le_refl _) _⟩
        have h1 := set_at (j := (pN k).toNat) (u := byt (affN (qN k))) hg
        rw [arr_set, boxN_step hlt] at h1
        exact h1
      case measure => simp [intOf]; omega
    · obtain rfl : k = 255 := by omega
      have c0 : wr.cell? ⟨w.heap.size, 0, none⟩ = some (byt (boxN 255 0)) := (cell_of hg _).trans (arr_at (by omega))
      have f0 : wr.frozen? ⟨w.heap.size, 0, none⟩ = false := free_of hg _
      have h1 : (wr.setCell ⟨w.heap.size, 0, none⟩ (.int .u8 99)).heap[w.heap.size]? = some (.cells (arr 256 sN) 51) := by
        have h1 := set_at (j := 0) (u := byt 99) hg
        rw [arr_set, boxN_end] at h1
        exact h1
      have hz : (Try.prog.info? 51).map (·.size) = some (arr 256 sN).size := by rw [arr_size]; exact size51
      clear hg
      go_wp2_with (first | (with_reducible refine wpList_load_row rfl 51 _ rfl w.heap.size ?_ 51 (arr 256 sN) (0, 0) _ h1 Try.underlying51 rfl hz ?_; rotate_left) | (with_reducible refine wpList_store_row rfl 51 _ _ rfl w.heap.size (arr 256 sN) ?_ ?_ 51 _ h1 hz ?_ ?_ ?_; rotate_left; rotate_left; rotate_left; rotate_left))
      · refine bodyPost_ret (v := .agg (arr 256 sN)) (results_cell_row rfl _ _ w.heap.size 51 _ (0, 0) _ rfl (setRow_heap _ _ _ _ _ _ h1) Try.underlying51 rfl hz) rfl ⟨rfl, ?_⟩
        exact below_row (hb.setCell (Nat.le_refl _) _) (Nat.le_refl _) _
      all_goals first | exact rfl | exact arr_ones

end Go.Proofs.Ytgmnigobappjbaa
