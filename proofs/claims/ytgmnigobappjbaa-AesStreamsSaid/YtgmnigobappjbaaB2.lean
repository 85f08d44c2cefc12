/- The contract of add. Conditions: none. -/
import Derived.Test.YtgmnigobappjbaaB1
import Derived.Test.YtgmnigobappjbaaPl
import Derived.StillTailTactics
import Derived.IntWalk
namespace Go.Proofs.Ytgmnigobappjbaa
open Go.RowKit

theorem mixed : Try.prog.follows .mixedOrders = true := by kernel_rfl
theorem zero24 : (Try.prog.info? 24).bind (·.zero) = some (.agg (arr 16 fun _ => 0)) := by kernel_rfl
theorem size24 : (Try.prog.info? 24).map (·.size) = some 16 := by kernel_rfl

set_option maxRecDepth 100000 in
set_option maxHeartbeats 800000 in
theorem add_any (b : Nat) (C x : Nat → UInt8) (r : Nat) (hr : r ≤ 14) (w : World) (hc : w.heap[b]? = some (.cells (arr 496 C) 56)) :
    Calls Try.prog 25 #[.pointer (some ⟨b, 0, none⟩), .agg (arr 16 x), .int .i64 r] w fun e w' => e = .returned (.agg (arr 16 (addN C x r 16))) ∧ Below w.heap.size w w' := by
  have h1 : ((w.alloc (.cells (arr 16 x) 24)).alloc (.cells (arr 16 fun _ => 0) 24)).heap[w.heap.size]? = some (.cells (arr 16 (addN C x r 0)) 24) := old_alloc new_alloc
  have h2 : ((w.alloc (.cells (arr 16 x) 24)).alloc (.cells (arr 16 fun _ => 0) 24)).heap[w.heap.size + 1]? = some (.cells (arr 16 fun _ => 0) 24) := by
    have h := new_alloc (w := w.alloc (.cells (arr 16 x) 24)) (o := .cells (arr 16 fun _ => 0) 24)
    rw [World.size_alloc] at h
    exact h
  have hb0 : Below w.heap.size w ((w.alloc (.cells (arr 16 x) 24)).alloc (.cells (arr 16 fun _ => 0) 24)) := ((Below.refl _ _).alloc (Nat.le_refl _) _).alloc (by simp) _
  go_enter Try.func25, Try.ntmps25
  go_wp2_with (with_reducible refine wpList_alloc_row rfl 24 rfl _ zero24 ?_)
  go_loopw [7, 8] (fun j i wr => ∃ k : Nat, k ≤ 16 ∧ i = .int .i64 k ∧ wr.heap[w.heap.size]? = some (.cells (arr 16 (addN C x r k)) 24) ∧ wr.heap[w.heap.size + 1]? = some (.cells (arr 16 fun _ => 0) 24) ∧ Below w.heap.size w wr) (fun _ i _ => 16 - (intOf i).toNat)
  case atStart => exact ⟨0, by omega, rfl, h1, h2, hb0⟩
  case round =>
    clear h1 h2 hb0
    obtain ⟨k, hk, rfl, hg, hg2, hb⟩ := hrel
    by_cases hlt : k < 16
    · have hx := w_xor
      have hC := kept hb hc
      have c0 : wr.cell? ⟨w.heap.size, k, none⟩ = some (byt (addN C x r k k)) := (cell_of hg _).trans (arr_at hlt)
      have f0 : wr.frozen? ⟨w.heap.size, k, none⟩ = false := free_of hg _
      have c1 : wr.cell? ⟨b, (4 * r + k / 4) * 4 + k % 4, none⟩ = some (byt (C (16 * r + k))) := by
        rw [show (4 * r + k / 4) * 4 + k % 4 = 16 * r + k from by omega]
        exact (cell_of hC _).trans (arr_at (by omega))
      go_wp2_with fail
      have n3 : (4 * (r : Int) + (k : Int) / 4).toNat = 4 * r + k / 4 := by omega
      have n4 : ((k : Int) % 4).toNat = k % 4 := by omega
      have m1 : 0 ≤ 4 * (r : Int) + (k : Int) / 4 := by omega
      have m2 : 4 * (r : Int) + (k : Int) / 4 < 60 := by omega
      have m3 : 0 ≤ (k : Int) % 4 := by omega
      have m4 : (k : Int) % 4 < 4 := by omega
      have v1 : IntKind.i64.wrap (4 * (r : Int)) = 4 * (r : Int) := IntWalk.i64_in _ (by omega)
      have v2 : IntKind.i64.wrap ((k : Int) / 4) = (k : Int) / 4 := IntWalk.i64_in _ (by omega)
      have v3 : IntKind.i64.wrap (4 * (r : Int) + (k : Int) / 4) = 4 * (r : Int) + (k : Int) / 4 := IntWalk.i64_in _ (by omega)
      have v4 : (k : Int).tmod 4 = (k : Int) % 4 := Int.tmod_eq_emod_of_nonneg (by omega)
      go_still_tail 18, mixed
      clear n3 n4 m1 m2 m3 m4 v1 v2 v3 v4
      change wpList _ _ _ _ _ wr.drew
      have c0' : wr.drew.cell? ⟨w.heap.size, k, none⟩ = some (byt (addN C x r k k)) := c0
      have f0' : wr.drew.frozen? ⟨w.heap.size, k, none⟩ = false := f0
      clear c0 f0 c1
      go_wp2_with fail
      go_roundw
      case rel =>
        refine ⟨k + 1, by omega, by go_num, ?_, set_ne (show w.heap.size + 1 ≠ w.heap.size by omega) hg2, (hb.setCell (Nat.le_refl _) _).drew⟩
        have h1 := set_at (j := k) (u := byt (xr (addN C x r k k) (C (16 * r + k)))) hg
        rw [arr_set, addN_step] at h1
        exact h1
      case measure => simp [intOf]; omega
    · obtain rfl : k = 16 := by omega
      have hz : (Try.prog.info? 24).map (·.size) = some (arr 16 (addN C x r 16)).size := by rw [arr_size]; exact size24
      have hz0 : (arr 16 fun _ => 0).size = (arr 16 (addN C x r 16)).size := by rw [arr_size, arr_size]
      go_wp2_with (first | (with_reducible refine wpList_load_row rfl 24 _ rfl w.heap.size ?_ 24 (arr 16 (addN C x r 16)) (0, 0) _ hg Try.underlying24 rfl hz ?_; rotate_left) | (with_reducible refine wpList_store_row rfl 24 _ _ rfl (w.heap.size + 1) (arr 16 (addN C x r 16)) ?_ ?_ 24 _ hg2 hz hz0 ?_ ?_; rotate_left; rotate_left; rotate_left))
      · refine bodyPost_ret (v := .agg (arr 16 (addN C x r 16))) (results_cell_row rfl _ _ (w.heap.size + 1) 24 _ (0, 0) _ rfl (setRow_heap _ _ _ _ _ _ hg2) Try.underlying24 rfl hz) rfl ⟨rfl, ?_⟩
        exact below_row hb (by omega) _
      all_goals first | exact rfl | exact arr_ones

end Go.Proofs.Ytgmnigobappjbaa
