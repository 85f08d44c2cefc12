/- The contract of mix. Conditions: none. -/
import Derived.Test.YtgmnigobappjbaaB2
namespace Go.Proofs.Ytgmnigobappjbaa
open Go.RowKit

theorem stl {P : Program} {f : FuncId} {args : Array Value} {w : World} {v : Value} (h : Calls P f args w fun e w' => e = .returned v ∧ w = w') : Calls P f args w fun e w' => e = .returned v ∧ w' = w :=
  h.mono fun _ _ h => ⟨h.1, h.2.symm⟩

theorem col_any (x : Nat → UInt8) (b ba bi i k : Nat) (hi : i < 16) (hk : k < 4) (w : World) (hb : w.heap[b]? = some (.cells (arr 16 x) 24))
    (ha : w.heap[ba]? = some (.cells #[.int .i64 ((i : Int) / 4 * 4)] 3)) (hi' : w.heap[bi]? = some (.cells #[.int .i64 (i : Int)] 3)) :
    Calls Try.prog 31 #[.int .i64 k, .pointer (some ⟨b, 0, none⟩), .pointer (some ⟨ba, 0, none⟩), .pointer (some ⟨bi, 0, none⟩)] w fun e w' => e = .returned (byt (colN x i k)) ∧ w = w' := by
  obtain ⟨ca, fa⟩ := cells1 ha
  obtain ⟨ci, fi⟩ := cells1 hi'
  have c0 : w.cell? ⟨b, i / 4 * 4 + (i + k) % 4, none⟩ = some (byt (colN x i k)) := (cell_of hb _).trans (arr_at (by omega))
  go_enter Try.func31, Try.ntmps31
  go_wp2
  go_ret
  exact ⟨rfl, rfl⟩

set_option maxRecDepth 100000 in
set_option maxHeartbeats 800000 in
theorem mix_any (x : Nat → UInt8) (w : World) :
    Calls Try.prog 26 #[.agg (arr 16 x)] w fun e w' => e = .returned (.agg (arr 16 (mixN x 16))) ∧ Below w.heap.size w w' := by
  have h1 : ((w.alloc (.cells (arr 16 x) 24)).alloc (.cells (arr 16 fun _ => 0) 24)).heap[w.heap.size]? = some (.cells (arr 16 x) 24) := old_alloc new_alloc
  have h2 : ((w.alloc (.cells (arr 16 x) 24)).alloc (.cells (arr 16 fun _ => 0) 24)).heap[w.heap.size + 1]? = some (.cells (arr 16 (mixN x 0)) 24) := by
    have h := new_alloc (w := w.alloc (.cells (arr 16 x) 24)) (o := .cells (arr 16 fun _ => 0) 24)
    rw [World.size_alloc] at h
    exact h
  have hb0 : Below w.heap.size w ((w.alloc (.cells (arr 16 x) 24)).alloc (.cells (arr 16 fun _ => 0) 24)) := ((Below.refl _ _).alloc (Nat.le_refl _) _).alloc (by simp) _
  go_enter Try.func26, Try.ntmps26
  go_wp2_with (with_reducible refine wpList_alloc_row rfl 24 rfl _ zero24 ?_)
  go_loopw [3, 4, 5, 6] (fun a3 a4 a5 i wr => ∃ k : Nat, k ≤ 16 ∧ i = .int .i64 k ∧ wr.heap[w.heap.size]? = some (.cells (arr 16 x) 24) ∧ wr.heap[w.heap.size + 1]? = some (.cells (arr 16 (mixN x k)) 24) ∧ Below w.heap.size w wr) (fun _ _ _ i _ => 16 - (intOf i).toNat)
  case atStart => exact ⟨0, by omega, rfl, h1, h2, hb0⟩
  case round =>
    clear h1 h2 hb0
    obtain ⟨k, hk, rfl, hg, hg2, hb⟩ := hrel
    by_cases hlt : k < 16
    · have hx := w_xor
      have hlt2 := lt_of_heap hg2
      go_wp2_with fail
      have H1 : ((wr.alloc (.cells #[.int .i64 (k : Int)] 3)).alloc (.cells #[.int .i64 ((k : Int) / 4 * 4)] 3)).heap[w.heap.size]? = some (.cells (arr 16 x) 24) := old_alloc (old_alloc hg)
      have H2 : ((wr.alloc (.cells #[.int .i64 (k : Int)] 3)).alloc (.cells #[.int .i64 ((k : Int) / 4 * 4)] 3)).heap[w.heap.size + 1]? = some (.cells (arr 16 (mixN x k)) 24) := old_alloc (old_alloc hg2)
      have H3 : ((wr.alloc (.cells #[.int .i64 (k : Int)] 3)).alloc (.cells #[.int .i64 ((k : Int) / 4 * 4)] 3)).heap[wr.heap.size]? = some (.cells #[.int .i64 (k : Int)] 3) := old_alloc new_alloc
      have H4 : ((wr.alloc (.cells #[.int .i64 (k : Int)] 3)).alloc (.cells #[.int .i64 ((k : Int) / 4 * 4)] 3)).heap[wr.heap.size + 1]? = some (.cells #[.int .i64 ((k : Int) / 4 * 4)] 3) := by
        have h := new_alloc (w := wr.alloc (.cells #[.int .i64 (k : Int)] 3)) (o := .cells #[.int .i64 ((k : Int) / 4 * 4)] 3)
        rw [World.size_alloc] at h
        exact h
      have HB : Below w.heap.size w ((wr.alloc (.cells #[.int .i64 (k : Int)] 3)).alloc (.cells #[.int .i64 ((k : Int) / 4 * 4)] 3)) := (hb.alloc (by omega) _).alloc (by simp; omega) _
      generalize ((wr.alloc (.cells #[.int .i64 (k : Int)] 3)).alloc (.cells #[.int .i64 ((k : Int) / 4 * 4)] 3)) = W at H1 H2 H3 H4 HB ⊢
      obtain ⟨c3, f3⟩ := cells1 H3
      go_still_tail 18, mixed
      still_call (stl (col_any x _ _ _ k 0 hlt (by omega) _ H1 H4 H3))
      still_call (stl (twice_any _ _))
      repeat still_step
      still_call (stl (col_any x _ _ _ k 1 hlt (by omega) _ H1 H4 H3))
      still_call (stl (twice_any _ _))
      repeat still_step
      still_call (stl (col_any x _ _ _ k 1 hlt (by omega) _ H1 H4 H3))
      repeat still_step
      still_call (stl (col_any x _ _ _ k 2 hlt (by omega) _ H1 H4 H3))
      repeat still_step
      still_call (stl (col_any x _ _ _ k 3 hlt (by omega) _ H1 H4 H3))
      repeat still_step
      refine wpStill_nil ?_
      change wpList _ _ _ _ _ W.drew
      have c0 : W.drew.cell? ⟨w.heap.size + 1, k, none⟩ = some (byt (mixN x k k)) := (cell_of H2 _).trans (arr_at hlt)
      have f0 : W.drew.frozen? ⟨w.heap.size + 1, k, none⟩ = false := free_of H2 _
      clear c3 f3
      go_wp2_with fail
      go_roundw
      case rel =>
        refine ⟨k + 1, by omega, by go_num, set_ne (show w.heap.size ≠ w.heap.size + 1 by omega) H1, ?_, (HB.setCell (show w.heap.size ≤ w.heap.size + 1 by omega) _).drew⟩
        have h1 := set_at (j := k) (u := byt (mixAt x k)) H2
        rw [arr_set, mixN_step] at h1
        exact h1
      case measure => simp [intOf]; omega
    · obtain rfl : k = 16 := by omega
      have hz : (Try.prog.info? 24).map (·.size) = some (arr 16 (mixN x 16)).size := by rw [arr_size]; exact size24
      have hz0 : (arr 16 (mixN x 16)).size = (arr 16 (mixN x 16)).size := by rw [arr_size]
      go_wp2_with (first | (with_reducible refine wpList_load_row rfl 24 _ rfl (w.heap.size + 1) ?_ 24 (arr 16 (mixN x 16)) (0, 0) _ hg2 Try.underlying24 rfl hz ?_; rotate_left) | (with_reducible refine wpList_store_row rfl 24 _ _ rfl (w.heap.size + 1) (arr 16 (mixN x 16)) ?_ ?_ 24 _ hg2 hz hz0 ?_ ?_; rotate_left; rotate_left; rotate_left))
      · refine bodyPost_ret (v := .agg (arr 16 (mixN x 16))) (results_cell_row rfl _ _ (w.heap.size + 1) 24 _ (0, 0) _ rfl (setRow_heap _ _ _ _ _ _ hg2) Try.underlying24 rfl hz) rfl ⟨rfl, ?_⟩
        exact below_row hb (by omega) _
      all_goals first | exact rfl | exact arr_ones | exact Array.all_eq_true.1 arr_ones

end Go.Proofs.Ytgmnigobappjbaa
