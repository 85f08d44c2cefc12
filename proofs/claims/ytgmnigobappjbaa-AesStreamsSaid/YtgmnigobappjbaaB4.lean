/- The contract of block. Conditions: none. -/
import Derived.Test.YtgmnigobappjbaaB3
namespace Go.Proofs.Ytgmnigobappjbaa
open Go.RowKit

theorem add_succ (b : Nat) (C x : Nat → UInt8) (r : Nat) (hr : r < 14) (w : World) (hc : w.heap[b]? = some (.cells (arr 496 C) 56)) :
    Calls Try.prog 25 #[.pointer (some ⟨b, 0, none⟩), .agg (arr 16 x), .int .i64 ((r : Int) + 1)] w fun e w' => e = .returned (.agg (arr 16 (addN C x (r + 1) 16))) ∧ Below w.heap.size w w' :=
  add_any b C x (r + 1) (by omega) w hc
set_option maxRecDepth 100000 in
set_option maxHeartbeats 1600000 in
theorem block_any (b : Nat) (C x : Nat → UInt8) (w : World) (hc : w.heap[b]? = some (.cells (arr 496 C) 56)) :
    Calls Try.prog 18 #[.pointer (some ⟨b, 0, none⟩), .agg (arr 16 x)] w fun e w' => e = .returned (.agg (arr 16 (stN C x 14))) ∧ Below w.heap.size w w' := by
  have h1 : ((w.alloc (.cells (arr 16 x) 24)).alloc (.cells (arr 16 fun _ => 0) 24)).heap[w.heap.size]? = some (.cells (arr 16 x) 24) := old_alloc new_alloc
  have h2 : ((w.alloc (.cells (arr 16 x) 24)).alloc (.cells (arr 16 fun _ => 0) 24)).heap[w.heap.size + 1]? = some (.cells (arr 16 fun _ => 0) 24) := by
    have h := new_alloc (w := w.alloc (.cells (arr 16 x) 24)) (o := .cells (arr 16 fun _ => 0) 24)
    rw [World.size_alloc] at h
    exact h
  have hb0 : Below w.heap.size w ((w.alloc (.cells (arr 16 x) 24)).alloc (.cells (arr 16 fun _ => 0) 24)) := ((Below.refl _ _).alloc (Nat.le_refl _) _).alloc (by simp) _
  go_enter Try.func18, Try.ntmps18
  have hz : ∀ f : Nat → UInt8, (Try.prog.info? 24).map (·.size) = some (arr 16 f).size := fun f => by rw [arr_size]; exact size24
  have hs : ∀ f g : Nat → UInt8, (arr 16 f).size = (arr 16 g).size := fun f g => by rw [arr_size, arr_size]
  replace hz := hide hz
  replace hs := hide hs
  go_wp2_with (first | (with_reducible refine wpList_alloc_row rfl 24 rfl _ zero24 ?_) | (with_reducible refine wpList_load_row rfl 24 _ rfl w.heap.size ?_ 24 (arr 16 x) (0, 0) _ h1 Try.underlying24 rfl (hz.out x) ?_; rotate_left))
  all_goals try exact rfl
  refine (add_any b C x 0 (by omega) _ (kept hb0 hc)).mono ?_
  rintro e w1 ⟨rfl, hb1⟩
  have k1 := kept hb1 h1
  have k2 := kept hb1 h2
  have hbl := below_of hb1 hb0
  clear h1 h2 hb0 hb1
  go_wp2_with (with_reducible refine wpList_store_row rfl 24 _ _ rfl w.heap.size (arr 16 (addN C x 0 16)) ?_ ?_ 24 _ k1 (hz.out _) (hs.out _ _) arr_ones ?_; rotate_left; rotate_left)
  all_goals try exact rfl
  have j1 := setRow_heap _ w.heap.size _ (arr 16 (addN C x 0 16)) _ _ k1
  have j2 := (setRow_other _ w.heap.size _ (arr 16 (addN C x 0 16)) (show w.heap.size + 1 ≠ w.heap.size by omega)).trans k2
  have jb := below_row hbl (Nat.le_refl _) (arr 16 (addN C x 0 16))
  clear k1 k2 hbl
  go_loopw [5, 6, 7, 15] (fun a5 a6 a7 a15 wr => ∃ r : Nat, r ≤ 14 ∧ a5 = .int .i64 ((r : Int) + 1) ∧ wr.heap[w.heap.size]? = some (.cells (arr 16 (stN C x r)) 24) ∧ wr.heap[w.heap.size + 1]? = some (.cells (arr 16 fun _ => 0) 24) ∧ Below w.heap.size w wr) (fun a5 _ _ _ _ => 15 - (intOf a5).toNat)
  case atStart => exact ⟨0, by omega, rfl, j1, j2, jb⟩
  case round =>
    clear j1 j2 jb
    obtain ⟨r, hr, rfl, k1, k2, hb⟩ := hrel
    obtain ⟨wo, rfl⟩ : ∃ wo : World, wo = wr := ⟨_, rfl⟩
    by_cases hlt : r < 14
    · have hlt2 := lt_of_heap k2
      have g1 := old_alloc (o' := .cells (arr 16 fun _ => 0) 24) k1
      have g2 := old_alloc (o' := .cells (arr 16 fun _ => 0) 24) k2
      have g3 : (wo.alloc (.cells (arr 16 fun _ => 0) 24)).heap[wo.heap.size]? = some (.cells (arr 16 (subN C (stN C x r) 0)) 24) := new_alloc
      have gb := hb.alloc (by omega) (.cells (arr 16 fun _ => 0) 24)
      go_wp2_with (with_reducible refine wpList_alloc_row rfl 24 rfl _ zero24 ?_)
      go_loopw [7, 15] (fun a7 a15 wr => ∃ k : Nat, k ≤ 16 ∧ a15 = .int .i64 k ∧ wr.heap[w.heap.size]? = some (.cells (arr 16 (stN C x r)) 24) ∧ wr.heap[w.heap.size + 1]? = some (.cells (arr 16 fun _ => 0) 24) ∧ wr.heap[wo.heap.size]? = some (.cells (arr 16 (subN C (stN C x r) k)) 24) ∧ Below w.heap.size w wr) (fun _ a15 _ => 16 - (intOf a15).toNat)
      case atStart => exact ⟨0, by omega, rfl, g1, g2, g3, gb⟩
      case round =>
        clear g1 g2 g3 gb k1 k2 hb
        obtain ⟨k, hk, rfl, k1, k2, k3, hb⟩ := hrel
        by_cases hk16 : k < 16
        · have hC := kept hb hc
          have n1 : (((k : Int) + 4 * ((k : Int) % 4)) % 16).toNat = (k + 4 * (k % 4)) % 16 := by omega
          have m1 : 0 ≤ ((k : Int) + 4 * ((k : Int) % 4)) % 16 := by omega
          have m2 : ((k : Int) + 4 * ((k : Int) % 4)) % 16 < 16 := by omega
          have v1 : (k : Int).tmod 4 = (k : Int) % 4 := Int.tmod_eq_emod_of_nonneg (by omega)
          have v2 : IntKind.i64.wrap (4 * ((k : Int) % 4)) = 4 * ((k : Int) % 4) := IntWalk.i64_in _ (by omega)
          have v3 : IntKind.i64.wrap ((k : Int) + 4 * ((k : Int) % 4)) = (k : Int) + 4 * ((k : Int) % 4) := IntWalk.i64_in _ (by omega)
          have v4 : ((k : Int) + 4 * ((k : Int) % 4)).tmod 16 = ((k : Int) + 4 * ((k : Int) % 4)) % 16 := Int.tmod_eq_emod_of_nonneg (by omega)
          have c0 : wr.cell? ⟨w.heap.size, (k + 4 * (k % 4)) % 16, none⟩ = some (byt (stN C x r ((k + 4 * (k % 4)) % 16))) := (cell_of k1 _).trans (arr_at (by omega))
          have c1 : wr.cell? ⟨b, 240 + (stN C x r ((k + 4 * (k % 4)) % 16)).toNat, none⟩ = some (byt (subAt C (stN C x r) k)) := (cell_of hC _).trans (arr_at (by have := (stN C x r ((k + 4 * (k % 4)) % 16)).toNat_lt; omega))
          have hp0 := (stN C x r ((k + 4 * (k % 4)) % 16)).toNat_lt
          have hp : ((stN C x r ((k + 4 * (k % 4)) % 16)).toNat : Int) < 256 := by omega
          clear hp0
          go_wp2_with fail
          go_still_tail 15, mixed
          clear n1 m1 m2 v1 v2 v3 v4 hp c0 c1
          change wpList _ _ _ _ _ wr.drew
          have c0 : wr.drew.cell? ⟨wo.heap.size, k, none⟩ = some (byt (subN C (stN C x r) k k)) := (cell_of k3 _).trans (arr_at hk16)
          have f0 : wr.drew.frozen? ⟨wo.heap.size, k, none⟩ = false := free_of k3 _
          go_wp2_with fail
          go_roundw
          case rel =>
            refine ⟨k + 1, by omega, by go_num, set_ne (show w.heap.size ≠ wo.heap.size by omega) k1, set_ne (show w.heap.size + 1 ≠ wo.heap.size by omega) k2, ?_, (hb.setCell (show w.heap.size ≤ wo.heap.size by omega) _).drew⟩
            have h1 := set_at (j := k) (u := byt (subAt C (stN C x r) k)) k3
            rw [arr_set, subN_step] at h1
            exact h1
          case measure => simp [intOf]; omega
        · obtain rfl : k = 16 := by omega
          by_cases h13 : r < 13
          · go_wp2_with (with_reducible refine wpList_load_row rfl 24 _ rfl wo.heap.size ?_ 24 (arr 16 (subN C (stN C x r) 16)) (0, 0) _ k3 Try.underlying24 rfl (hz.out _) ?_; rotate_left)
            all_goals try exact rfl
            refine (mix_any _ _).mono ?_
            rintro e w2 ⟨rfl, hb2⟩
            have j1 := kept hb2 k1
            have j2 := kept hb2 k2
            have j3 := kept hb2 k3
            have jb := below_of hb2 hb
            clear k1 k2 k3 hb hb2
            have i1 := (setRow_other _ wo.heap.size _ (arr 16 (mixN (subN C (stN C x r) 16) 16)) (show w.heap.size ≠ wo.heap.size by omega)).trans j1
            have i2 := (setRow_other _ wo.heap.size _ (arr 16 (mixN (subN C (stN C x r) 16) 16)) (show w.heap.size + 1 ≠ wo.heap.size by omega)).trans j2
            have i3 := setRow_heap _ wo.heap.size _ (arr 16 (mixN (subN C (stN C x r) 16) 16)) _ _ j3
            have ib := below_row jb (show w.heap.size ≤ wo.heap.size by omega) (arr 16 (mixN (subN C (stN C x r) 16) 16))
            go_wp2_with (first | (with_reducible refine wpList_store_row rfl 24 _ _ rfl wo.heap.size (arr 16 (mixN (subN C (stN C x r) 16) 16)) ?_ ?_ 24 _ j3 (hz.out _) (hs.out _ _) arr_ones ?_; rotate_left; rotate_left) | (with_reducible refine wpList_load_row rfl 24 _ rfl wo.heap.size ?_ 24 (arr 16 (mixN (subN C (stN C x r) 16) 16)) (0, 0) _ i3 Try.underlying24 rfl (hz.out _) ?_; rotate_left))
            all_goals try exact rfl
            refine (add_succ b C _ r hlt _ (kept ib hc)).mono ?_
            rintro e w3 ⟨rfl, hb3⟩
            rw [st_mix C x h13]
            have y1 := kept hb3 i1
            have y2 := kept hb3 i2
            have yb := below_of hb3 ib
            clear hb3
            have x1 := setRow_heap _ w.heap.size _ (arr 16 (stN C x (r + 1))) _ _ y1
            have x2 := (setRow_other _ w.heap.size _ (arr 16 (stN C x (r + 1))) (show w.heap.size + 1 ≠ w.heap.size by omega)).trans y2
            have xb := below_row yb (Nat.le_refl _) (arr 16 (stN C x (r + 1)))
            go_wp2_with (with_reducible refine wpList_store_row rfl 24 _ _ rfl w.heap.size (arr 16 (stN C x (r + 1))) ?_ ?_ 24 _ y1 (hz.out _) (hs.out _ _) arr_ones ?_; rotate_left; rotate_left)
            all_goals try exact rfl
            go_roundw
            case rel => exact ⟨r + 1, by omega, rfl, x1, x2, xb⟩
            case measure => simp [intOf]; omega
          · have h13' : ¬ (r : Int) + 1 < 14 := by omega
            go_wp2_with (with_reducible refine wpList_load_row rfl 24 _ rfl wo.heap.size ?_ 24 (arr 16 (subN C (stN C x r) 16)) (0, 0) _ k3 Try.underlying24 rfl (hz.out _) ?_; rotate_left)
            all_goals try exact rfl
            refine (add_succ b C _ r hlt _ (kept hb hc)).mono ?_
            rintro e w3 ⟨rfl, hb3⟩
            rw [st_last C x h13]
            have y1 := kept hb3 k1
            have y2 := kept hb3 k2
            have yb := below_of hb3 hb
            clear hb3
            have x1 := setRow_heap _ w.heap.size _ (arr 16 (stN C x (r + 1))) _ _ y1
            have x2 := (setRow_other _ w.heap.size _ (arr 16 (stN C x (r + 1))) (show w.heap.size + 1 ≠ w.heap.size by omega)).trans y2
            have xb := below_row yb (Nat.le_refl _) (arr 16 (stN C x (r + 1)))
            go_wp2_with (with_reducible refine wpList_store_row rfl 24 _ _ rfl w.heap.size (arr 16 (stN C x (r + 1))) ?_ ?_ 24 _ y1 (hz.out _) (hs.out _ _) arr_ones ?_; rotate_left; rotate_left)
            all_goals try exact rfl
            go_roundw
            case rel => exact ⟨r + 1, by omega, rfl, x1, x2, xb⟩
            case measure => simp [intOf]; omega
    · obtain rfl : r = 14 := by omega
      go_wp2_with (first | (with_reducible refine wpList_load_row rfl 24 _ rfl w.heap.size ?_ 24 (arr 16 (stN C x 14)) (0, 0) _ k1 Try.underlying24 rfl (hz.out _) ?_; rotate_left) | (with_reducible refine wpList_store_row rfl 24 _ _ rfl (w.heap.size + 1) (arr 16 (stN C x 14)) ?_ ?_ 24 _ k2 (hz.out _) (hs.out _ _) arr_ones ?_; rotate_left; rotate_left))
      all_goals try exact rfl
      refine bodyPost_ret (v := .agg (arr 16 (stN C x 14))) (results_cell_row rfl _ _ (w.heap.size + 1) 24 _ (0, 0) _ rfl (setRow_heap _ _ _ _ _ _ k2) Try.underlying24 rfl (hz.out _)) rfl ⟨rfl, ?_⟩
      exact below_row hb (by omega) _

end Go.Proofs.Ytgmnigobappjbaa
