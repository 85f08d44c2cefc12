/- The contract of schedule. Conditions: none. -/
import Derived.Test.YtgmnigobappjbaaB4
import Derived.Test.YtgmnigobappjbaaSc
import Derived.Test.YtgmnigobappjbaaCp
import Derived.Test.YtgmnigobappjbaaFx
namespace Go.Proofs.Ytgmnigobappjbaa
open Go.RowKit

set_option maxRecDepth 100000 in
set_option maxHeartbeats 4000000 in
theorem schedule_any (key : Nat → UInt8) (w : World) :
    Calls Try.prog 17 #[.agg (arr 32 key)] w fun e w' => ∃ c, e = .returned (.pointer (some ⟨c, 0, none⟩)) ∧ w.heap.size ≤ c ∧ w'.heap[c]? = some (.cells (arr 496 (cfN key 240)) 56) ∧ Below w.heap.size w w' := by
  have h1 : (w.alloc (.cells (arr 32 key) 23)).heap[w.heap.size]? = some (.cells (arr 32 key) 23) := new_alloc
  have hb0 : Below w.heap.size w (w.alloc (.cells (arr 32 key) 23)) := (Below.refl _ _).alloc (Nat.le_refl _) _
  have hbu := built56
  rw [cfN_zero key] at hbu
  go_enter Try.func17, Try.ntmps17
  go_wp2_with fail
  refine (box_any _).mono ?_
  rintro e w1 ⟨rfl, hb1⟩
  have k1 := kept hb1 h1
  have hbl := below_of hb1 hb0
  clear h1 hb0 hb1
  go_wp2_with (with_reducible refine wpList_build_is rfl 56 _ rfl (arr 496 (cfN key 0)) ?_ ?_; rotate_left)
  all_goals try exact hbu
  have h1 := old_alloc (o' := .cells (arr 496 (cfN key 0)) 56) k1
  have h2 : (w1.alloc (.cells (arr 496 (cfN key 0)) 56)).heap[w1.heap.size]? = some (.cells (arr 496 (cfN key (4 * 0))) 56) := new_alloc
  have hb := hbl.alloc hbl.size (.cells (arr 496 (cfN key 0)) 56)
  have hsz := hbl.size
  have hlt1 := lt_of_heap k1
  clear k1 hbl hbu
  go_loopw [4, 13] (fun a4 a13 wr => ∃ k : Nat, k ≤ 8 ∧ a13 = .int .i64 k ∧ wr.heap[w.heap.size]? = some (.cells (arr 32 key) 23) ∧ wr.heap[w1.heap.size]? = some (.cells (arr 496 (cfN key (4 * k))) 56) ∧ Below w.heap.size w wr) (fun _ a13 _ => 8 - (intOf a13).toNat)
  case atStart => exact ⟨0, by omega, rfl, h1, h2, hb⟩
  case round =>
    clear h1 h2 hb
    obtain ⟨k, hk, rfl, k1, k2, hb⟩ := hrel
    by_cases hlt : k < 8
    · go_wp2_with fail
      have m0 : (k : Int) < 60 := by omega
      have m1 : 0 ≤ 4 * (k : Int) := by omega
      have m2 : 4 * (k : Int) ≤ 32 := by omega
      have n1 : (4 * (k : Int)).toNat = 4 * k := by omega
      have v1 : IntKind.i64.wrap (4 * (k : Int)) = 4 * (k : Int) := IntWalk.i64_in _ (by omega)
      have n2 : ¬ 32 = 4 * k := by omega
      go_still_tail 9, mixed
      clear m0 m1 m2 n1 v1 n2
      change wpList _ _ _ _ _ wr.drew
      refine wpList_copy_arr rfl _ _ 30 30 rfl 5 Try.underlying30 size5 w1.heap.size (k * 4) 4 4 w.heap.size (4 * k) (32 - 4 * k) (32 - 4 * k) rfl rfl 496 (cfN key (4 * k)) 56 k2 4 (fun j => key (4 * k + j)) ?_ ?_ ?_ ?_
      · have e : Nat.min (32 - 4 * k) 4 = min (32 - 4 * k) 4 := rfl
        rw [e]
        omega
      · intro j hj
        exact (cell_of k1 _).trans (arr_at (by omega))
      · omega
      rw [Nat.mul_comm k 4, cfN_copy key hlt]
      have j1 := (setRow_other wr.drew w1.heap.size _ (arr 496 (cfN key (4 * (k + 1)))) (show w.heap.size ≠ w1.heap.size by omega)).trans k1
      have j2 := setRow_heap wr.drew w1.heap.size _ (arr 496 (cfN key (4 * (k + 1)))) _ _ k2
      have jb := below_row hb.drew (show w.heap.size ≤ w1.heap.size by omega) (arr 496 (cfN key (4 * (k + 1))))
      generalize World.setRow wr.drew w1.heap.size (arr 496 (cfN key (4 * (k + 1)))) = W at j1 j2 jb ⊢
      clear k1 k2 hb
      go_wp2_with fail
      go_roundw
      case rel => exact ⟨k + 1, by omega, by go_num, j1, j2, jb⟩
      case measure => simp [intOf]; omega
    · obtain rfl : k = 8 := by omega
      go_wp2_with fail
      have C0 : wr.heap[w1.heap.size]? = some (.cells (arr 496 (cfN key (4 * 8))) 56) := k2
      clear k1 k2
      go_loopw [5, 6, 7, 8, 9, 53, 77] (fun a5 a6 a7 a8 a9 a53 a77 wr => ∃ i : Nat, 8 ≤ i ∧ i ≤ 60 ∧ a6 = .int .i64 i ∧ a5 = byt (pwN ((i - 1) / 8)) ∧ wr.heap[w1.heap.size]? = some (.cells (arr 496 (cfN key (4 * i))) 56) ∧ Below w.heap.size w wr) (fun _ a6 _ _ _ _ _ _ => 60 - (intOf a6).toNat)
      case atStart => exact ⟨8, by omega, by omega, rfl, rfl, C0, hb⟩
      case round =>
        clear C0 hb
        obtain ⟨i, hi8, hi, rfl, rfl, C0, hb⟩ := hrel
        obtain ⟨wo, rfl⟩ : ∃ wo : World, wo = wr := ⟨_, rfl⟩
        by_cases hlt : i < 60
        · have hlt2 := lt_of_heap C0
          have hx := w_xor
          have C1 := old_alloc (o' := .cells (arr 4 fun _ => 0) 53) C0
          have T1 : (wo.alloc (.cells (arr 4 fun _ => 0) 53)).heap[wo.heap.size]? = some (.cells (arr 4 fun _ => 0) 53) := new_alloc
          have B1 := hb.alloc hb.size (.cells (arr 4 fun _ => 0) 53)
          have C2 := (setRow_other _ wo.heap.size _ (arr 4 (pvN (wK key) i)) (show w1.heap.size ≠ wo.heap.size by omega)).trans C1
          have T2 := setRow_heap _ wo.heap.size _ (arr 4 (pvN (wK key) i)) _ _ T1
          have B2 := below_row B1 hb.size (arr 4 (pvN (wK key) i))
          have hq : ∀ j, j < 4 → cfN key (4 * i) ((i - 1) * 4 + j) = pvN (wK key) i j := fun j hj => by
            rw [cfN_at key (by omega) (by omega), pvN, Nat.mul_comm]
          replace hq := hide hq
          have hz : ∀ f : Nat → UInt8, (Try.prog.info? 53).map (·.size) = some (arr 4 f).size := fun f => by rw [arr_size]; exact size53
          have hs : ∀ f g : Nat → UInt8, (arr 4 f).size = (arr 4 g).size := fun f g => by rw [arr_size, arr_size]
          replace hz := hide hz
          replace hs := hide hs
          clear C1 B1
          have hno : (i - 1) * 4 + 4 ≤ 496 := by omega
          have hi1 : 1 ≤ (i : Int) := by omega
          by_cases h8 : (i : Int) % 8 = 0
          · have hn8 : i % 8 = 0 := by omega
            have hn4 : i % 4 = 0 := by omega
            have h4 : (i : Int) % 4 = 0 := by omega
            have t0 := (cell_of T2 0).trans (arr_at (by omega))
            have t1 := (cell_of T2 1).trans (arr_at (by omega))
            have t2 := (cell_of T2 2).trans (arr_at (by omega))
            have t3 := (cell_of T2 3).trans (arr_at (by omega))
            have hzl : (Try.prog.info? 53).map (·.size) = some (#[byt (pvN (wK key) i 1), byt (pvN (wK key) i 2), byt (pvN (wK key) i 3), byt (pvN (wK key) i 0)] : Array Value).size := size53
            have hsl : (arr 4 (pvN (wK key) i)).size = (#[byt (pvN (wK key) i 1), byt (pvN (wK key) i 2), byt (pvN (wK key) i 3), byt (pvN (wK key) i 0)] : Array Value).size := by rw [arr_size]; rfl
            have hol : (#[byt (pvN (wK key) i 1), byt (pvN (wK key) i 2), byt (pvN (wK key) i 3), byt (pvN (wK key) i 0)] : Array Value).all (·.oneCell') = true := by rw [trN_turn (wK key) hn8]; exact arr_ones
            replace hzl := hide hzl
            replace hsl := hide hsl
            replace hol := hide hol
            go_wp2_with (first | (with_reducible refine wpList_load_arr' rfl 53 _ rfl w1.heap.size ((i - 1) * 4) 4 ?_ 56 496 (cfN key (4 * i)) C0 _ Try.underlying53 rfl size53 hno (pvN (wK key) i) hq.out ?_; rotate_left) | (with_reducible refine wpList_alloc_row rfl 53 rfl _ zero53 ?_) | (with_reducible refine wpList_store_row rfl 53 _ _ rfl wo.heap.size (arr 4 (pvN (wK key) i)) ?_ ?_ 53 _ T1 (hz.out _) (hs.out _ _) arr_ones ?_; rotate_left; rotate_left) | (with_reducible refine wpList_store_row rfl 53 _ _ rfl wo.heap.size #[byt (pvN (wK key) i 1), byt (pvN (wK key) i 2), byt (pvN (wK key) i 3), byt (pvN (wK key) i 0)] ?_ ?_ 53 _ T2 hzl.out hsl.out hol.out ?_; rotate_left; rotate_left))
            all_goals try exact rfl
            have C3 := (setRow_other _ wo.heap.size _ #[byt (pvN (wK key) i 1), byt (pvN (wK key) i 2), byt (pvN (wK key) i 3), byt (pvN (wK key) i 0)] (show w1.heap.size ≠ wo.heap.size by omega)).trans C2
            have T3 := setRow_heap _ wo.heap.size _ #[byt (pvN (wK key) i 1), byt (pvN (wK key) i 2), byt (pvN (wK key) i 3), byt (pvN (wK key) i 0)] _ _ T2
            have B3 := below_row B2 (show w.heap.size ≤ wo.heap.size by omega) #[byt (pvN (wK key) i 1), byt (pvN (wK key) i 2), byt (pvN (wK key) i 3), byt (pvN (wK key) i 0)]
            generalize ((wo.alloc (.cells (arr 4 fun _ => 0) 53)).setRow wo.heap.size (arr 4 (pvN (wK key) i))).setRow wo.heap.size #[byt (pvN (wK key) i 1), byt (pvN (wK key) i 2), byt (pvN (wK key) i 3), byt (pvN (wK key) i 0)] = W at C3 T3 B3 ⊢
            rw [trN_turn (wK key) hn8] at T3
            replace T3 : W.heap[wo.heap.size]? = some (.cells (arr 4 (ssN (wK key) i 0)) 53) := T3
            clear t0 t1 t2 t3 hzl hsl hol T2 C0 T1 hb hq C2 B2
            go_loopw [8, 53] (fun a8 a53 wr => ∃ k : Nat, k ≤ 4 ∧ a53 = .int .i64 k ∧ wr.heap[w1.heap.size]? = some (.cells (arr 496 (cfN key (4 * i))) 56) ∧ wr.heap[wo.heap.size]? = some (.cells (arr 4 (ssN (wK key) i k)) 53) ∧ Below w.heap.size w wr) (fun _ a53 _ => 4 - (intOf a53).toNat)
            case atStart => exact ⟨0, by omega, rfl, C3, T3, B3⟩
            case round =>
              clear C3 T3 B3
              obtain ⟨k, hk, rfl, C3, T3, B3⟩ := hrel
              by_cases hk4 : k < 4
              · have c0 : wr.cell? ⟨wo.heap.size, k, none⟩ = some (byt (trN (wK key) i k)) := by
                  rw [← ssN_here]
                  exact (cell_of T3 _).trans (arr_at hk4)
                have hp0 := (trN (wK key) i k).toNat_lt
                have c1 : wr.cell? ⟨w1.heap.size, 240 + (trN (wK key) i k).toNat, none⟩ = some (byt (sx (trN (wK key) i k))) := by
                  rw [sx, ← cfN_s key (4 * i)]
                  exact (cell_of C3 _).trans (arr_at (by omega))
                have hp : ((trN (wK key) i k).toNat : Int) < 256 := by omega
                have hk4' : (k : Int) < 4 := by omega
                clear hp0
                go_wp2_with fail
                go_still_tail 10, mixed
                clear hp c0 c1 hk4'
                change wpList _ _ _ _ _ wr.drew
                have c0 : wr.drew.cell? ⟨wo.heap.size, k, none⟩ = some (byt (ssN (wK key) i k k)) := (cell_of T3 _).trans (arr_at hk4)
                have f0 : wr.drew.frozen? ⟨wo.heap.size, k, none⟩ = false := free_of T3 _
                go_wp2_with fail
                go_roundw
                case rel =>
                  refine ⟨k + 1, by omega, by go_num, set_ne (show w1.heap.size ≠ wo.heap.size by omega) C3, ?_, (B3.setCell (show w.heap.size ≤ wo.heap.size by omega) _).drew⟩
                  have h1 := set_at (j := k) (u := byt (sx (trN (wK key) i k))) T3
                  rw [arr_set, ssN_step] at h1
                  exact h1
                case measure => simp [intOf]; omega
              · obtain rfl : k = 4 := by omega
                rw [ssN_end (wK key) hn4] at T3
                have t0 : wr.cell? ⟨wo.heap.size, 0, none⟩ = some (byt (tsN (wK key) i 0)) := (cell_of T3 0).trans (arr_at (by omega))
                have f0 : wr.frozen? ⟨wo.heap.size, 0, none⟩ = false := free_of T3 0
                go_wp2_with fail
                refine (twice_any _ _).mono ?_
                rintro e w2 ⟨rfl, rfl⟩
                have C5 : (wr.setCell ⟨wo.heap.size, 0, none⟩ (byt (xr (tsN (wK key) i 0) (pwN ((i - 1) / 8))))).heap[w1.heap.size]? = some (.cells (arr 496 (cfN key (4 * i + 0))) 56) := set_ne (show w1.heap.size ≠ wo.heap.size by omega) C3
                have T5 := set_at (j := 0) (u := byt (xr (tsN (wK key) i 0) (pwN ((i - 1) / 8)))) T3
                rw [arr_set, tN_turn (wK key) hn8] at T5
                have B5 := B3.setCell (show w.heap.size ≤ wo.heap.size by omega) (p := ⟨wo.heap.size, 0, none⟩) (byt (xr (tsN (wK key) i 0) (pwN ((i - 1) / 8))))
                clear t0 f0 C3 T3 B3
                go_wp2_with fail
                go_loopw [9, 77] (fun a9 a77 wr => ∃ k : Nat, k ≤ 4 ∧ a77 = .int .i64 k ∧ wr.heap[w1.heap.size]? = some (.cells (arr 496 (cfN key (4 * i + k))) 56) ∧ wr.heap[wo.heap.size]? = some (.cells (arr 4 (tN (wK key) i)) 53) ∧ Below w.heap.size w wr) (fun _ a77 _ => 4 - (intOf a77).toNat)
                case atStart => exact ⟨0, by omega, rfl, C5, T5, B5⟩
                case round =>
                  clear C5 T5 B5
                  obtain ⟨k, hk, rfl, C5, T5, B5⟩ := hrel
                  by_cases hk4 : k < 4
                  · have m1 : (8 : Int) ≤ i := by omega
                    have m2 : (i : Int) - 8 < 60 := by omega
                    have m3 : (i : Int) < 60 := by omega
                    have n1 : ((i : Int) - 8).toNat = i - 8 := by omega
                    have v1 : IntKind.i64.wrap ((i : Int) - 8) = (i : Int) - 8 := IntWalk.i64_in _ (by omega)
                    have c0 : wr.cell? ⟨w1.heap.size, (i - 8) * 4 + k, none⟩ = some (byt (wK key (4 * (i - 8) + k))) := by
                      rw [Nat.mul_comm (i - 8) 4, ← cfN_at key (n := 4 * i + k) (by omega) (by omega)]
                      exact (cell_of C5 _).trans (arr_at (by omega))
                    have c1 : wr.cell? ⟨wo.heap.size, k, none⟩ = some (byt (tN (wK key) i k)) := (cell_of T5 _).trans (arr_at hk4)
                    go_wp2_with fail
                    go_still_tail 20, mixed
                    clear m1 m2 m3 n1 v1 c0 c1
                    change wpList _ _ _ _ _ wr.drew
                    have c0 : wr.drew.cell? ⟨w1.heap.size, i * 4 + k, none⟩ = some (byt (cfN key (4 * i + k) (i * 4 + k))) := (cell_of C5 _).trans (arr_at (by omega))
                    have f0 : wr.drew.frozen? ⟨w1.heap.size, i * 4 + k, none⟩ = false := free_of C5 _
                    go_wp2_with fail
                    go_roundw
                    case rel =>
                      first | refine ⟨k + 1, by omega, by go_num, ?_, set_ne (show wo.heap.size ≠ w1.heap.size by omega) T5, (B5.setCell (show w.heap.size ≤ w1.heap.size by omega) _).drew⟩ | ((repeat apply Exists.intro); refine ⟨⟨k + 1, by omega, by go_num, ?_, set_ne (show wo.heap.size ≠ w1.heap.size by omega) T5, (B5.setCell (show w.heap.size ≤ w1.heap.size by omega) _).drew⟩, rfl⟩)
                      have h1 := set_at (j := i * 4 + k) (u := byt (xr (wK key (4 * (i - 8) + k)) (tN (wK key) i k))) C5
                      rw [arr_set, cfN_word key hi8 hlt hk4] at h1
                      exact h1
                    case measure => simp [intOf]; omega
                  · obtain rfl : k = 4 := by omega
                    go_wp2_with fail
                    go_roundw
                    case rel => first | exact ⟨i + 1, by omega, by omega, by go_num, congrArg byt (pw_turn hn8 hi8), C5, B5⟩ | ((repeat apply Exists.intro); exact ⟨⟨i + 1, by omega, by omega, by go_num, congrArg byt (pw_turn hn8 hi8), C5, B5⟩, rfl⟩)
                    case measure => simp [intOf]; omega
          by_cases h4 : (i : Int) % 4 = 0
          · have hn8 : ¬ i % 8 = 0 := by omega
            have hn4 : i % 4 = 0 := by omega
            go_wp2_with (first | (with_reducible refine wpList_load_arr' rfl 53 _ rfl w1.heap.size ((i - 1) * 4) 4 ?_ 56 496 (cfN key (4 * i)) C0 _ Try.underlying53 rfl size53 hno (pvN (wK key) i) hq.out ?_; rotate_left) | (with_reducible refine wpList_alloc_row rfl 53 rfl _ zero53 ?_) | (with_reducible refine wpList_store_row rfl 53 _ _ rfl wo.heap.size (arr 4 (pvN (wK key) i)) ?_ ?_ 53 _ T1 (hz.out _) (hs.out _ _) arr_ones ?_; rotate_left; rotate_left))
            all_goals try exact rfl
            generalize ((wo.alloc (.cells (arr 4 fun _ => 0) 53)).setRow wo.heap.size (arr 4 (pvN (wK key) i))) = W at C2 T2 B2 ⊢
            rw [← trN_skip (wK key) hn8] at T2
            have T3 : W.heap[wo.heap.size]? = some (.cells (arr 4 (ssN (wK key) i 0)) 53) := T2
            have C3 := C2
            have B3 := B2
            clear C2 B2
            clear T2 C0 T1 hb hq
            go_loopw [8, 53] (fun a8 a53 wr => ∃ k : Nat, k ≤ 4 ∧ a53 = .int .i64 k ∧ wr.heap[w1.heap.size]? = some (.cells (arr 496 (cfN key (4 * i))) 56) ∧ wr.heap[wo.heap.size]? = some (.cells (arr 4 (ssN (wK key) i k)) 53) ∧ Below w.heap.size w wr) (fun _ a53 _ => 4 - (intOf a53).toNat)
            case atStart => exact ⟨0, by omega, rfl, C3, T3, B3⟩
            case round =>
              clear C3 T3 B3
              obtain ⟨k, hk, rfl, C3, T3, B3⟩ := hrel
              by_cases hk4 : k < 4
              · have c0 : wr.cell? ⟨wo.heap.size, k, none⟩ = some (byt (trN (wK key) i k)) := by
                  rw [← ssN_here]
                  exact (cell_of T3 _).trans (arr_at hk4)
                have hp0 := (trN (wK key) i k).toNat_lt
                have c1 : wr.cell? ⟨w1.heap.size, 240 + (trN (wK key) i k).toNat, none⟩ = some (byt (sx (trN (wK key) i k))) := by
                  rw [sx, ← cfN_s key (4 * i)]
                  exact (cell_of C3 _).trans (arr_at (by omega))
                have hp : ((trN (wK key) i k).toNat : Int) < 256 := by omega
                have hk4' : (k : Int) < 4 := by omega
                clear hp0
                go_wp2_with fail
                go_still_tail 10, mixed
                clear hp c0 c1 hk4'
                change wpList _ _ _ _ _ wr.drew
                have c0 : wr.drew.cell? ⟨wo.heap.size, k, none⟩ = some (byt (ssN (wK key) i k k)) := (cell_of T3 _).trans (arr_at hk4)
                have f0 : wr.drew.frozen? ⟨wo.heap.size, k, none⟩ = false := free_of T3 _
                go_wp2_with fail
                go_roundw
                case rel =>
                  refine ⟨k + 1, by omega, by go_num, set_ne (show w1.heap.size ≠ wo.heap.size by omega) C3, ?_, (B3.setCell (show w.heap.size ≤ wo.heap.size by omega) _).drew⟩
                  have h1 := set_at (j := k) (u := byt (sx (trN (wK key) i k))) T3
                  rw [arr_set, ssN_step] at h1
                  exact h1
                case measure => simp [intOf]; omega
              · obtain rfl : k = 4 := by omega
                rw [ssN_end (wK key) hn4] at T3
                rw [← tN_skip (wK key) hn8] at T3
                go_wp2_with fail
                have C5 : wr.heap[w1.heap.size]? = some (.cells (arr 496 (cfN key (4 * i + 0))) 56) := C3
                have T5 := T3
                have B5 := B3
                clear T3 B3
                clear C3
                go_loopw [9, 77] (fun a9 a77 wr => ∃ k : Nat, k ≤ 4 ∧ a77 = .int .i64 k ∧ wr.heap[w1.heap.size]? = some (.cells (arr 496 (cfN key (4 * i + k))) 56) ∧ wr.heap[wo.heap.size]? = some (.cells (arr 4 (tN (wK key) i)) 53) ∧ Below w.heap.size w wr) (fun _ a77 _ => 4 - (intOf a77).toNat)
                case atStart => exact ⟨0, by omega, rfl, C5, T5, B5⟩
                case round =>
                  clear C5 T5 B5
                  obtain ⟨k, hk, rfl, C5, T5, B5⟩ := hrel
                  by_cases hk4 : k < 4
                  · have m1 : (8 : Int) ≤ i := by omega
                    have m2 : (i : Int) - 8 < 60 := by omega
                    have m3 : (i : Int) < 60 := by omega
                    have n1 : ((i : Int) - 8).toNat = i - 8 := by omega
                    have v1 : IntKind.i64.wrap ((i : Int) - 8) = (i : Int) - 8 := IntWalk.i64_in _ (by omega)
                    have c0 : wr.cell? ⟨w1.heap.size, (i - 8) * 4 + k, none⟩ = some (byt (wK key (4 * (i - 8) + k))) := by
                      rw [Nat.mul_comm (i - 8) 4, ← cfN_at key (n := 4 * i + k) (by omega) (by omega)]
                      exact (cell_of C5 _).trans (arr_at (by omega))
                    have c1 : wr.cell? ⟨wo.heap.size, k, none⟩ = some (byt (tN (wK key) i k)) := (cell_of T5 _).trans (arr_at hk4)
                    go_wp2_with fail
                    go_still_tail 20, mixed
                    clear m1 m2 m3 n1 v1 c0 c1
                    change wpList _ _ _ _ _ wr.drew
                    have c0 : wr.drew.cell? ⟨w1.heap.size, i * 4 + k, none⟩ = some (byt (cfN key (4 * i + k) (i * 4 + k))) := (cell_of C5 _).trans (arr_at (by omega))
                    have f0 : wr.drew.frozen? ⟨w1.heap.size, i * 4 + k, none⟩ = false := free_of C5 _
                    go_wp2_with fail
                    go_roundw
                    case rel =>
                      first | refine ⟨k + 1, by omega, by go_num, ?_, set_ne (show wo.heap.size ≠ w1.heap.size by omega) T5, (B5.setCell (show w.heap.size ≤ w1.heap.size by omega) _).drew⟩ | ((repeat apply Exists.intro); refine ⟨⟨k + 1, by omega, by go_num, ?_, set_ne (show wo.heap.size ≠ w1.heap.size by omega) T5, (B5.setCell (show w.heap.size ≤ w1.heap.size by omega) _).drew⟩, rfl⟩)
                      have h1 := set_at (j := i * 4 + k) (u := byt (xr (wK key (4 * (i - 8) + k)) (tN (wK key) i k))) C5
                      rw [arr_set, cfN_word key hi8 hlt hk4] at h1
                      exact h1
                    case measure => simp [intOf]; omega
                  · obtain rfl : k = 4 := by omega
                    go_wp2_with fail
                    go_roundw
                    case rel => first | exact ⟨i + 1, by omega, by omega, by go_num, congrArg byt (pw_skip hn8), C5, B5⟩ | ((repeat apply Exists.intro); exact ⟨⟨i + 1, by omega, by omega, by go_num, congrArg byt (pw_skip hn8), C5, B5⟩, rfl⟩)
                    case measure => simp [intOf]; omega
          · have hn8 : ¬ i % 8 = 0 := by omega
            have hn4 : ¬ i % 4 = 0 := by omega
            go_wp2_with (first | (with_reducible refine wpList_load_arr' rfl 53 _ rfl w1.heap.size ((i - 1) * 4) 4 ?_ 56 496 (cfN key (4 * i)) C0 _ Try.underlying53 rfl size53 hno (pvN (wK key) i) hq.out ?_; rotate_left) | (with_reducible refine wpList_alloc_row rfl 53 rfl _ zero53 ?_) | (with_reducible refine wpList_store_row rfl 53 _ _ rfl wo.heap.size (arr 4 (pvN (wK key) i)) ?_ ?_ 53 _ T1 (hz.out _) (hs.out _ _) arr_ones ?_; rotate_left; rotate_left))
            all_goals try exact rfl
            generalize ((wo.alloc (.cells (arr 4 fun _ => 0) 53)).setRow wo.heap.size (arr 4 (pvN (wK key) i))) = W at C2 T2 B2 ⊢
            rw [← trN_skip (wK key) hn8, ← tsN_skip (wK key) hn4, ← tN_skip (wK key) hn8] at T2
            have C5 : W.heap[w1.heap.size]? = some (.cells (arr 496 (cfN key (4 * i + 0))) 56) := C2
            have T5 := T2
            have B5 := B2
            clear T2 B2
            clear C2 C0 T1 hb hq h8 h4
            go_loopw [9, 77] (fun a9 a77 wr => ∃ k : Nat, k ≤ 4 ∧ a77 = .int .i64 k ∧ wr.heap[w1.heap.size]? = some (.cells (arr 496 (cfN key (4 * i + k))) 56) ∧ wr.heap[wo.heap.size]? = some (.cells (arr 4 (tN (wK key) i)) 53) ∧ Below w.heap.size w wr) (fun _ a77 _ => 4 - (intOf a77).toNat)
            case atStart => exact ⟨0, by omega, rfl, C5, T5, B5⟩
            case round =>
              clear C5 T5 B5
              obtain ⟨k, hk, rfl, C5, T5, B5⟩ := hrel
              by_cases hk4 : k < 4
              · have m1 : (8 : Int) ≤ i := by omega
                have m2 : (i : Int) - 8 < 60 := by omega
                have m3 : (i : Int) < 60 := by omega
                have n1 : ((i : Int) - 8).toNat = i - 8 := by omega
                have v1 : IntKind.i64.wrap ((i : Int) - 8) = (i : Int) - 8 := IntWalk.i64_in _ (by omega)
                have c0 : wr.cell? ⟨w1.heap.size, (i - 8) * 4 + k, none⟩ = some (byt (wK key (4 * (i - 8) + k))) := by
                  rw [Nat.mul_comm (i - 8) 4, ← cfN_at key (n := 4 * i + k) (by omega) (by omega)]
                  exact (cell_of C5 _).trans (arr_at (by omega))
                have c1 : wr.cell? ⟨wo.heap.size, k, none⟩ = some (byt (tN (wK key) i k)) := (cell_of T5 _).trans (arr_at hk4)
                go_wp2_with fail
                go_still_tail 20, mixed
                clear m1 m2 m3 n1 v1 c0 c1
                change wpList _ _ _ _ _ wr.drew
                have c0 : wr.drew.cell? ⟨w1.heap.size, i * 4 + k, none⟩ = some (byt (cfN key (4 * i + k) (i * 4 + k))) := (cell_of C5 _).trans (arr_at (by omega))
                have f0 : wr.drew.frozen? ⟨w1.heap.size, i * 4 + k, none⟩ = false := free_of C5 _
                go_wp2_with fail
                go_roundw
                case rel =>
                  first | refine ⟨k + 1, by omega, by go_num, ?_, set_ne (show wo.heap.size ≠ w1.heap.size by omega) T5, (B5.setCell (show w.heap.size ≤ w1.heap.size by omega) _).drew⟩ | ((repeat apply Exists.intro); refine ⟨⟨k + 1, by omega, by go_num, ?_, set_ne (show wo.heap.size ≠ w1.heap.size by omega) T5, (B5.setCell (show w.heap.size ≤ w1.heap.size by omega) _).drew⟩, rfl⟩)
                  have h1 := set_at (j := i * 4 + k) (u := byt (xr (wK key (4 * (i - 8) + k)) (tN (wK key) i k))) C5
                  rw [arr_set, cfN_word key hi8 hlt hk4] at h1
                  exact h1
                case measure => simp [intOf]; omega
              · obtain rfl : k = 4 := by omega
                go_wp2_with fail
                go_roundw
                case rel => first | exact ⟨i + 1, by omega, by omega, by go_num, congrArg byt (pw_skip hn8), C5, B5⟩ | ((repeat apply Exists.intro); exact ⟨⟨i + 1, by omega, by omega, by go_num, congrArg byt (pw_skip hn8), C5, B5⟩, rfl⟩)
                case measure => simp [intOf]; omega
        · obtain rfl : i = 60 := by omega
          go_wp2_with fail
          go_ret
          exact ⟨_, rfl, by omega, C0, hb⟩

end Go.Proofs.Ytgmnigobappjbaa
