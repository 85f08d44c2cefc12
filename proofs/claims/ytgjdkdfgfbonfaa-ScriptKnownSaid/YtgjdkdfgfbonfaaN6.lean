/- The contract of Acts. Conditions: none. -/
import Derived.Test.YtgjdkdfgfbonfaaN5
import Derived.Test.YtgjdkdfgfbonfaaAc
import Derived.BigQuiet
namespace Go.Proofs.Ytgjdkdfgfbonfaa
open Go.RowKit

theorem info35 : ∃ i, Try.prog.info? 35 = some i ∧ i.zero = some (.agg #[.int .u8 0, .int .i64 0, .int .i64 0, .int .i64 0, .string ⟨#[]⟩, .string ⟨#[]⟩, .slice none 0 0]) ∧ i.size = 7 ∧ i.bytes = 88 := ⟨_, rfl, rfl, rfl, rfl⟩

set_option maxRecDepth 100000 in
set_option maxHeartbeats 1600000 in
theorem acts_any (C : Array Value) (M : Mx) (s n : Int) (w : World) (hM : MixAt w C M) :
    Calls Try.prog 13 #[.agg C, .int .u64 s, .int .i64 n] w fun e w' => ∃ v, e = .returned (.tuple #[v, .int .u64 (stN M s (cntN M n))]) ∧ ActsIs w' w.heap.size v (cntN M n) (acN M s) ∧ Below w.heap.size w w' := by
  obtain ⟨vp, vv, hC, hp, hv⟩ := hM.ex
  have hC23 := hC.size
  have h23 : (Try.prog.info? 25).map (·.size) = some C.size := by rw [hC23]; exact size25
  have hK0 : ((w.alloc (.cells C 25)).alloc (src s)).heap[w.heap.size]? = some (.cells C 25) := old_alloc new_alloc
  have hg0 : ((w.alloc (.cells C 25)).alloc (src s)).heap[w.heap.size + 1]? = some (src s) := by
    have h := new_alloc (w := w.alloc (.cells C 25)) (o := src s)
    rw [World.size_alloc] at h
    exact h
  have hb0 : Below w.heap.size w ((w.alloc (.cells C 25)).alloc (src s)) := ((Below.refl _ _).alloc (Nat.le_refl _) (.cells C 25)).alloc (by simp) (src s)
  go_enter Try.func13, Try.ntmps13
  go_wp2_with (with_reducible refine wpList_load_row rfl 25 _ rfl w.heap.size ?_ 25 C (0, 0) _ hK0 Try.underlying25 rfl h23 ?_; rotate_left)
  rotate_left
  · exact rfl
  refine (right_any C M _ (hM.below hb0)).mono ?_
  rintro e w1 ⟨rfl, hb⟩
  have hbl := below_of hb hb0
  have hK1 := kept hb hK0
  have hg1 := kept hb hg0
  clear hb hK0 hg0 hb0
  obtain ⟨s0, sf0⟩ := cells1 hg1
  rcases hr : rightB M with _ | _
  · go_wp2_with fail
    go_quiet (fail)
    go_wp2_with fail
    have hm : cntN M n = 0 := by simp [cntN, hr]
    refine bodyPost_ret (v := .tuple #[.slice none 0 0, .int .u64 s]) (by simp [results, Try.results13, go_sem]) rfl ?_
    refine ⟨.slice none 0 0, by rw [hm]; rfl, ?_, ⟨hbl.os, hbl.tape, hbl.output, hbl.size, hbl.block⟩⟩
    rw [hm]
    exact ⟨fun _ => undef, World.ownsRow_nil _ _ _ _, fun i hi => by omega⟩
  · obtain ⟨m, hm⟩ : ∃ m : Nat, cntN M n = m := ⟨_, rfl⟩
    have hm0 := hm
    unfold cntN at hm0
    rw [hr, if_pos rfl] at hm0
    go_wp2_with fail
    · have hmb : (m : Int) = 4096 := by omega
      have hs0' := hbl.size
      go_loopw [8, 16] (fun v i wr => ∃ k : Nat, k ≤ m ∧ i = .int .i64 k ∧ wr.heap[w.heap.size]? = some (.cells C 25) ∧ wr.heap[w.heap.size + 1]? = some (src (stN M s k)) ∧ ActsIs wr w.heap.size v k (acN M s) ∧ Below w.heap.size w wr) (fun _ i _ => m - (intOf i).toNat)
      case atStart => exact ⟨0, by omega, rfl, hK1, hg1, ⟨fun _ => undef, World.ownsRow_nil _ _ _ _, fun i hi => by omega⟩, hbl⟩
      case round =>
        clear hK1 hg1 hbl s0 sf0
        obtain ⟨k, hk, rfl, hK, hg, hA, hbel⟩ := hrel
        by_cases hlt : k < m
        · have hkb : (k : Int) < 4096 := by omega
          go_wp2_with (with_reducible refine wpList_load_row rfl 25 _ rfl w.heap.size ?_ 25 C (0, 0) _ hK Try.underlying25 rfl h23 ?_; rotate_left)
          rotate_left
          · exact rfl
          refine (act_any C M (w.heap.size + 1) (stN M s k) _ (hM.below hbel) hr hg).mono ?_
          rintro e W2 ⟨ks, rfl, hks, hg2, hb2⟩
          have hK2 := kept_but hb2 hg hK (by decide)
          have hA2 := hA.but hg hb2
          have hbel2 : Below w.heap.size w W2 := hbel.trans (hb2.toBelow hbel.size (by omega))
          have hks2 : KeepIs W2 w.heap.size ks (acN M s k).keep := own_base hks hbel.size
          clear hK hg hA hb2 hbel hks
          obtain ⟨KS, hA3, hA4⟩ := hA2
          have hx : actOf M (stN M s k) = acN M s k := rfl
          rw [hx]
          generalize hx' : acN M s k = x at hks2 ⊢
          simp only [acv]
          obtain ⟨i0, hi, hz0, hz1, hz2⟩ := info35
          have hnw := new_alloc (w := W2) (o := .cells #[.int .u8 x.k, .int .i64 x.a, .int .i64 0, .int .i64 x.n, .string x.p, .string x.v, ks] 35)
          have hba := hbel2.alloc hbel2.size (.cells #[.int .u8 x.k, .int .i64 x.a, .int .i64 0, .int .i64 x.n, .string x.p, .string x.v, ks] 35)
          have hA5 := own_below hA3 ((Below.refl _ _).alloc (Nat.le_refl _) (.cells #[.int .u8 x.k, .int .i64 x.a, .int .i64 0, .int .i64 x.n, .string x.p, .string x.v, ks] 35))
          have hgw := old_alloc (o' := .cells #[.int .u8 x.k, .int .i64 x.a, .int .i64 0, .int .i64 x.n, .string x.p, .string x.v, ks] 35) hg2
          have hKw := old_alloc (o' := .cells #[.int .u8 x.k, .int .i64 x.a, .int .i64 0, .int .i64 x.n, .string x.p, .string x.v, ks] 35) hK2
          go_wp2_with (at_builtin; refine wpList_append_own _ rfl _ _ 29 rfl w.heap.size 35 i0 _ 7 88 Try.underlying29 hi hz0 hz1 hz2 rfl (by decide) _ _ _ rfl hA5 ⟨W2.heap.size, 0, none⟩ 1 1 [.int .u8 x.k, .int .i64 x.a, .int .i64 0, .int .i64 x.n, .string x.p, .string x.v, ks] rfl rfl ?c1 ?c2 ?c3 ?c4 ?c5 ?_)
          case c1 =>
            intro j u hj
            have hadd : (⟨W2.heap.size, 0, none⟩ : Addr).add j = ⟨W2.heap.size, j, none⟩ := by unfold Addr.add; split <;> simp_all
            rw [hadd, cell_of hnw j]
            simpa using hj
          case c2 =>
            obtain ⟨a5, n5, c5', rfl⟩ := own_slice hks2
            intro u hu
            simp at hu
            rcases hu with rfl | rfl | rfl | rfl | rfl | rfl | rfl <;> rfl
          case c3 => unfold maxLen; omega
          case c4 => omega
          case c5 => exact hba.size
          intro v' W3 hrow hgr _
          have hal : Below W2.heap.size W2 (W2.alloc (.cells #[.int .u8 x.k, .int .i64 x.a, .int .i64 0, .int .i64 x.n, .string x.p, .string x.v, ks] 35)) := (Below.refl _ _).alloc (Nat.le_refl _) _
          have hK3 := (hgr.block _ (lt_of_heap hKw) (own_ne hA5 hKw (by decide))).trans hKw
          have hg3 := (hgr.block _ (lt_of_heap hgw) (own_ne hA5 hgw (by decide))).trans hgw
          have hb3 := hba.grown hgr hba.size (fun j hj => (hA5.lt j hj).1)
          have hA6 : ActsIs W3 w.heap.size v' (k + 1) (acN M s) := ActsIs.more (fun i hi => own_below (hA4 i hi) hal) hA5 (by rw [hx']; exact own_below hks2 hal) hgr (by rw [hx']; exact hrow)
          clear hnw hba hA5 hgw hKw hrow hgr hal hA3 hA4 hks2 hK2 hg2 hbel2
          go_wp2_with fail
          go_roundw
          case rel => exact ⟨k + 1, by omega, by go_num, hK3, hg3, hA6, hb3⟩
          case measure => simp [intOf]; omega
        · obtain rfl : k = m := by omega
          have hkb : ¬ (k : Int) < 4096 := by omega
          obtain ⟨s1, sf1⟩ := cells1 hg
          obtain ⟨KS, hrow, hks⟩ := id hA
          obtain ⟨a8, n8, c8, rfl⟩ := own_slice hrow
          go_wp2_with fail
          go_quiet (fail)
          go_wp2_with fail
          refine bodyPost_ret (v := .tuple #[.slice a8 n8 c8, .int .u64 (stN M s k)]) (by simp [results, Try.results13, go_sem]) rfl ?_
          refine ⟨.slice a8 n8 c8, by rw [hm], ?_, ⟨hbel.os, hbel.tape, hbel.output, hbel.size, hbel.block⟩⟩
          rw [hm]
          exact hA
    · have hmb : (m : Int) = n := by omega
      have hs0' := hbl.size
      go_loopw [8, 16] (fun v i wr => ∃ k : Nat, k ≤ m ∧ i = .int .i64 k ∧ wr.heap[w.heap.size]? = some (.cells C 25) ∧ wr.heap[w.heap.size + 1]? = some (src (stN M s k)) ∧ ActsIs wr w.heap.size v k (acN M s) ∧ Below w.heap.size w wr) (fun _ i _ => m - (intOf i).toNat)
      case atStart => exact ⟨0, by omega, rfl, hK1, hg1, ⟨fun _ => undef, World.ownsRow_nil _ _ _ _, fun i hi => by omega⟩, hbl⟩
      case round =>
        clear hK1 hg1 hbl s0 sf0
        obtain ⟨k, hk, rfl, hK, hg, hA, hbel⟩ := hrel
        by_cases hlt : k < m
        · have hkb : (k : Int) < n := by omega
          go_wp2_with (with_reducible refine wpList_load_row rfl 25 _ rfl w.heap.size ?_ 25 C (0, 0) _ hK Try.underlying25 rfl h23 ?_; rotate_left)
          rotate_left
          · exact rfl
          refine (act_any C M (w.heap.size + 1) (stN M s k) _ (hM.below hbel) hr hg).mono ?_
          rintro e W2 ⟨ks, rfl, hks, hg2, hb2⟩
          have hK2 := kept_but hb2 hg hK (by decide)
          have hA2 := hA.but hg hb2
          have hbel2 : Below w.heap.size w W2 := hbel.trans (hb2.toBelow hbel.size (by omega))
          have hks2 : KeepIs W2 w.heap.size ks (acN M s k).keep := own_base hks hbel.size
          clear hK hg hA hb2 hbel hks
          obtain ⟨KS, hA3, hA4⟩ := hA2
          have hx : actOf M (stN M s k) = acN M s k := rfl
          rw [hx]
          generalize hx' : acN M s k = x at hks2 ⊢
          simp only [acv]
          obtain ⟨i0, hi, hz0, hz1, hz2⟩ := info35
          have hnw := new_alloc (w := W2) (o := .cells #[.int .u8 x.k, .int .i64 x.a, .int .i64 0, .int .i64 x.n, .string x.p, .string x.v, ks] 35)
          have hba := hbel2.alloc hbel2.size (.cells #[.int .u8 x.k, .int .i64 x.a, .int .i64 0, .int .i64 x.n, .string x.p, .string x.v, ks] 35)
          have hA5 := own_below hA3 ((Below.refl _ _).alloc (Nat.le_refl _) (.cells #[.int .u8 x.k, .int .i64 x.a, .int .i64 0, .int .i64 x.n, .string x.p, .string x.v, ks] 35))
          have hgw := old_alloc (o' := .cells #[.int .u8 x.k, .int .i64 x.a, .int .i64 0, .int .i64 x.n, .string x.p, .string x.v, ks] 35) hg2
          have hKw := old_alloc (o' := .cells #[.int .u8 x.k, .int .i64 x.a, .int .i64 0, .int .i64 x.n, .string x.p, .string x.v, ks] 35) hK2
          go_wp2_with (at_builtin; refine wpList_append_own _ rfl _ _ 29 rfl w.heap.size 35 i0 _ 7 88 Try.underlying29 hi hz0 hz1 hz2 rfl (by decide) _ _ _ rfl hA5 ⟨W2.heap.size, 0, none⟩ 1 1 [.int .u8 x.k, .int .i64 x.a, .int .i64 0, .int .i64 x.n, .string x.p, .string x.v, ks] rfl rfl ?c1 ?c2 ?c3 ?c4 ?c5 ?_)
          case c1 =>
            intro j u hj
            have hadd : (⟨W2.heap.size, 0, none⟩ : Addr).add j = ⟨W2.heap.size, j, none⟩ := by unfold Addr.add; split <;> simp_all
            rw [hadd, cell_of hnw j]
            simpa using hj
          case c2 =>
            obtain ⟨a5, n5, c5', rfl⟩ := own_slice hks2
            intro u hu
            simp at hu
            rcases hu with rfl | rfl | rfl | rfl | rfl | rfl | rfl <;> rfl
          case c3 => unfold maxLen; omega
          case c4 => omega
          case c5 => exact hba.size
          intro v' W3 hrow hgr _
          have hal : Below W2.heap.size W2 (W2.alloc (.cells #[.int .u8 x.k, .int .i64 x.a, .int .i64 0, .int .i64 x.n, .string x.p, .string x.v, ks] 35)) := (Below.refl _ _).alloc (Nat.le_refl _) _
          have hK3 := (hgr.block _ (lt_of_heap hKw) (own_ne hA5 hKw (by decide))).trans hKw
          have hg3 := (hgr.block _ (lt_of_heap hgw) (own_ne hA5 hgw (by decide))).trans hgw
          have hb3 := hba.grown hgr hba.size (fun j hj => (hA5.lt j hj).1)
          have hA6 : ActsIs W3 w.heap.size v' (k + 1) (acN M s) := ActsIs.more (fun i hi => own_below (hA4 i hi) hal) hA5 (by rw [hx']; exact own_below hks2 hal) hgr (by rw [hx']; exact hrow)
          clear hnw hba hA5 hgw hKw hrow hgr hal hA3 hA4 hks2 hK2 hg2 hbel2
          go_wp2_with fail
          go_roundw
          case rel => exact ⟨k + 1, by omega, by go_num, hK3, hg3, hA6, hb3⟩
          case measure => simp [intOf]; omega
        · obtain rfl : k = m := by omega
          have hkb : ¬ (k : Int) < n := by omega
          obtain ⟨s1, sf1⟩ := cells1 hg
          obtain ⟨KS, hrow, hks⟩ := id hA
          obtain ⟨a8, n8, c8, rfl⟩ := own_slice hrow
          go_wp2_with fail
          go_quiet (fail)
          go_wp2_with fail
          refine bodyPost_ret (v := .tuple #[.slice a8 n8 c8, .int .u64 (stN M s k)]) (by simp [results, Try.results13, go_sem]) rfl ?_
          refine ⟨.slice a8 n8 c8, by rw [hm], ?_, ⟨hbel.os, hbel.tape, hbel.output, hbel.size, hbel.block⟩⟩
          rw [hm]
          exact hA
    · have hmb : (m : Int) = 0 := by omega
      have hs0' := hbl.size
      go_loopw [8, 16] (fun v i wr => ∃ k : Nat, k ≤ m ∧ i = .int .i64 k ∧ wr.heap[w.heap.size]? = some (.cells C 25) ∧ wr.heap[w.heap.size + 1]? = some (src (stN M s k)) ∧ ActsIs wr w.heap.size v k (acN M s) ∧ Below w.heap.size w wr) (fun _ i _ => m - (intOf i).toNat)
      case atStart => exact ⟨0, by omega, rfl, hK1, hg1, ⟨fun _ => undef, World.ownsRow_nil _ _ _ _, fun i hi => by omega⟩, hbl⟩
      case round =>
        clear hK1 hg1 hbl s0 sf0
        obtain ⟨k, hk, rfl, hK, hg, hA, hbel⟩ := hrel
        by_cases hlt : k < m
        · have hkb : (k : Int) < 0 := by omega
          omega
        · obtain rfl : k = m := by omega
          have hkb : ¬ (k : Int) < 0 := by omega
          obtain ⟨s1, sf1⟩ := cells1 hg
          obtain ⟨KS, hrow, hks⟩ := id hA
          obtain ⟨a8, n8, c8, rfl⟩ := own_slice hrow
          go_wp2_with fail
          go_quiet (fail)
          go_wp2_with fail
          refine bodyPost_ret (v := .tuple #[.slice a8 n8 c8, .int .u64 (stN M s k)]) (by simp [results, Try.results13, go_sem]) rfl ?_
          refine ⟨.slice a8 n8 c8, by rw [hm], ?_, ⟨hbel.os, hbel.tape, hbel.output, hbel.size, hbel.block⟩⟩
          rw [hm]
          exact hA

end Go.Proofs.Ytgjdkdfgfbonfaa
