/- The contract of Stream. Conditions: none. -/
import Derived.Test.YtgmnigobappjbaaB8
namespace Go.Proofs.Ytgmnigobappjbaa
open Go.RowKit

set_option maxRecDepth 100000 in
set_option maxHeartbeats 4000000 in
theorem Stream_any (key nonce : Nat → UInt8) (s : ByteArray) (hmx : s.size ≤ 100000) (w : World) :
    Calls Try.prog 13 #[.agg (arr 32 key), .agg (arr 12 nonce), .string s] w fun e w' => e = .returned (.string (txt s.size (strN (sF s) (ksN key nonce) s.size))) ∧ Below w.heap.size w w' := by
  have hz : ∀ f : Nat → UInt8, (Try.prog.info? 24).map (·.size) = some (arr 16 f).size := fun f => by rw [arr_size]; exact size24
  have hz3 : ∀ f : Nat → UInt8, (Try.prog.info? 23).map (·.size) = some (arr 32 f).size := fun f => by rw [arr_size]; exact size23
  have hs : ∀ f g : Nat → UInt8, (arr 16 f).size = (arr 16 g).size := fun f g => by rw [arr_size, arr_size]
  replace hz := hide hz
  replace hz3 := hide hz3
  replace hs := hide hs
  have h1 : ((w.alloc (.cells (arr 32 key) 23)).alloc (.cells (arr 12 nonce) 32)).heap[w.heap.size]? = some (.cells (arr 32 key) 23) := old_alloc new_alloc
  have h2 : ((w.alloc (.cells (arr 32 key) 23)).alloc (.cells (arr 12 nonce) 32)).heap[w.heap.size + 1]? = some (.cells (arr 12 nonce) 32) := by
    have h := new_alloc (w := w.alloc (.cells (arr 32 key) 23)) (o := .cells (arr 12 nonce) 32)
    rw [World.size_alloc] at h
    exact h
  have hb0 : Below w.heap.size w ((w.alloc (.cells (arr 32 key) 23)).alloc (.cells (arr 12 nonce) 32)) := ((Below.refl _ _).alloc (Nat.le_refl _) _).alloc (by simp) _
  go_enter Try.func13, Try.ntmps13
  go_wp2_with (with_reducible refine wpList_load_row rfl 23 _ rfl w.heap.size ?_ 23 (arr 32 key) (0, 0) _ h1 Try.underlying23 rfl (hz3.out _) ?_; rotate_left)
  all_goals try exact rfl
  refine (schedule_any key _).mono ?_
  rintro e w1 ⟨c, rfl, hcl, hc, hb1⟩
  have hcw : w.heap.size ≤ c := by
    have := hb0.size
    omega
  have k2 := kept hb1 h2
  have hbl := below_of hb1 hb0
  have hc1 := lt_of_heap hc
  have hn1 := lt_of_heap k2
  clear h1 h2 hb0 hb1 hcl
  go_wp2_with (with_reducible refine wpList_of_text rfl 9 30 5 _ rfl Try.underlying9 Try.underlying30 Try.underlying5 s ?_ ?_; rotate_left)
  all_goals try exact rfl
  intro N cap hN
  have hst : only s.size (sF s) = only s.size (strN (sF s) (ksN key nonce) (16 * 0)) := (strN_zero _ _ _).symm
  have g2 : (w1.alloc (.cells (arr N (only s.size (sF s))) 5 (N, N + 1))).drew.heap[w.heap.size + 1]? = some (.cells (arr 12 nonce) 32) := old_alloc (w := w1) k2
  have gc : (w1.alloc (.cells (arr N (only s.size (sF s))) 5 (N, N + 1))).drew.heap[c]? = some (.cells (arr 496 (cfN key 240)) 56) := old_alloc (w := w1) hc
  have gt : (w1.alloc (.cells (arr N (only s.size (sF s))) 5 (N, N + 1))).drew.heap[w1.heap.size]? = some (.cells (arr N (only s.size (sF s))) 5 (N, N + 1)) := new_alloc (w := w1)
  have gb : Below w.heap.size w (w1.alloc (.cells (arr N (only s.size (sF s))) 5 (N, N + 1))).drew := (hbl.alloc hbl.size _).drew
  have hsz := hbl.size
  generalize (w1.alloc (.cells (arr N (only s.size (sF s))) 5 (N, N + 1))).drew = W at g2 gc gt gb ⊢
  rw [hst] at gt
  clear k2 hc hbl hst
  go_wp2_with fail
  go_loopw [9, 10, 11, 12, 40] (fun a9 a10 a11 a12 a40 wr => ∃ q : Nat, 16 * q ≤ s.size + 15 ∧ a9 = .int .i64 ((16 * q : Nat) : Int) ∧ wr.heap[w.heap.size + 1]? = some (.cells (arr 12 nonce) 32) ∧ wr.heap[c]? = some (.cells (arr 496 (cfN key 240)) 56) ∧ wr.heap[w1.heap.size]? = some (.cells (arr N (only s.size (strN (sF s) (ksN key nonce) (16 * q)))) 5 (N, N + 1)) ∧ Below w.heap.size w wr) (fun a9 _ _ _ _ _ => s.size + 16 - (intOf a9).toNat)
  case atStart => exact ⟨0, by omega, rfl, g2, gc, gt, gb⟩
  case round =>
    clear g2 gc gt gb
    obtain ⟨q, hq, rfl, g2, gc, gt, gb⟩ := hrel
    obtain ⟨wo, rfl⟩ : ∃ wo : World, wo = wr := ⟨_, rfl⟩
    by_cases hlt : 16 * q < s.size
    · have hlt2 := lt_of_heap gt
      go_wp2_with (with_reducible refine wpList_alloc_row rfl 24 rfl _ zero24 ?_)
      have k2 := old_alloc (o' := .cells (arr 16 fun _ => 0) 24) g2
      have kc := old_alloc (o' := .cells (arr 16 fun _ => 0) 24) gc
      have kt := old_alloc (o' := .cells (arr 16 fun _ => 0) 24) gt
      have ki : (wo.alloc (.cells (arr 16 fun _ => 0) 24)).heap[wo.heap.size]? = some (.cells (arr 16 fun _ => 0) 24) := new_alloc
      have kb := gb.alloc gb.size (.cells (arr 16 fun _ => 0) 24)
      have hsz2 := gb.size
      generalize wo.alloc (.cells (arr 16 fun _ => 0) 24) = W1 at k2 kc kt ki kb ⊢
      clear g2 gc gt gb
      go_still_tail 2, mixed
      change wpList _ _ _ _ _ W1.drew
      refine wpList_copy_arr rfl _ _ 30 30 rfl 5 Try.underlying30 size5 wo.heap.size 0 16 16 (w.heap.size + 1) 0 12 12 rfl rfl 16 (fun _ => 0) 24 ki 12 nonce rfl (fun j hj => ?_) (by omega) ?_
      · rw [Nat.zero_add]
        exact (cell_of k2 _).trans (arr_at hj)
      have j2 := (setRow_other W1.drew wo.heap.size _ (arr 16 (spl (fun _ => 0) 0 12 nonce)) (show w.heap.size + 1 ≠ wo.heap.size by omega)).trans k2
      have jc := (setRow_other W1.drew wo.heap.size _ (arr 16 (spl (fun _ => 0) 0 12 nonce)) (show c ≠ wo.heap.size by omega)).trans kc
      have jt := (setRow_other W1.drew wo.heap.size _ (arr 16 (spl (fun _ => 0) 0 12 nonce)) (show w1.heap.size ≠ wo.heap.size by omega)).trans kt
      have ji := setRow_heap W1.drew wo.heap.size _ (arr 16 (spl (fun _ => 0) 0 12 nonce)) _ _ ki
      have jb := below_row kb.drew hsz2 (arr 16 (spl (fun _ => 0) 0 12 nonce))
      generalize World.setRow W1.drew wo.heap.size (arr 16 (spl (fun _ => 0) 0 12 nonce)) = W2 at j2 jc jt ji jb ⊢
      clear k2 kc kt ki kb
      go_wp2_with fail
      have hq1 : IntKind.i64.wrap (q : Int) = q := IntWalk.i64_in _ (by omega)
      have hq2 : IntKind.u64.wrap (q : Int) = q := IntWalk.u64_in _ (by omega)
      replace hq1 := hide hq1
      replace hq2 := hide hq2
      refine Draw.wp_region_ghosts mixed 5 4 (by kernel_rfl) undef
        (fun v i => ([.slice (some ⟨wo.heap.size, 12, none⟩) 4 4, .int .i64 (16 * (q : Int)), .int .i64 q, .int .u64 q, v] : List Value).getD i undef)
        _ (fun _ => rfl)
        (fun D v w' => Below W2.heap.size W2 w' ∧ (D 4 = true → w'.ownsRow W2.heap.size 5 1 v 4 (bigs q 4)))
        ⟨(Below.refl _ _).drew, fun h => absurd h Bool.false_ne_true⟩ ?_ ?_
      · simp only [Draw.puts, List.take_succ_cons, List.take_zero, if_true, Act.put, List.setIfInBounds_toArray, List.set_cons_zero, List.set_cons_succ, Nat.zero_add, Nat.reduceAdd, List.getD_cons_zero, List.getD_cons_succ]
        refine ⟨?_, ?_, ?_, ?_, ?_, trivial⟩
        all_goals rintro D γ w2 hD hpre ⟨hb, hx⟩
        all_goals refine .inl ⟨rfl, fun K hk => ?_⟩
        · go_simp
          exact hk γ w2 (fun _ _ => rfl) ⟨hb, by simpa [Draw.upd] using hx⟩
        · go_simp
          exact hk γ w2 (fun _ _ => rfl) ⟨hb, by simpa [Draw.upd] using hx⟩
        · go_simp
          rw [hq1.out]
          exact hk γ w2 (fun _ _ => rfl) ⟨hb, by simpa [Draw.upd] using hx⟩
        · go_simp
          rw [hq2.out]
          exact hk γ w2 (fun _ _ => rfl) ⟨hb, by simpa [Draw.upd] using hx⟩
        · go_simp
          refine (putBig_any q _).mono ?_
          rintro e w3 ⟨v, rfl, ho, hb3⟩
          exact hk v w3 (fun j hj => by rcases j with _|_|_|_|_|j <;> first | rfl | (rw [hD] at hj; cases hj)) ⟨below_of hb3 hb, fun _ => own_base ho hb.size⟩
      · simp only [Draw.puts, List.take_succ_cons, List.take_zero, List.drop_succ_cons, List.drop_zero, if_true, Act.put, List.setIfInBounds_toArray, List.set_cons_zero, List.set_cons_succ, Nat.zero_add, Nat.reduceAdd, List.getD_cons_zero, List.getD_cons_succ]
        rintro v w2 ⟨hb, hx⟩
        obtain ⟨g, gcap, rfl, hg, hcb⟩ := own_bigs (hx (by decide))
        have k2 := kept hb j2
        have kc := kept hb jc
        have kt := (hb.block _ (lt_of_heap jt)).trans jt
        have ki := kept hb ji
        have kb := below_of hb jb
        clear hx j2 jc jt ji jb
        refine wpList_copy_arr rfl _ _ 30 30 rfl 5 Try.underlying30 size5 wo.heap.size 12 4 4 g 0 4 gcap rfl rfl 16 (spl (fun _ => 0) 0 12 nonce) 24 ki 4 (bigN q) rfl hcb (by omega) ?_
        have j2 := (setRow_other w2 wo.heap.size _ (arr 16 (ctrN nonce q)) (show w.heap.size + 1 ≠ wo.heap.size by omega)).trans k2
        have jc := (setRow_other w2 wo.heap.size _ (arr 16 (ctrN nonce q)) (show c ≠ wo.heap.size by omega)).trans kc
        have jt := (setRow_other w2 wo.heap.size _ (arr 16 (ctrN nonce q)) (show w1.heap.size ≠ wo.heap.size by omega)).trans kt
        have ji := setRow_heap w2 wo.heap.size _ (arr 16 (ctrN nonce q)) _ _ ki
        have jb := below_row kb hsz2 (arr 16 (ctrN nonce q))
        clear k2 kc kt ki kb hcb hb
        change wpList Try.prog _ _ _ _ (w2.setRow wo.heap.size (arr 16 (ctrN nonce q)))
        generalize World.setRow w2 wo.heap.size (arr 16 (ctrN nonce q)) = W3 at j2 jc jt ji jb ⊢
        go_wp2_with (with_reducible refine wpList_load_row rfl 24 _ rfl wo.heap.size ?_ 24 (arr 16 (ctrN nonce q)) (0, 0) _ ji Try.underlying24 rfl (hz.out _) ?_; rotate_left)
        all_goals try exact rfl
        refine (block_any c (cfN key 240) (ctrN nonce q) _ jc).mono ?_
        rintro e w4 ⟨rfl, hb4⟩
        have k2 := kept hb4 j2
        have kc := kept hb4 jc
        have kt := (hb4.block _ (lt_of_heap jt)).trans jt
        have kb := below_of hb4 jb
        have hsz4 := kb.size
        clear j2 jc jt ji jb hb4
        replace k2 := old_alloc (o' := .cells (arr 16 fun _ => 0) 24) k2
        replace kc := old_alloc (o' := .cells (arr 16 fun _ => 0) 24) kc
        have hlt4 := lt_of_heap kt
        replace kt := old_alloc (o' := .cells (arr 16 fun _ => 0) 24) kt
        have ko : (w4.alloc (.cells (arr 16 fun _ => 0) 24)).heap[w4.heap.size]? = some (.cells (arr 16 fun _ => 0) 24) := new_alloc
        replace kb := kb.alloc kb.size (.cells (arr 16 fun _ => 0) 24)
        have g2 := (setRow_other _ w4.heap.size _ (arr 16 (stN (cfN key 240) (ctrN nonce q) 14)) (show w.heap.size + 1 ≠ w4.heap.size by omega)).trans k2
        have gc := (setRow_other _ w4.heap.size _ (arr 16 (stN (cfN key 240) (ctrN nonce q) 14)) (show c ≠ w4.heap.size by omega)).trans kc
        have gt := (setRow_other _ w4.heap.size _ (arr 16 (stN (cfN key 240) (ctrN nonce q) 14)) (show w1.heap.size ≠ w4.heap.size by omega)).trans kt
        have go := setRow_heap _ w4.heap.size _ (arr 16 (stN (cfN key 240) (ctrN nonce q) 14)) _ _ ko
        have gb := below_row kb hsz4 (arr 16 (stN (cfN key 240) (ctrN nonce q) 14))
        clear k2 kc kt kb
        go_wp2_with (first | (with_reducible refine wpList_alloc_row rfl 24 rfl _ zero24 ?_) | (with_reducible refine wpList_store_row rfl 24 _ _ rfl w4.heap.size (arr 16 (stN (cfN key 240) (ctrN nonce q) 14)) ?_ ?_ 24 _ ko (hz.out _) (hs.out _ _) arr_ones ?_; rotate_left; rotate_left))
        all_goals try exact rfl
        all_goals obtain ⟨m, hm⟩ : ∃ m : Nat, m = min 16 (s.size - 16 * q) := ⟨_, rfl⟩
        all_goals have hm1 : m ≤ 16 := by omega
        all_goals have hm2 : 16 * q + m ≤ s.size := by omega
        all_goals have hm3 : m = 16 ∨ 16 * q + m = s.size := by omega
        all_goals generalize World.setRow (w4.alloc (.cells (arr 16 fun _ => 0) 24)) w4.heap.size (arr 16 (stN (cfN key 240) (ctrN nonce q) 14)) = W5 at g2 gc gt go gb ⊢
        all_goals clear ko
        all_goals have gt' : W5.heap[w1.heap.size]? = some (.cells (arr N (only s.size (strN (sF s) (ksN key nonce) (16 * q + 0)))) 5 (N, N + 1)) := gt
        all_goals clear gt
        · have e39 : (s.size : Int) - 16 * (q : Int) = m := by omega
          rw [e39]
          clear e39 hm
          go_loopw [12, 40] (fun a12 a40 wr => ∃ k : Nat, k ≤ m ∧ a40 = .int .i64 k ∧ wr.heap[w.heap.size + 1]? = some (.cells (arr 12 nonce) 32) ∧ wr.heap[c]? = some (.cells (arr 496 (cfN key 240)) 56) ∧ wr.heap[w1.heap.size]? = some (.cells (arr N (only s.size (strN (sF s) (ksN key nonce) (16 * q + k)))) 5 (N, N + 1)) ∧ wr.heap[w4.heap.size]? = some (.cells (arr 16 (stN (cfN key 240) (ctrN nonce q) 14)) 24) ∧ Below w.heap.size w wr) (fun _ a40 _ => m - (intOf a40).toNat)
          case atStart => exact ⟨0, by omega, rfl, g2, gc, gt', go, gb⟩
          case round =>
            clear g2 gc gt' go gb
            obtain ⟨k, hk, rfl, g2, gc, gt, go, gb⟩ := hrel
            by_cases hkm : k < m
            · have n1 : (16 * (q : Int) + (k : Int)).toNat = 16 * q + k := by omega
              have m1 : 0 ≤ 16 * (q : Int) + (k : Int) := by omega
              have m2 : 16 * (q : Int) + (k : Int) < s.size := by omega
              have m3 : (k : Int) < 16 := by omega
              have v1 : IntKind.i64.wrap (16 * (q : Int) + (k : Int)) = 16 * (q : Int) + (k : Int) := IntWalk.i64_in _ (by omega)
              have c0 : wr.cell? ⟨w1.heap.size, 16 * q + k, none⟩ = some (byt (sF s (16 * q + k))) := by
                rw [← strN_here (sF s) (ksN key nonce) s.size (16 * q + k) (by omega)]
                exact (cell_ofF gt _).trans (arr_at (by omega))
              have c1 : wr.cell? ⟨w4.heap.size, k, none⟩ = some (byt (ksN key nonce (16 * q + k))) := by
                rw [← ks_at key nonce q k (by omega)]
                exact (cell_of go _).trans (arr_at (by omega))
              have hx := w_xor
              go_wp2_with fail
              go_still_tail 11, mixed
              clear n1 m1 m2 m3 v1 c0 c1 hx
              change wpList _ _ _ _ _ wr.drew
              have c0 : wr.drew.cell? ⟨w1.heap.size, 16 * q + k, none⟩ = some (byt (only s.size (strN (sF s) (ksN key nonce) (16 * q + k)) (16 * q + k))) := (cell_ofF gt _).trans (arr_at (by omega))
              have f0 : wr.drew.frozen? ⟨w1.heap.size, 16 * q + k, none⟩ = false := free_ofF gt (by omega)
              go_wp2_with fail
              go_roundw
              case rel =>
                first | refine ⟨k + 1, by omega, by go_num, set_ne (show w.heap.size + 1 ≠ w1.heap.size by omega) g2, set_ne (show c ≠ w1.heap.size by omega) gc, ?_, set_ne (show w4.heap.size ≠ w1.heap.size by omega) go, (gb.setCell hsz _).drew⟩ | ((repeat apply Exists.intro); refine ⟨⟨k + 1, by omega, by go_num, set_ne (show w.heap.size + 1 ≠ w1.heap.size by omega) g2, set_ne (show c ≠ w1.heap.size by omega) gc, ?_, set_ne (show w4.heap.size ≠ w1.heap.size by omega) go, (gb.setCell hsz _).drew⟩, rfl⟩)
                have h1 := set_atF (j := 16 * q + k) (u := byt (xr (sF s (16 * q + k)) (ksN key nonce (16 * q + k)))) gt
                rw [arr_set, strN_step _ _ _ _ (by omega)] at h1
                exact h1
              case measure => simp [intOf]; omega
            · obtain rfl : k = m := by omega
              rw [strN_end _ _ _ _ _ hm3 hm1] at gt
              go_wp2_with fail
              go_roundw
              case rel => exact ⟨q + 1, by omega, by go_num, g2, gc, gt, gb⟩
              case measure => simp [intOf]; omega
        · have e39 : m = 16 := by omega
          clear hm
          go_loopw [12, 40] (fun a12 a40 wr => ∃ k : Nat, k ≤ m ∧ a40 = .int .i64 k ∧ wr.heap[w.heap.size + 1]? = some (.cells (arr 12 nonce) 32) ∧ wr.heap[c]? = some (.cells (arr 496 (cfN key 240)) 56) ∧ wr.heap[w1.heap.size]? = some (.cells (arr N (only s.size (strN (sF s) (ksN key nonce) (16 * q + k)))) 5 (N, N + 1)) ∧ wr.heap[w4.heap.size]? = some (.cells (arr 16 (stN (cfN key 240) (ctrN nonce q) 14)) 24) ∧ Below w.heap.size w wr) (fun _ a40 _ => m - (intOf a40).toNat)
          case atStart => exact ⟨0, by omega, rfl, g2, gc, gt', go, gb⟩
          case round =>
            clear g2 gc gt' go gb
            obtain ⟨k, hk, rfl, g2, gc, gt, go, gb⟩ := hrel
            by_cases hkm : k < m
            · have n1 : (16 * (q : Int) + (k : Int)).toNat = 16 * q + k := by omega
              have m1 : 0 ≤ 16 * (q : Int) + (k : Int) := by omega
              have m2 : 16 * (q : Int) + (k : Int) < s.size := by omega
              have m3 : (k : Int) < 16 := by omega
              have v1 : IntKind.i64.wrap (16 * (q : Int) + (k : Int)) = 16 * (q : Int) + (k : Int) := IntWalk.i64_in _ (by omega)
              have c0 : wr.cell? ⟨w1.heap.size, 16 * q + k, none⟩ = some (byt (sF s (16 * q + k))) := by
                rw [← strN_here (sF s) (ksN key nonce) s.size (16 * q + k) (by omega)]
                exact (cell_ofF gt _).trans (arr_at (by omega))
              have c1 : wr.cell? ⟨w4.heap.size, k, none⟩ = some (byt (ksN key nonce (16 * q + k))) := by
                rw [← ks_at key nonce q k (by omega)]
                exact (cell_of go _).trans (arr_at (by omega))
              have hx := w_xor
              go_wp2_with fail
              go_still_tail 11, mixed
              clear n1 m1 m2 m3 v1 c0 c1 hx
              change wpList _ _ _ _ _ wr.drew
              have c0 : wr.drew.cell? ⟨w1.heap.size, 16 * q + k, none⟩ = some (byt (only s.size (strN (sF s) (ksN key nonce) (16 * q + k)) (16 * q + k))) := (cell_ofF gt _).trans (arr_at (by omega))
              have f0 : wr.drew.frozen? ⟨w1.heap.size, 16 * q + k, none⟩ = false := free_ofF gt (by omega)
              go_wp2_with fail
              go_roundw
              case rel =>
                first | refine ⟨k + 1, by omega, by go_num, set_ne (show w.heap.size + 1 ≠ w1.heap.size by omega) g2, set_ne (show c ≠ w1.heap.size by omega) gc, ?_, set_ne (show w4.heap.size ≠ w1.heap.size by omega) go, (gb.setCell hsz _).drew⟩ | ((repeat apply Exists.intro); refine ⟨⟨k + 1, by omega, by go_num, set_ne (show w.heap.size + 1 ≠ w1.heap.size by omega) g2, set_ne (show c ≠ w1.heap.size by omega) gc, ?_, set_ne (show w4.heap.size ≠ w1.heap.size by omega) go, (gb.setCell hsz _).drew⟩, rfl⟩)
                have h1 := set_atF (j := 16 * q + k) (u := byt (xr (sF s (16 * q + k)) (ksN key nonce (16 * q + k)))) gt
                rw [arr_set, strN_step _ _ _ _ (by omega)] at h1
                exact h1
              case measure => simp [intOf]; omega
            · obtain rfl : k = m := by omega
              rw [strN_end _ _ _ _ _ hm3 hm1] at gt
              go_wp2_with fail
              go_roundw
              case rel => exact ⟨q + 1, by omega, by go_num, g2, gc, gt, gb⟩
              case measure => simp [intOf]; omega
    · have hP : only s.size (strN (sF s) (ksN key nonce) (16 * q)) = only s.size (strN (sF s) (ksN key nonce) s.size) := strN_past _ _ _ _ _ (by omega) (by omega)
      rw [hP] at gt
      have hc0 : ∀ j, j < s.size → wo.cell? ⟨w1.heap.size, 0 + j, none⟩ = some (byt (strN (sF s) (ksN key nonce) s.size j)) := fun j hj => by
        rw [Nat.zero_add]
        refine (cell_ofF gt _).trans ((arr_at (by omega)).trans ?_)
        unfold only
        rw [if_pos hj]
      replace hc0 := hide hc0
      replace hP := hide hP
      go_wp2_with (with_reducible refine wpList_text rfl 30 9 5 _ rfl Try.underlying30 Try.underlying5 Try.underlying9 w1.heap.size 0 s.size cap ?_ (strN (sF s) (ksN key nonce) s.size) hc0.out ?_; rotate_left)
      all_goals try exact rfl
      go_ret
      exact ⟨rfl, gb⟩

end Go.Proofs.Ytgmnigobappjbaa
