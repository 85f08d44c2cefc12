/- ScriptActs: the acts that are drawn are the document's. Conditions: none. -/
import Derived.Test.YtgjdkdfgfbonfaaRa
import Derived.Test.YtgjdkdfgfbonfaaSa
import Derived.Test.YtgjdkdfgfbonfaaM3
import Derived.Test.YtgjdkdfgfbonfaaAr
namespace Go.Proofs.Ytgjdkdfgfbonfaa
open Go.RowKit

theorem ActsRow.butD {w w' : World} {base g gd n : Nat} {s : Int} {cur : Array Value} {KS : Nat → Value} {A : Nat → Ac} (h : ActsRow w base g cur KS n A) (hg : w.heap[gd]? = some (srd s)) (hb : But gd w w') : ActsRow w' base g cur KS n A :=
  ⟨h.hb, kept_butD hb hg h.hg (by decide), h.sz, h.at_, fun i hi => own_butD (h.keep i hi) hg hb (by decide)⟩
theorem cnt_low (M : Mx) {n : Int} (h : n < 1) : cntN M n = 0 := by
  unfold cntN
  split
  · omega
  · rfl

set_option maxRecDepth 100000 in
set_option maxHeartbeats 4000000 in
theorem law8_any (C : Array Value) (M : Mx) (s n : Int) (w : World) (hM : MixAt w C M) :
    Calls Try.prog 8 #[.agg C, .int .u64 s, .int .i64 n] w fun e w' => e = .returned (.bool true) ∧ Below w.heap.size w w' := by
  obtain ⟨vp, vv, hC, hp, hv⟩ := hM.ex
  have hC23 := hC.size
  have h23 : (Try.prog.info? 25).map (·.size) = some C.size := by rw [hC23]; exact size25
  have h51 : (Try.prog.info? 51).map (·.size) = some C.size := by rw [hC23]; kernel_rfl
  have hone : C.all (·.oneCell') = true := by
    obtain ⟨a1, c1, rfl, _⟩ := hp
    obtain ⟨a2, c2, rfl, _⟩ := hv
    exact isC_one hC
  obtain ⟨Z, hz, hZs⟩ : ∃ Z, (Try.prog.info? 51).bind (·.zero) = some (.agg Z) ∧ Z.size = C.size := ⟨_, zero51, by rw [hC23]; rfl⟩
  replace h23 := hide h23
  replace h51 := hide h51
  replace hone := hide hone
  replace hz := hide hz
  replace hZs := hide hZs
  have hK : (w.alloc (.cells C 25)).heap[w.heap.size]? = some (.cells C 25) := new_alloc
  have gb : Below w.heap.size w (w.alloc (.cells C 25)) := (Below.refl _ _).alloc (Nat.le_refl _) _
  clear hp hv hC hC23
  go_enter Try.func8, Try.ntmps8
  go_wp2_with (with_reducible refine wpList_load_row rfl 25 _ rfl w.heap.size ?_ 25 C (0, 0) _ hK Try.underlying25 rfl h23.out ?_; rotate_left)
  all_goals try exact rfl
  refine (great_any C M _ (hM.below gb)).mono ?_
  rintro e w1 ⟨⟨b, rfl⟩, hb1⟩
  replace hK := kept hb1 hK
  replace gb := below_of hb1 gb
  clear hb1
  cases b with
  | true =>
    go_wp2_with fail
    refine (wakes_any _).mono ?_
    rintro e w6 ⟨rfl, hb6⟩
    go_wp2_with fail
    go_ret
    exact ⟨rfl, below_of hb6 gb⟩
  | false =>
    by_cases hbig : 300 < n
    · go_wp2_with fail
      refine (wakes_any _).mono ?_
      rintro e w6 ⟨rfl, hb6⟩
      go_wp2_with fail
      go_ret
      exact ⟨rfl, below_of hb6 gb⟩
    go_wp2_with (with_reducible refine wpList_load_row rfl 25 _ rfl w.heap.size ?_ 25 C (0, 0) _ hK Try.underlying25 rfl h23.out ?_; rotate_left)
    all_goals try exact rfl
    refine (acts_any C M s n _ (hM.below gb)).mono ?_
    rintro e w2 ⟨v, rfl, hA, hb2⟩
    replace hK := kept hb2 hK
    replace gb := below_of hb2 gb
    clear hb2
    go_wp2_with (with_reducible refine wpList_load_row rfl 25 _ rfl w.heap.size ?_ 25 C (0, 0) _ hK Try.underlying25 rfl h23.out ?_; rotate_left)
    all_goals try exact rfl
    refine (given_any C M _ (hM.below gb)).mono ?_
    rintro e w3 ⟨rfl, hb3⟩
    replace hK := kept hb3 hK
    replace gb := below_of hb3 gb
    replace hA := hA.below hb3
    clear hb3
    have hgm : w.heap.size ≤ w3.heap.size := gb.size
    have k51 : (w3.alloc (.cells Z 51)).heap[w3.heap.size]? = some (.cells Z 51) := new_alloc
    have hK51 := setRow_heap _ w3.heap.size _ C _ _ k51
    have gA : Below w3.heap.size w3 ((w3.alloc (.cells Z 51)).setRow w3.heap.size C) := below_row ((Below.refl _ _).alloc (Nat.le_refl _) _) (Nat.le_refl _) C
    go_wp2_with (first | (with_reducible refine wpList_alloc_row rfl 51 rfl _ hz.out ?_) | (with_reducible refine wpList_store_row rfl 51 _ _ rfl w3.heap.size C ?_ ?_ 51 _ k51 h51.out hZs.out hone.out ?_; rotate_left; rotate_left) | (with_reducible refine wpList_load_row rfl 51 _ rfl w3.heap.size ?_ 51 C (0, 0) _ hK51 Try.underlying51 rfl h51.out ?_; rotate_left))
    all_goals try exact rfl
    replace hA := hA.below gA
    replace gb := below_of gA gb
    clear gA k51
    generalize ((w3.alloc (.cells Z 51)).setRow w3.heap.size C) = W4 at hK51 hA gb ⊢
    obtain ⟨gm, hgme⟩ : ∃ gm, w3.heap.size = gm := ⟨_, rfl⟩
    rw [hgme] at hK51 hgm ⊢
    clear hgme hK
    refine (refRight_any C M _ (hM.below gb)).mono ?_
    rintro e w5 ⟨rfl, hb5⟩
    replace hK51 := kept hb5 hK51
    replace gb := below_of hb5 gb
    replace hA := hA.below hb5
    clear hb5
    rcases hr : rightB M with _ | _
    · rw [cnt_wrong hr] at hA ⊢
      obtain ⟨va, vc, rfl⟩ := hA.slice
      clear hA
      rw [show stN M s 0 = s from rfl]
      go_wp2_with fail
      refine (wakes_any _).mono ?_
      rintro e w6 ⟨rfl, hb6⟩
      go_wp2_with fail
      go_ret
      exact ⟨rfl, below_of hb6 gb⟩
    by_cases hlow : n < 1
    · rw [cnt_low M hlow] at hA ⊢
      obtain ⟨va, vc, rfl⟩ := hA.slice
      clear hA
      rw [show stN M s 0 = s from rfl]
      go_wp2_with fail
      refine (wakes_any _).mono ?_
      rintro e w6 ⟨rfl, hb6⟩
      go_wp2_with fail
      go_ret
      exact ⟨rfl, below_of hb6 gb⟩
    obtain ⟨N, rfl⟩ : ∃ N : Nat, n = N := ⟨n.toNat, by omega⟩
    rw [cnt_right hr (by omega)] at hA ⊢
    obtain ⟨g, vc, cur, KS, rfl, hR⟩ := hA.row (by omega)
    clear hA
    have hgd : (w5.alloc (srd s)).heap[w5.heap.size]? = some (srd (stN M s 0)) := new_alloc
    have gd5 : Below w5.heap.size w5 (w5.alloc (srd s)) := (Below.refl _ _).alloc (Nat.le_refl _) _
    have hgdl : w.heap.size ≤ w5.heap.size := gb.size
    replace hK51 := kept gd5 hK51
    replace hR := hR.below gd5
    replace gb := below_of gd5 gb
    clear gd5
    go_wp2_with fail
    obtain ⟨gd, hgde⟩ : ∃ gd, w5.heap.size = gd := ⟨_, rfl⟩
    rw [hgde] at hgd hgdl ⊢
    clear hgde
    go_loopw [11] (fun a11 wr => ∃ i : Nat, i ≤ N ∧ a11 = .int .i64 i ∧ wr.heap[gm]? = some (.cells C 51) ∧ wr.heap[gd]? = some (srd (stN M s i)) ∧ ActsRow wr w1.heap.size g cur KS N (acN M s) ∧ Below w.heap.size w wr) (fun a11 _ => N - (intOf a11).toNat)
    case atStart => exact ⟨0, by omega, rfl, hK51, hgd, hR, gb⟩
    case round =>
      clear hK51 hgd hR gb
      obtain ⟨i, hi, rfl, hK51, hgd, hR, gb⟩ := hrel
      by_cases hiN : i < N
      · have hiN' : (i : Int) < N := by omega
        have hszi : i * 7 + 7 ≤ cur.size := by
          have h := hR.sz
          have := Nat.mul_le_mul_right 7 (show i + 1 ≤ N by omega)
          omega
        go_wp2_with fail
        refine Draw.wp_region_ghosts mixed 8 10 (by kernel_rfl) undef
          (fun γ i' => ([.slice (some ⟨g, 0, none⟩) N vc, .int .i64 (i : Int), .pointer (some ⟨g, i * 7, none⟩), acv (acN M s i) (KS i), .agg C, .pointer (some ⟨gd, 0, none⟩), acv (acN M s i) γ, .bool true] : List Value).getD i' undef)
          _ (fun _ => rfl)
          (fun D γ w' => But gd wr w' ∧ w'.heap[gd]? = some (srd (if D 6 = true then stN M s (i + 1) else stN M s i)) ∧ (D 6 = true → KeepIs w' wr.heap.size γ (acN M s i).keep))
          ⟨(But.refl _ _).drew, hgd, fun h => absurd h Bool.false_ne_true⟩ ?_ ?_
        · simp only [Draw.puts, List.take_succ_cons, List.take_zero, if_true, Act.put, List.setIfInBounds_toArray, List.set_cons_zero, List.set_cons_succ, Nat.zero_add, Nat.reduceAdd, List.getD_cons_zero, List.getD_cons_succ]
          refine ⟨?_, ?_, ?_, ?_, ?_, ?_, ?_, ?_, trivial⟩
          all_goals rintro D γ w2 hD hpre ⟨hb2, hs, hx⟩
          all_goals refine .inl ⟨rfl, fun K hk => ?_⟩
          · go_simp
            exact hk γ w2 (fun _ _ => rfl) ⟨hb2, by simpa [Draw.upd] using hs, by simpa [Draw.upd] using hx⟩
          · go_simp
            exact hk γ w2 (fun _ _ => rfl) ⟨hb2, by simpa [Draw.upd] using hs, by simpa [Draw.upd] using hx⟩
          · have m1 := hiN'
            go_simp
            exact hk γ w2 (fun _ _ => rfl) ⟨hb2, by simpa [Draw.upd] using hs, by simpa [Draw.upd] using hx⟩
          · refine wp_load_part 35 _ rfl g (i * 7) 7 rfl 35 cur (0, 0) _ (hR.butD hgd hb2).hg Try.underlying35 rfl size35 hszi ?_
            rw [hR.part hiN, acv_cells]
            exact hk γ w2 (fun _ _ => rfl) ⟨hb2, by simpa [Draw.upd] using hs, by simpa [Draw.upd] using hx⟩
          · refine wp_load_row 51 _ rfl gm rfl 51 C (0, 0) _ (kept_butD hb2 hgd hK51 (by decide)) Try.underlying51 rfl h51.out ?_
            exact hk γ w2 (fun _ _ => rfl) ⟨hb2, by simpa [Draw.upd] using hs, by simpa [Draw.upd] using hx⟩
          · go_simp
            exact hk γ w2 (fun _ _ => rfl) ⟨hb2, by simpa [Draw.upd] using hs, by simpa [Draw.upd] using hx⟩
          · go_simp
            rw [hD] at hs
            refine (refAct_any C M gd (stN M s i) _ ((hM.below gb).butD hgd hb2) hr hs).mono ?_
            rintro e w3 ⟨ks, rfl, hown, hg3, hb3⟩
            exact hk ks w3 (fun j hj => by rcases j with _|_|_|_|_|_|_|_|j <;> first | rfl | (rw [hD] at hj; cases hj)) ⟨hb2.trans hb3, by simpa [Draw.upd] using (show w3.heap[gd]? = some (srd (stN M s (i + 1))) from hg3), fun _ => own_base hown hb2.size⟩
          · go_simp
            have hks := hx (hpre 6 (by decide +kernel))
            refine (same_any (acN M s i) (KS i) γ _ _ _ ((hR.butD hgd hb2).keep i hiN) hks).mono ?_
            rintro e w3 ⟨rfl, hb3⟩
            exact hk γ w3 (fun _ _ => rfl) ⟨hb2.below hb3, by simpa [Draw.upd] using kept hb3 hs, fun _ => own_below hks hb3⟩
        · simp only [Draw.puts, List.take_succ_cons, List.take_zero, List.drop_succ_cons, List.drop_zero, if_true, Act.put, List.setIfInBounds_toArray, List.set_cons_zero, List.set_cons_succ, Nat.zero_add, Nat.reduceAdd, List.getD_cons_zero, List.getD_cons_succ]
          rintro γ w2 ⟨hb2, hs, hx⟩
          have hs2 : w2.heap[gd]? = some (srd (stN M s (i + 1))) := by simpa using hs
          have hR2 := hR.butD hgd hb2
          have hK2 := kept_butD hb2 hgd hK51 (by decide)
          have gb2 := gb.trans (hb2.toBelow gb.size hgdl)
          clear hs hx hb2 hK51 hgd hR gb
          go_wp2_with fail
          go_roundw
          case rel => exact ⟨i + 1, by omega, by go_num, hK2, hs2, hR2, gb2⟩
          case measure => simp [intOf]; omega
      · obtain rfl : i = N := by omega
        obtain ⟨c0, f0⟩ := cells1 hgd
        go_wp2_with fail
        refine (wakes_any _).mono ?_
        rintro e w6 ⟨rfl, hb6⟩
        go_wp2_with fail
        go_ret
        exact ⟨rfl, below_of hb6 gb⟩

end Go.Proofs.Ytgjdkdfgfbonfaa
