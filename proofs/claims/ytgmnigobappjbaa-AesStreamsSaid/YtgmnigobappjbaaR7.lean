/- The contract of the document's Stream. Conditions: none. -/
import Derived.Test.YtgmnigobappjbaaR6
import Derived.Test.YtgmnigobappjbaaX1
namespace Go.Proofs.Ytgmnigobappjbaa
open Go.RowKit

theorem size32' : (Try.prog.info? 32).map (·.size) = some 12 := by kernel_rfl
theorem txt_more (n : Nat) (G : Nat → UInt8) : txt n G ++ txt 1 (fun _ => G n) = txt (n + 1) G := by
  apply ByteArray.ext
  apply Array.toList_inj.1
  simp [txt, List.range_succ]
theorem bl_ctr (nonce : Nat → UInt8) (q : Nat) : bl 12 nonce ++ [byt (bigN q 0), byt (bigN q 1), byt (bigN q 2), byt (bigN q 3)] = bl 16 (ctrN nonce q) := rfl

set_option maxRecDepth 100000 in
set_option maxHeartbeats 4000000 in
theorem refStream_any (key nonce : Nat → UInt8) (s : ByteArray) (hmx : s.size ≤ 500) (w : World) :
    Calls Try.prog 14 #[.agg (arr 32 key), .agg (arr 12 nonce), .string s] w fun e w' => e = .returned (.string (stream key nonce s)) ∧ Below w.heap.size w w' := by
  have hz2 : ∀ f : Nat → UInt8, (Try.prog.info? 22).map (·.size) = some (arr 32 f).size := fun f => by rw [arr_size]; exact size22
  replace hz2 := hide hz2
  obtain ⟨G, hG⟩ : ∃ G : Nat → UInt8, (fun j => xr (sF s j) (ksN key nonce j)) = G := ⟨_, rfl⟩
  have hGj : ∀ j, xr (sF s j) (ksN key nonce j) = G j := fun j => congrFun hG j
  have hend : stream key nonce s = txt s.size G := txt_ext fun i hi => by rw [strN, if_pos hi, hGj]
  replace hend := hide hend
  replace hGj := hide hGj
  clear hG
  have h1 : ((w.alloc (.cells (arr 32 key) 22)).alloc (.cells (arr 12 nonce) 32)).heap[w.heap.size]? = some (.cells (arr 32 key) 22) := old_alloc new_alloc
  have h2 : ((w.alloc (.cells (arr 32 key) 22)).alloc (.cells (arr 12 nonce) 32)).heap[w.heap.size + 1]? = some (.cells (arr 12 nonce) 32) := by
    have h := new_alloc (w := w.alloc (.cells (arr 32 key) 22)) (o := .cells (arr 12 nonce) 32)
    rw [World.size_alloc] at h
    exact h
  have hb0 : Below w.heap.size w ((w.alloc (.cells (arr 32 key) 22)).alloc (.cells (arr 12 nonce) 32)) := ((Below.refl _ _).alloc (Nat.le_refl _) _).alloc (by simp) _
  go_enter Try.func14, Try.ntmps14
  go_wp2_with fail
  generalize ((w.alloc (.cells (arr 32 key) 22)).alloc (.cells (arr 12 nonce) 32)) = W at h1 h2 hb0 ⊢
  refine (all_any _).mono ?_
  rintro e w1 ⟨gs, cs, rfl, hgs, hS, hb1⟩
  replace h1 := kept hb1 h1
  replace h2 := kept hb1 h2
  replace hb0 := below_of hb1 hb0
  clear hb1
  go_wp2_with (with_reducible refine wpList_load_row rfl 22 _ rfl w.heap.size ?_ 22 (arr 32 key) (0, 0) _ h1 Try.underlying22 rfl (hz2.out _) ?_; rotate_left)
  all_goals try exact rfl
  refine (sched_any key gs cs _ hS).mono ?_
  rintro e w2 ⟨v, rfl, hWd, hb2⟩
  obtain ⟨gw, cw, H, Kw, rfl, hgw, hWA⟩ := hWd.at_ (by omega)
  replace hS := hS.below hb2
  replace h2 := kept hb2 h2
  replace hb0 := below_of hb2 hb0
  clear hb2 hWd h1
  go_wp2_with fail
  go_loopw [9, 10, 11, 12, 13] (fun a9 a10 a11 a12 a13 wr => ∃ q : Nat, 16 * q ≤ s.size + 15 ∧ a10 = .int .i64 (16 * (q : Int)) ∧ a9 = .string (txt (min (16 * q) s.size) G) ∧ Below w2.heap.size w2 wr) (fun _ a10 _ _ _ _ => s.size + 16 - (intOf a10).toNat)
  case atStart => exact ⟨0, by omega, rfl, rfl, Below.refl _ _⟩
  case round =>
    obtain ⟨q, hq, rfl, rfl, hw⟩ := hrel
    by_cases hlt : 16 * q < s.size
    · obtain ⟨wo, rfl⟩ : ∃ wo : World, wo = wr := ⟨_, rfl⟩
      have hlt' : 16 * (q : Int) < (s.size : Int) := by omega
      rw [show min (16 * q) s.size = 16 * q from by omega]
      have v16 : (16 * (q : Int)).tdiv 16 = q := Int.mul_tdiv_cancel_left _ (by decide)
      have v16' : (16 * (q : Int)) / 16 = q := by omega
      obtain ⟨j0, hj0, hy0, hy1, hy2⟩ := info5'
      have gb1 : Below wo.heap.size wo (wo.alloc (.cells #[] 5)) := (Below.refl _ _).alloc (Nat.le_refl _) _
      have ho0 : (wo.alloc (.cells #[] 5)).ownsRow wo.heap.size 5 1 (.slice (some ⟨wo.heap.size, 0, none⟩) 0 0) 0 [] := ⟨rfl, .inr ⟨wo.heap.size, 0, #[], rfl, Nat.le_refl _, new_alloc, Nat.le_refl _, by unfold maxLen; omega, rfl, rfl⟩⟩
      have hN := arr_in (kept gb1 (kept hw h2))
      go_wp2_with (at_builtin; refine wpList_append_own _ rfl _ _ 30 rfl wo.heap.size 5 j0 _ 1 1 Try.underlying30 hj0 hy0 hy1 hy2 rfl (by decide) _ _ _ rfl ho0 ⟨w.heap.size + 1, 0, none⟩ 12 12 (bl 12 nonce) rfl rfl ?c1 ?c2 ?c3 ?c4 ?c5 ?_)
      case c1 =>
        intro j u hj
        have hadd : (⟨w.heap.size + 1, 0, none⟩ : Addr).add j = ⟨w.heap.size + 1, j, none⟩ := by unfold Addr.add; split <;> simp_all
        have hjl : j < 12 := by
          have := (List.getElem?_eq_some_iff.1 hj).1
          rwa [bl_len] at this
        rw [bl_at hjl] at hj
        rw [hadd, ← hj]
        exact hN.cell hjl
      case c2 =>
        intro u hu
        unfold bl at hu
        obtain ⟨j, _, rfl⟩ := List.mem_map.1 hu
        rfl
      case c3 => unfold maxLen; omega
      case c4 => omega
      case c5 => exact gb1.size
      intro v1 W1 hrow hgr _
      have gB := gb1.grown hgr gb1.size (fun j hj => (ho0.lt j hj).1)
      try simp only [Nat.zero_add, List.nil_append] at hrow
      clear hgr ho0 gb1 hN
      have hA := hrow.alloc (.cells #[.int .u8 ((q : Int) / 16777216), .int .u8 ((q : Int) / 65536), .int .u8 ((q : Int) / 256), .int .u8 (q : Int)] 5)
      have hnw := new_alloc (w := W1) (o := .cells #[.int .u8 ((q : Int) / 16777216), .int .u8 ((q : Int) / 65536), .int .u8 ((q : Int) / 256), .int .u8 (q : Int)] 5)
      have gA := gB.alloc gB.size (.cells #[.int .u8 ((q : Int) / 16777216), .int .u8 ((q : Int) / 65536), .int .u8 ((q : Int) / 256), .int .u8 (q : Int)] 5)
      have hl4 : bl 12 nonce ++ [.int .u8 ((q : Int) / 16777216), .int .u8 ((q : Int) / 65536), .int .u8 ((q : Int) / 256), .int .u8 (q : Int)] = bl 16 (ctrN nonce q) := by
        rw [← bl_ctr, ← big_0, ← big_1, ← big_2, ← big_3, Int.emod_eq_of_lt (by omega) (by omega), Int.emod_eq_of_lt (by omega) (by omega), Int.emod_eq_of_lt (by omega) (by omega), Int.emod_eq_of_lt (by omega) (by omega)]
      replace hl4 := hide hl4
      clear gB hrow
      go_wp2_with (at_builtin; refine wpList_append_own _ rfl _ _ 30 rfl wo.heap.size 5 j0 _ 1 1 Try.underlying30 hj0 hy0 hy1 hy2 rfl (by decide) _ _ _ rfl hA ⟨W1.heap.size, 0, none⟩ 4 4 ([.int .u8 ((q : Int) / 16777216), .int .u8 ((q : Int) / 65536), .int .u8 ((q : Int) / 256), .int .u8 (q : Int)]) rfl rfl ?c1 ?c2 ?c3 ?c4 ?c5 ?_)
      case c1 =>
        intro j u hj
        have hadd : (⟨W1.heap.size, 0, none⟩ : Addr).add j = ⟨W1.heap.size, j, none⟩ := by unfold Addr.add; split <;> simp_all
        rw [hadd, cell_of hnw j]
        simpa using hj
      case c2 =>
        intro u hu
        simp at hu
        rcases hu with rfl | rfl | rfl | rfl <;> rfl
      case c3 => unfold maxLen; omega
      case c4 => omega
      case c5 => exact gA.size
      intro v2 W2 hrow2 hgr _
      have gB2 := gA.grown hgr gA.size (fun j hj => (hA.lt j hj).1)
      replace hrow2 : W2.ownsRow wo.heap.size 5 1 v2 16 (bl 16 (ctrN nonce q)) := by rw [← hl4.out]; exact hrow2
      obtain ⟨g1, cap1, rfl, hg1, _, hB1⟩ := own_bytes hrow2 (by omega)
      have hw2 := below_of gB2 hw
      clear hA hnw gA hgr hrow2 hl4 gB2 hw
      go_wp2_with fail
      refine (one_any key (ctrN nonce q) gw cw gs cs g1 cap1 H Kw _ (hWA.below hw2) (hS.below hw2) hB1.in_).mono ?_
      rintro e w3 ⟨gb, cb, rfl, hgb, hB, hb3⟩
      have hw3 := below_of hb3 hw2
      have hKs : BytesAt w3 gb 16 (fun k => ksN key nonce (16 * q + k)) := hB.ext fun k hk => ks_at key nonce q k hk
      clear hb3 hw2 hB hB1
      obtain ⟨m, hm⟩ : ∃ m : Nat, m = min 16 (s.size - 16 * q) := ⟨_, rfl⟩
      have hm1 : m ≤ 16 := by omega
      have hm2 : 16 * q + m ≤ s.size := by omega
      have hm3 : m = 16 ∨ (m < 16 ∧ 16 * q + m = s.size) := by omega
      clear hm v16 v16'
      go_wp2_with fail
      go_loopw [9, 13] (fun a9 a13 wr => ∃ k : Nat, k ≤ m ∧ a13 = .int .i64 k ∧ a9 = .string (txt (16 * q + k) G) ∧ Below w3.heap.size w3 wr) (fun _ a13 _ => 16 - (intOf a13).toNat)
      case atStart => exact ⟨0, by omega, rfl, rfl, Below.refl _ _⟩
      case round =>
        obtain ⟨k, hk, rfl, rfl, hw4⟩ := hrel
        by_cases hkm : k < m
        · have m4 : (k : Int) < 16 := by omega
          have hq2 : 16 * (q : Int) + (k : Int) < (s.size : Int) := by omega
          obtain ⟨p, hp⟩ : ∃ p : Nat, p = 16 * q + k := ⟨_, rfl⟩
          have m2 : p < s.size := by omega
          have ea := hide (sF_get s p m2)
          have vw : IntKind.i64.wrap (16 * (q : Int) + (k : Int)) = (p : Int) := by
            rw [hp]
            exact (IntWalk.i64_in _ (by omega)).trans (by push_cast; rfl)
          replace vw := hide vw
          rw [← hp]
          replace hp := hide hp
          go_wp2_with fail
          refine Draw.wp_region_ghosts mixed 14 20 (by kernel_rfl) (0 : Nat)
            (fun γ i => ([.string (txt p G), .string s, .int .i64 (16 * (q : Int)), .int .i64 (k : Int), .int .i64 (p : Int), byt (sF s p), .slice (some ⟨gb, 0, none⟩) 16 cb, .int .i64 (k : Int), .pointer (some ⟨gb, k, none⟩), byt (ksN key nonce p), byt (G p), .slice (some ⟨γ, 0, none⟩) 1 1, .string (txt 1 fun _ => G p), .string (txt (p + 1) G)] : List Value).getD i undef)
            _ (fun _ => rfl)
            (fun D γ w' => Below wr.heap.size wr w' ∧ (D 11 = true → w'.heap[γ]? = some (.cells #[byt (G p)] 5)))
            ⟨(Below.refl _ _).drew, fun h => absurd h Bool.false_ne_true⟩ ?_ ?_
          · simp only [Draw.puts, List.take_succ_cons, List.take_zero, if_true, Act.put, List.setIfInBounds_toArray, List.set_cons_zero, List.set_cons_succ, Nat.zero_add, Nat.reduceAdd, List.getD_cons_zero, List.getD_cons_succ]
            refine ⟨?_, ?_, ?_, ?_, ?_, ?_, ?_, ?_, ?_, ?_, ?_, ?_, ?_, ?_, trivial⟩
            all_goals rintro D γ w2 hD hpre ⟨hb2, hg⟩
            all_goals refine .inl ⟨rfl, fun K' hk => ?_⟩
            · go_simp
              exact hk γ w2 (fun _ _ => rfl) ⟨hb2, by simpa [Draw.upd] using hg⟩
            · go_simp
              exact hk γ w2 (fun _ _ => rfl) ⟨hb2, by simpa [Draw.upd] using hg⟩
            · go_simp
              exact hk γ w2 (fun _ _ => rfl) ⟨hb2, by simpa [Draw.upd] using hg⟩
            · go_simp
              exact hk γ w2 (fun _ _ => rfl) ⟨hb2, by simpa [Draw.upd] using hg⟩
            · go_simp
              rw [vw.out]
              exact hk γ w2 (fun _ _ => rfl) ⟨hb2, by simpa [Draw.upd] using hg⟩
            · have i2 := m2
              go_simp
              rw [← ea.out]
              exact hk γ w2 (fun _ _ => rfl) ⟨hb2, by simpa [Draw.upd] using hg⟩
            · go_simp
              exact hk γ w2 (fun _ _ => rfl) ⟨hb2, by simpa [Draw.upd] using hg⟩
            · go_simp
              exact hk γ w2 (fun _ _ => rfl) ⟨hb2, by simpa [Draw.upd] using hg⟩
            · have i1 := m4
              go_simp
              exact hk γ w2 (fun _ _ => rfl) ⟨hb2, by simpa [Draw.upd] using hg⟩
            · have c1 := (hKs.below (below_of hb2 hw4)).cell (j := k) (by omega)
              rw [← hp.out] at c1
              go_simp
              exact hk γ w2 (fun _ _ => rfl) ⟨hb2, by simpa [Draw.upd] using hg⟩
            · have hX := w_xor
              go_simp
              rw [hGj.out p]
              exact hk γ w2 (fun _ _ => rfl) ⟨hb2, by simpa [Draw.upd] using hg⟩
            · go_simp
              exact hk w2.heap.size _ (fun j hj => by rcases j with _|_|_|_|_|_|_|_|_|_|_|_|_|_|j <;> first | rfl | (rw [hD] at hj; cases hj)) ⟨hb2.alloc hb2.size _, fun _ => new_alloc⟩
            · have hg2 := hg (hpre 11 (by decide +kernel))
              refine wp_text 30 9 5 _ rfl Try.underlying30 Try.underlying5 Try.underlying9 γ 0 1 1 rfl (fun _ => G p) (fun j hj => ?_) ?_
              · obtain rfl : j = 0 := by omega
                exact (cell_of hg2 _).trans rfl
              · exact hk γ w2 (fun _ _ => rfl) ⟨hb2, by simpa [Draw.upd] using hg⟩
            · have hzz : ¬ 9223372036854775807 < (txt p G).size + (txt 1 fun _ => G p).size := by rw [txt_size, txt_size]; omega
              go_simp
              rw [txt_more]
              exact hk γ w2 (fun _ _ => rfl) ⟨hb2, by simpa [Draw.upd] using hg⟩
          · simp only [Draw.puts, List.take_succ_cons, List.take_zero, List.drop_succ_cons, List.drop_zero, if_true, Act.put, List.setIfInBounds_toArray, List.set_cons_zero, List.set_cons_succ, Nat.zero_add, Nat.reduceAdd, List.getD_cons_zero, List.getD_cons_succ]
            rintro γ w2 ⟨hb2, hg⟩
            have hw5 := below_of hb2 hw4
            clear hg hb2 hw4
            go_wp2_with fail
            go_roundw
            case rel => exact ⟨k + 1, by omega, by go_num, by rw [← Nat.add_assoc, ← hp.out], hw5⟩
            case measure => simp [intOf]; omega
        · obtain rfl : k = m := by omega
          rcases hm3 with hm3 | hm3
          · subst hm3
            go_wp2_with fail
            go_roundw
            case rel => exact ⟨q + 1, by omega, by push_cast; go_num, by rw [show min (16 * (q + 1)) s.size = 16 * q + 16 from by omega], below_of hw4 hw3⟩
            case measure => simp [intOf]; omega
          · obtain ⟨hm3, hm4⟩ := hm3
            have hm3' : (k : Int) < 16 := by omega
            have hm4' : 16 * (q : Int) + (k : Int) = (s.size : Int) := by omega
            have vw : IntKind.i64.wrap (16 * (q : Int) + (k : Int)) = (s.size : Int) := by
              rw [hm4']
              exact IntWalk.i64_in _ (by omega)
            go_wp2_with fail
            go_roundw
            case rel => exact ⟨q + 1, by omega, by push_cast; go_num, by first | rw [show min (16 * (q + 1)) s.size = 16 * q + k from by omega] | rw [show min (16 * (q + 1)) s.size = s.size from by omega], below_of hw4 hw3⟩
            case measure => simp [intOf]; omega
    · have hge : (s.size : Int) ≤ 16 * (q : Int) := by omega
      rw [show min (16 * q) s.size = s.size from by omega]
      go_wp2_with fail
      go_ret
      exact ⟨by rw [hend.out]; rfl, below_of hw hb0⟩

end Go.Proofs.Ytgmnigobappjbaa
