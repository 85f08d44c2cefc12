/- The contract of act. Conditions: none. -/
import Derived.Test.YtgjdkdfgfbonfaaSt
namespace Go.Proofs.Ytgjdkdfgfbonfaa
open Go.RowKit

theorem u8_in {k : Nat} (h : k < 18) : (k : Int) % 256 = k := by omega

set_option maxHeartbeats 1600000 in
theorem act_any (C : Array Value) (M : Mx) (g : Nat) (s : Int) (w : World) (hM : MixAt w C M) (hr : rightB M = true) (hg : w.heap[g]? = some (src s)) :
    Calls Try.prog 29 #[.agg C, .func (.func 16) #[.pointer (some ⟨g, 0, none⟩)] #[]] w fun e w' => ∃ ks, e = .returned (acv (actOf M s) ks) ∧ w'.ownsRow w.heap.size 3 1 ks (actOf M s).keep.length ((actOf M s).keep.map (.int .i64 ·)) ∧ w'.heap[g]? = some (src (actNext M s)) ∧ But g w w' := by
  have hF := fit_of hr
  obtain ⟨vp, vv, hC, hp, hv⟩ := hM.ex
  have hC23 := hC.size
  have h23 : (Try.prog.info? 25).map (·.size) = some C.size := by rw [hC23]; exact size25
  have hs18 := sumW_range ((okW_iff _).1 hF.ok) 18 (by omega)
  have hs0 := hF.sum
  have hdr := dr_range s (sumW M.W 18) (by omega)
  go_enter Try.func29, Try.ntmps29
  go_wp2_with fail
  have hK : ((w.alloc (.cells C 25)).alloc (.cells #[.int .u8 0, .int .i64 0, .int .i64 0, .int .i64 0, .string ⟨#[]⟩, .string ⟨#[]⟩, .slice none 0 0] 35)).heap[w.heap.size]? = some (.cells C 25) := old_alloc new_alloc
  have h4 : ((w.alloc (.cells C 25)).alloc (.cells #[.int .u8 0, .int .i64 0, .int .i64 0, .int .i64 0, .string ⟨#[]⟩, .string ⟨#[]⟩, .slice none 0 0] 35)).heap[w.heap.size + 1]? = some (.cells #[.int .u8 0, .int .i64 0, .int .i64 0, .int .i64 0, .string ⟨#[]⟩, .string ⟨#[]⟩, .slice none 0 0] 35) := by
    have h := new_alloc (w := w.alloc (.cells C 25)) (o := .cells #[.int .u8 0, .int .i64 0, .int .i64 0, .int .i64 0, .string ⟨#[]⟩, .string ⟨#[]⟩, .slice none 0 0] 35)
    rw [World.size_alloc] at h
    exact h
  have hg0 := old_alloc (o' := .cells #[.int .u8 0, .int .i64 0, .int .i64 0, .int .i64 0, .string ⟨#[]⟩, .string ⟨#[]⟩, .slice none 0 0] 35) (old_alloc (o' := .cells C 25) hg)
  have hM0 := hM.below (((Below.refl _ _).alloc (Nat.le_refl _) (.cells C 25)).alloc (by simp) (.cells #[.int .u8 0, .int .i64 0, .int .i64 0, .int .i64 0, .string ⟨#[]⟩, .string ⟨#[]⟩, .slice none 0 0] 35))
  have hB0 : But g w ((w.alloc (.cells C 25)).alloc (.cells #[.int .u8 0, .int .i64 0, .int .i64 0, .int .i64 0, .string ⟨#[]⟩, .string ⟨#[]⟩, .slice none 0 0] 35)) := ((But.refl _ _).alloc _).alloc _
  have hS0 : ((w.alloc (.cells C 25)).alloc (.cells #[.int .u8 0, .int .i64 0, .int .i64 0, .int .i64 0, .string ⟨#[]⟩, .string ⟨#[]⟩, .slice none 0 0] 35)).heap.size = w.heap.size + 2 := by simp
  generalize ((w.alloc (.cells C 25)).alloc (.cells #[.int .u8 0, .int .i64 0, .int .i64 0, .int .i64 0, .string ⟨#[]⟩, .string ⟨#[]⟩, .slice none 0 0] 35)) = W at hK h4 hg0 hM0 hB0 hS0 ⊢
  clear hM
  refine Draw.wp_region_ghosts mixed 8 4 (by kernel_rfl) (0 : Nat)
    (fun bx i => ([.agg C, .func (.func 16) #[.pointer (some ⟨g, 0, none⟩)] #[], .agg C, .int .i64 (sumW M.W 18), .int .i64 (dr s (sumW M.W 18)), .int .u8 (kindN M (dr s (sumW M.W 18)) : Nat), .agg #[.int .u8 (kindN M (dr s (sumW M.W 18)) : Nat), .int .i64 0, .int .i64 0, .int .i64 0, .string ⟨#[]⟩, .string ⟨#[]⟩, .slice none 0 0], .pointer (some ⟨bx, 0, none⟩)] : List Value).getD i undef)
    _ (fun _ => rfl)
    (fun D bx w' => But g W w' ∧ w'.heap[g]? = some (src (if D 4 = true then nx s else s)) ∧ (D 7 = true → W.heap.size ≤ bx ∧ w'.heap[bx]? = some (.cells #[.int .u8 0, .int .i64 0, .int .i64 0, .int .i64 0, .string ⟨#[]⟩, .string ⟨#[]⟩, .slice none 0 0] 35)))
    ⟨(But.refl _ _).drew, hg0, fun h => absurd h Bool.false_ne_true⟩ ?_ ?_
  · simp only [Draw.puts, List.take_succ_cons, List.take_zero, if_true, Act.put, List.setIfInBounds_toArray, List.set_cons_zero, List.set_cons_succ, Nat.zero_add, Nat.reduceAdd, List.getD_cons_zero, List.getD_cons_succ]
    refine ⟨?_, ?_, ?_, ?_, ?_, ?_, ?_, ?_, trivial⟩
    all_goals rintro D γ w1 hD hpre ⟨hb, hs, hx⟩
    all_goals have hb' := hb
    all_goals replace hpre := fun j hj => hpre j hj
    all_goals refine .inl ⟨rfl, fun K hk => ?_⟩
    · refine wp_load_row 25 _ rfl w.heap.size rfl 25 C (0, 0) _ (kept_but hb hg0 hK (by decide)) Try.underlying25 rfl h23 ?_
      exact hk γ w1 (fun _ _ => rfl) ⟨hb, by simpa [Draw.upd] using hs, by simpa [Draw.upd] using hx⟩
    · go_simp
      exact hk γ w1 (fun _ _ => rfl) ⟨hb, by simpa [Draw.upd] using hs, by simpa [Draw.upd] using hx⟩
    · refine wp_load_row 25 _ rfl w.heap.size rfl 25 C (0, 0) _ (kept_but hb hg0 hK (by decide)) Try.underlying25 rfl h23 ?_
      exact hk γ w1 (fun _ _ => rfl) ⟨hb, by simpa [Draw.upd] using hs, by simpa [Draw.upd] using hx⟩
    · go_simp
      refine (sum_any C M vp vv hC hF.ok _).mono ?_
      rintro e w2 ⟨rfl, hb2⟩
      exact hk γ w2 (fun _ _ => rfl) ⟨hb.below hb2, by simpa [Draw.upd] using kept hb2 hs, fun h => ⟨(hx (by simpa [Draw.upd] using h)).1, kept hb2 (hx (by simpa [Draw.upd] using h)).2⟩⟩
    · go_simp
      rw [hD] at hs
      refine (tell_src g s _ _ (by omega) (by omega) hs).mono ?_
      rintro e w2 ⟨rfl, hg2, hb2⟩
      exact hk γ w2 (fun _ _ => rfl) ⟨hb.trans hb2, by simpa [Draw.upd] using hg2, fun h => ⟨(hx (by simpa [Draw.upd] using h)).1, kept_but hb2 hs (hx (by simpa [Draw.upd] using h)).2 (by decide)⟩⟩
    · go_simp
      refine (kind_any C M _ (by omega) _ (hM0.but hg0 hb)).mono ?_
      rintro e w2 ⟨rfl, hb2⟩
      exact hk γ w2 (fun _ _ => rfl) ⟨hb.below hb2, by simpa [Draw.upd] using kept hb2 hs, fun h => ⟨(hx (by simpa [Draw.upd] using h)).1, kept hb2 (hx (by simpa [Draw.upd] using h)).2⟩⟩
    · go_simp
      exact hk γ w1 (fun _ _ => rfl) ⟨hb, by simpa [Draw.upd] using hs, by simpa [Draw.upd] using hx⟩
    · go_simp
      exact hk w1.heap.size _ (fun j hj => by rcases j with _|_|_|_|_|_|_|_|j <;> first | rfl | (rw [hD] at hj; cases hj)) ⟨hb.alloc _, old_alloc (by simpa [Draw.upd] using hs), fun _ => ⟨hb.size, new_alloc⟩⟩
  · simp only [Draw.puts, List.take_succ_cons, List.take_zero, List.drop_succ_cons, List.drop_zero, if_true, Act.put, List.setIfInBounds_toArray, List.set_cons_zero, List.set_cons_succ, Nat.zero_add, Nat.reduceAdd, List.getD_cons_zero, List.getD_cons_succ]
    rintro bx w1 ⟨hb, hs, hx⟩
    obtain ⟨hbx, h5⟩ := hx (by decide)
    have hg1 : w1.heap[g]? = some (src (nx s)) := by simpa using hs
    have st0 : St w g bx C w1 (nx s) _ := ⟨hg1, kept_but hb hg0 hK (by decide), kept_but hb hg0 h4 (by decide), h5, by omega, hB0.trans hb⟩
    clear hx hs hb hK h4 hg0 hM0 hB0 h5 hg1
    refine wpList_store_row rfl 35 _ _ rfl bx #[.int .u8 (kindN M (dr s (sumW M.W 18)) : Nat), .int .i64 0, .int .i64 0, .int .i64 0, .string ⟨#[]⟩, .string ⟨#[]⟩, .slice none 0 0] rfl rfl 35 _ st0.h5 size35 rfl (by simp [Value.oneCell']) ?_
    have st1 : St w g bx C (w1.setRow bx #[.int .u8 (kindN M (dr s (sumW M.W 18)) : Nat), .int .i64 0, .int .i64 0, .int .i64 0, .string ⟨#[]⟩, .string ⟨#[]⟩, .slice none 0 0]) (nx s) #[.int .u8 (kindN M (dr s (sumW M.W 18)) : Nat), .int .i64 0, .int .i64 0, .int .i64 0, .string ⟨#[]⟩, .string ⟨#[]⟩, .slice none 0 0] := st0.row _
    generalize (w1.setRow bx #[.int .u8 (kindN M (dr s (sumW M.W 18)) : Nat), .int .i64 0, .int .i64 0, .int .i64 0, .string ⟨#[]⟩, .string ⟨#[]⟩, .slice none 0 0]) = W1 at st1 ⊢
    clear st0
    have hnk : kindN M (dr s (sumW M.W 18)) < 18 := kindN_le _ _
    generalize hkd : kindN M (dr s (sumW M.W 18)) = k at st1 hnk ⊢
    clear hbx hS0
    have hnd := dr_range (nx s) M.nd hF.nd.1
    by_cases h11 : k = 11
    · have hact := act_tick hkd h11
      subst h11
      obtain ⟨c0, c1, c3, c4, c5, c6, f1, f3, f4, f5, f6⟩ := cell7 st1.h5
      obtain ⟨w0, cnd, cpk, ctk, cp, cv⟩ := mixCells hC st1.hK
      go_wp2_with fail
      refine (tell_src g _ _ _ hF.tk.1 (by have := hF.tk; omega) st1.hg).mono ?_
      rintro e W2 ⟨rfl, hg2, hb2⟩
      have hd := dr_range (nx s) M.tk hF.tk.1
      have htk := hF.tk
      have st2 := (st1.tell hg2 hb2)
      have st3 := st2.set 1 (.int .i64 (1 + dr (nx s) M.tk))
      clear c0 c1 c3 c4 c5 c6 f1 f3 f4 f5 f6 w0 cnd cpk ctk cp cv
      obtain ⟨c0, c1, c3, c4, c5, c6, f1, f3, f4, f5, f6⟩ := cell7 st2.h5
      obtain ⟨w0, cnd, cpk, ctk, cp, cv⟩ := mixCells hC st2.hK
      have h5f : (W2.setCell ⟨bx, 1, none⟩ (.int .i64 (1 + dr (nx s) M.tk))).heap[bx]? = some (.cells #[.int .u8 11, .int .i64 (1 + dr (nx s) M.tk), .int .i64 0, .int .i64 0, .string ⟨#[]⟩, .string ⟨#[]⟩, .slice none 0 0] 35) := st3.h5
      have h4f := st3.h4
      have hzf : (Try.prog.info? 35).map (·.size) = some (#[.int .u8 11, .int .i64 (1 + dr (nx s) M.tk), .int .i64 0, .int .i64 0, .string ⟨#[]⟩, .string ⟨#[]⟩, .slice none 0 0] : Array Value).size := size35
      go_wp2_with (first | (with_reducible refine wpList_load_row rfl 35 _ rfl bx ?_ 35 (#[.int .u8 11, .int .i64 (1 + dr (nx s) M.tk), .int .i64 0, .int .i64 0, .string ⟨#[]⟩, .string ⟨#[]⟩, .slice none 0 0]) (0, 0) _ h5f Try.underlying35 rfl hzf ?_; rotate_left) | (with_reducible refine wpList_store_row rfl 35 _ _ rfl (w.heap.size + 1) (#[.int .u8 11, .int .i64 (1 + dr (nx s) M.tk), .int .i64 0, .int .i64 0, .string ⟨#[]⟩, .string ⟨#[]⟩, .slice none 0 0]) ?_ ?_ 35 _ h4f hzf ?_ ?_ ?_; rotate_left; rotate_left; rotate_left; rotate_left))
      · refine bodyPost_ret (v := .agg #[.int .u8 11, .int .i64 (1 + dr (nx s) M.tk), .int .i64 0, .int .i64 0, .string ⟨#[]⟩, .string ⟨#[]⟩, .slice none 0 0]) (results_cell_row rfl _ _ (w.heap.size + 1) 35 _ (0, 0) _ rfl (setRow_heap _ _ _ _ _ _ h4f) Try.underlying35 rfl hzf) rfl ?_
        exact ⟨.slice none 0 0, by first | (rw [hact.1]; rfl) | rfl, by rw [hact.1]; exact ⟨rfl, .inl ⟨rfl, rfl⟩⟩, by first | (rw [hact.2]; exact (st3.done _).1) | exact (st3.done _).1, (st3.done _).2⟩
      all_goals first | exact rfl | simp [Value.oneCell']
    by_cases h12 : k = 12
    · have hact := act_pkt hkd (by omega)
      subst h12
      obtain ⟨c0, c1, c3, c4, c5, c6, f1, f3, f4, f5, f6⟩ := cell7 st1.h5
      obtain ⟨w0, cnd, cpk, ctk, cp, cv⟩ := mixCells hC st1.hK
      go_wp2_with fail
      refine (tell_src g _ _ _ hF.pk.1 (by have := hF.pk; omega) st1.hg).mono ?_
      rintro e W2 ⟨rfl, hg2, hb2⟩
      have hd := dr_range (nx s) M.pk hF.pk.1
      have htk := hF.pk
      have st2 := (st1.tell hg2 hb2)
      have st3 := st2.set 1 (.int .i64 (dr (nx s) M.pk))
      clear c0 c1 c3 c4 c5 c6 f1 f3 f4 f5 f6 w0 cnd cpk ctk cp cv
      obtain ⟨c0, c1, c3, c4, c5, c6, f1, f3, f4, f5, f6⟩ := cell7 st2.h5
      obtain ⟨w0, cnd, cpk, ctk, cp, cv⟩ := mixCells hC st2.hK
      have h5f : (W2.setCell ⟨bx, 1, none⟩ (.int .i64 (dr (nx s) M.pk))).heap[bx]? = some (.cells #[.int .u8 12, .int .i64 (dr (nx s) M.pk), .int .i64 0, .int .i64 0, .string ⟨#[]⟩, .string ⟨#[]⟩, .slice none 0 0] 35) := st3.h5
      have h4f := st3.h4
      have hzf : (Try.prog.info? 35).map (·.size) = some (#[.int .u8 12, .int .i64 (dr (nx s) M.pk), .int .i64 0, .int .i64 0, .string ⟨#[]⟩, .string ⟨#[]⟩, .slice none 0 0] : Array Value).size := size35
      go_wp2_with (first | (with_reducible refine wpList_load_row rfl 35 _ rfl bx ?_ 35 (#[.int .u8 12, .int .i64 (dr (nx s) M.pk), .int .i64 0, .int .i64 0, .string ⟨#[]⟩, .string ⟨#[]⟩, .slice none 0 0]) (0, 0) _ h5f Try.underlying35 rfl hzf ?_; rotate_left) | (with_reducible refine wpList_store_row rfl 35 _ _ rfl (w.heap.size + 1) (#[.int .u8 12, .int .i64 (dr (nx s) M.pk), .int .i64 0, .int .i64 0, .string ⟨#[]⟩, .string ⟨#[]⟩, .slice none 0 0]) ?_ ?_ 35 _ h4f hzf ?_ ?_ ?_; rotate_left; rotate_left; rotate_left; rotate_left))
      · refine bodyPost_ret (v := .agg #[.int .u8 12, .int .i64 (dr (nx s) M.pk), .int .i64 0, .int .i64 0, .string ⟨#[]⟩, .string ⟨#[]⟩, .slice none 0 0]) (results_cell_row rfl _ _ (w.heap.size + 1) 35 _ (0, 0) _ rfl (setRow_heap _ _ _ _ _ _ h4f) Try.underlying35 rfl hzf) rfl ?_
        exact ⟨.slice none 0 0, by first | (rw [hact.1]; rfl) | rfl, by rw [hact.1]; exact ⟨rfl, .inl ⟨rfl, rfl⟩⟩, by first | (rw [hact.2]; exact (st3.done _).1) | exact (st3.done _).1, (st3.done _).2⟩
      all_goals first | exact rfl | simp [Value.oneCell']
    by_cases h13 : k = 13
    · have hact := act_pkt hkd (by omega)
      subst h13
      obtain ⟨c0, c1, c3, c4, c5, c6, f1, f3, f4, f5, f6⟩ := cell7 st1.h5
      obtain ⟨w0, cnd, cpk, ctk, cp, cv⟩ := mixCells hC st1.hK
      go_wp2_with fail
      refine (tell_src g _ _ _ hF.pk.1 (by have := hF.pk; omega) st1.hg).mono ?_
      rintro e W2 ⟨rfl, hg2, hb2⟩
      have hd := dr_range (nx s) M.pk hF.pk.1
      have htk := hF.pk
      have st2 := (st1.tell hg2 hb2)
      have st3 := st2.set 1 (.int .i64 (dr (nx s) M.pk))
      clear c0 c1 c3 c4 c5 c6 f1 f3 f4 f5 f6 w0 cnd cpk ctk cp cv
      obtain ⟨c0, c1, c3, c4, c5, c6, f1, f3, f4, f5, f6⟩ := cell7 st2.h5
      obtain ⟨w0, cnd, cpk, ctk, cp, cv⟩ := mixCells hC st2.hK
      have h5f : (W2.setCell ⟨bx, 1, none⟩ (.int .i64 (dr (nx s) M.pk))).heap[bx]? = some (.cells #[.int .u8 13, .int .i64 (dr (nx s) M.pk), .int .i64 0, .int .i64 0, .string ⟨#[]⟩, .string ⟨#[]⟩, .slice none 0 0] 35) := st3.h5
      have h4f := st3.h4
      have hzf : (Try.prog.info? 35).map (·.size) = some (#[.int .u8 13, .int .i64 (dr (nx s) M.pk), .int .i64 0, .int .i64 0, .string ⟨#[]⟩, .string ⟨#[]⟩, .slice none 0 0] : Array Value).size := size35
      go_wp2_with (first | (with_reducible refine wpList_load_row rfl 35 _ rfl bx ?_ 35 (#[.int .u8 13, .int .i64 (dr (nx s) M.pk), .int .i64 0, .int .i64 0, .string ⟨#[]⟩, .string ⟨#[]⟩, .slice none 0 0]) (0, 0) _ h5f Try.underlying35 rfl hzf ?_; rotate_left) | (with_reducible refine wpList_store_row rfl 35 _ _ rfl (w.heap.size + 1) (#[.int .u8 13, .int .i64 (dr (nx s) M.pk), .int .i64 0, .int .i64 0, .string ⟨#[]⟩, .string ⟨#[]⟩, .slice none 0 0]) ?_ ?_ 35 _ h4f hzf ?_ ?_ ?_; rotate_left; rotate_left; rotate_left; rotate_left))
      · refine bodyPost_ret (v := .agg #[.int .u8 13, .int .i64 (dr (nx s) M.pk), .int .i64 0, .int .i64 0, .string ⟨#[]⟩, .string ⟨#[]⟩, .slice none 0 0]) (results_cell_row rfl _ _ (w.heap.size + 1) 35 _ (0, 0) _ rfl (setRow_heap _ _ _ _ _ _ h4f) Try.underlying35 rfl hzf) rfl ?_
        exact ⟨.slice none 0 0, by first | (rw [hact.1]; rfl) | rfl, by rw [hact.1]; exact ⟨rfl, .inl ⟨rfl, rfl⟩⟩, by first | (rw [hact.2]; exact (st3.done _).1) | exact (st3.done _).1, (st3.done _).2⟩
      all_goals first | exact rfl | simp [Value.oneCell']
    by_cases h14 : k = 14
    · have hact := act_pkt hkd (by omega)
      subst h14
      obtain ⟨c0, c1, c3, c4, c5, c6, f1, f3, f4, f5, f6⟩ := cell7 st1.h5
      obtain ⟨w0, cnd, cpk, ctk, cp, cv⟩ := mixCells hC st1.hK
      go_wp2_with fail
      refine (tell_src g _ _ _ hF.pk.1 (by have := hF.pk; omega) st1.hg).mono ?_
      rintro e W2 ⟨rfl, hg2, hb2⟩
      have hd := dr_range (nx s) M.pk hF.pk.1
      have htk := hF.pk
      have st2 := (st1.tell hg2 hb2)
      have st3 := st2.set 1 (.int .i64 (dr (nx s) M.pk))
      clear c0 c1 c3 c4 c5 c6 f1 f3 f4 f5 f6 w0 cnd cpk ctk cp cv
      obtain ⟨c0, c1, c3, c4, c5, c6, f1, f3, f4, f5, f6⟩ := cell7 st2.h5
      obtain ⟨w0, cnd, cpk, ctk, cp, cv⟩ := mixCells hC st2.hK
      have h5f : (W2.setCell ⟨bx, 1, none⟩ (.int .i64 (dr (nx s) M.pk))).heap[bx]? = some (.cells #[.int .u8 14, .int .i64 (dr (nx s) M.pk), .int .i64 0, .int .i64 0, .string ⟨#[]⟩, .string ⟨#[]⟩, .slice none 0 0] 35) := st3.h5
      have h4f := st3.h4
      have hzf : (Try.prog.info? 35).map (·.size) = some (#[.int .u8 14, .int .i64 (dr (nx s) M.pk), .int .i64 0, .int .i64 0, .string ⟨#[]⟩, .string ⟨#[]⟩, .slice none 0 0] : Array Value).size := size35
      go_wp2_with (first | (with_reducible refine wpList_load_row rfl 35 _ rfl bx ?_ 35 (#[.int .u8 14, .int .i64 (dr (nx s) M.pk), .int .i64 0, .int .i64 0, .string ⟨#[]⟩, .string ⟨#[]⟩, .slice none 0 0]) (0, 0) _ h5f Try.underlying35 rfl hzf ?_; rotate_left) | (with_reducible refine wpList_store_row rfl 35 _ _ rfl (w.heap.size + 1) (#[.int .u8 14, .int .i64 (dr (nx s) M.pk), .int .i64 0, .int .i64 0, .string ⟨#[]⟩, .string ⟨#[]⟩, .slice none 0 0]) ?_ ?_ 35 _ h4f hzf ?_ ?_ ?_; rotate_left; rotate_left; rotate_left; rotate_left))
      · refine bodyPost_ret (v := .agg #[.int .u8 14, .int .i64 (dr (nx s) M.pk), .int .i64 0, .int .i64 0, .string ⟨#[]⟩, .string ⟨#[]⟩, .slice none 0 0]) (results_cell_row rfl _ _ (w.heap.size + 1) 35 _ (0, 0) _ rfl (setRow_heap _ _ _ _ _ _ h4f) Try.underlying35 rfl hzf) rfl ?_
        exact ⟨.slice none 0 0, by first | (rw [hact.1]; rfl) | rfl, by rw [hact.1]; exact ⟨rfl, .inl ⟨rfl, rfl⟩⟩, by first | (rw [hact.2]; exact (st3.done _).1) | exact (st3.done _).1, (st3.done _).2⟩
      all_goals first | exact rfl | simp [Value.oneCell']
    have b11 : ((k : Int) == 11) = false := by simp; omega
    have b12 : ((k : Int) == 12) = false := by simp; omega
    have b13 : ((k : Int) == 13) = false := by simp; omega
    have b14 : ((k : Int) == 14) = false := by simp; omega
    obtain ⟨c0, c1, c3, c4, c5, c6, f1, f3, f4, f5, f6⟩ := cell7 st1.h5
    obtain ⟨w0, cnd, cpk, ctk, cp, cv⟩ := mixCells hC st1.hK
    go_wp2_with fail
    refine (tell_src g _ _ _ hF.nd.1 (by have := hF.nd; omega) st1.hg).mono ?_
    rintro e W2 ⟨rfl, hg2, hb2⟩
    have st2 := (st1.tell hg2 hb2)
    have st3 := st2.set 1 (.int .i64 (dr (nx s) M.nd))
    clear c0 c1 c3 c4 c5 c6 f1 f3 f4 f5 f6 w0 cnd cpk ctk cp cv
    by_cases hel : k = 0 ∨ (5 ≤ k ∧ k ≤ 10) ∨ 17 ≤ k
    · have hact := act_else hkd hel
      have b1 : ((k : Int) == 1) = false := by simp; omega
      have b2 : ((k : Int) == 2) = false := by simp; omega
      have b3 : ((k : Int) == 3) = false := by simp; omega
      have b4 : ((k : Int) == 4) = false := by simp; omega
      have b15 : ((k : Int) == 15) = false := by simp; omega
      have b16 : ((k : Int) == 16) = false := by simp; omega
      obtain ⟨c0, c1, c3, c4, c5, c6, f1, f3, f4, f5, f6⟩ := cell7 st2.h5
      obtain ⟨w0, cnd, cpk, ctk, cp, cv⟩ := mixCells hC st2.hK
      have h5f : ((W2.setCell ⟨bx, 1, none⟩ (.int .i64 (dr (nx s) M.nd)))).heap[bx]? = some (.cells #[.int .u8 (k : Nat), .int .i64 (dr (nx s) M.nd), .int .i64 0, .int .i64 0, .string ⟨#[]⟩, .string ⟨#[]⟩, .slice none 0 0] 35) := st3.h5
      have h4f := st3.h4
      have hzf : (Try.prog.info? 35).map (·.size) = some (#[.int .u8 (k : Nat), .int .i64 (dr (nx s) M.nd), .int .i64 0, .int .i64 0, .string ⟨#[]⟩, .string ⟨#[]⟩, .slice none 0 0] : Array Value).size := size35
      go_wp2_with (first | (with_reducible refine wpList_load_row rfl 35 _ rfl bx ?_ 35 (#[.int .u8 (k : Nat), .int .i64 (dr (nx s) M.nd), .int .i64 0, .int .i64 0, .string ⟨#[]⟩, .string ⟨#[]⟩, .slice none 0 0]) (0, 0) _ h5f Try.underlying35 rfl hzf ?_; rotate_left) | (with_reducible refine wpList_store_row rfl 35 _ _ rfl (w.heap.size + 1) (#[.int .u8 (k : Nat), .int .i64 (dr (nx s) M.nd), .int .i64 0, .int .i64 0, .string ⟨#[]⟩, .string ⟨#[]⟩, .slice none 0 0]) ?_ ?_ 35 _ h4f hzf ?_ ?_ ?_; rotate_left; rotate_left; rotate_left; rotate_left))
      · refine bodyPost_ret (v := .agg #[.int .u8 (k : Nat), .int .i64 (dr (nx s) M.nd), .int .i64 0, .int .i64 0, .string ⟨#[]⟩, .string ⟨#[]⟩, .slice none 0 0]) (results_cell_row rfl _ _ (w.heap.size + 1) 35 _ (0, 0) _ rfl (setRow_heap _ _ _ _ _ _ h4f) Try.underlying35 rfl hzf) rfl ?_
        exact ⟨.slice none 0 0, by first | (rw [hact.1]; rfl) | rfl, by rw [hact.1]; exact ⟨rfl, .inl ⟨rfl, rfl⟩⟩, by first | (rw [hact.2]; exact (st3.done _).1) | exact (st3.done _).1, (st3.done _).2⟩
      all_goals first | exact rfl | simp [Value.oneCell']
    by_cases h16 : k = 16
    · have hact := act_fuse hkd h16
      subst h16
      obtain ⟨c0, c1, c3, c4, c5, c6, f1, f3, f4, f5, f6⟩ := cell7 st2.h5
      obtain ⟨w0, cnd, cpk, ctk, cp, cv⟩ := mixCells hC st2.hK
      go_wp2_with fail
      refine (tell_src g _ _ _ (by decide) (by decide) st3.hg).mono ?_
      rintro e W4 ⟨rfl, hg4, hb4⟩
      have hd := dr_range (nx (nx s)) 20 (by decide)
      have st4 := st3.tell hg4 hb4
      have st5 := st4.set 3 (.int .i64 (dr (nx (nx s)) 20))
      clear c0 c1 c3 c4 c5 c6 f1 f3 f4 f5 f6 w0 cnd cpk ctk cp cv
      obtain ⟨c0, c1, c3, c4, c5, c6, f1, f3, f4, f5, f6⟩ := cell7 st4.h5
      obtain ⟨w0, cnd, cpk, ctk, cp, cv⟩ := mixCells hC st4.hK
      have h5f : (W4.setCell ⟨bx, 3, none⟩ (.int .i64 (dr (nx (nx s)) 20))).heap[bx]? = some (.cells #[.int .u8 16, .int .i64 (dr (nx s) M.nd), .int .i64 0, .int .i64 (dr (nx (nx s)) 20), .string ⟨#[]⟩, .string ⟨#[]⟩, .slice none 0 0] 35) := st5.h5
      have h4f := st5.h4
      have hzf : (Try.prog.info? 35).map (·.size) = some (#[.int .u8 16, .int .i64 (dr (nx s) M.nd), .int .i64 0, .int .i64 (dr (nx (nx s)) 20), .string ⟨#[]⟩, .string ⟨#[]⟩, .slice none 0 0] : Array Value).size := size35
      go_wp2_with (first | (with_reducible refine wpList_load_row rfl 35 _ rfl bx ?_ 35 (#[.int .u8 16, .int .i64 (dr (nx s) M.nd), .int .i64 0, .int .i64 (dr (nx (nx s)) 20), .string ⟨#[]⟩, .string ⟨#[]⟩, .slice none 0 0]) (0, 0) _ h5f Try.underlying35 rfl hzf ?_; rotate_left) | (with_reducible refine wpList_store_row rfl 35 _ _ rfl (w.heap.size + 1) (#[.int .u8 16, .int .i64 (dr (nx s) M.nd), .int .i64 0, .int .i64 (dr (nx (nx s)) 20), .string ⟨#[]⟩, .string ⟨#[]⟩, .slice none 0 0]) ?_ ?_ 35 _ h4f hzf ?_ ?_ ?_; rotate_left; rotate_left; rotate_left; rotate_left))
      · refine bodyPost_ret (v := .agg #[.int .u8 16, .int .i64 (dr (nx s) M.nd), .int .i64 0, .int .i64 (dr (nx (nx s)) 20), .string ⟨#[]⟩, .string ⟨#[]⟩, .slice none 0 0]) (results_cell_row rfl _ _ (w.heap.size + 1) 35 _ (0, 0) _ rfl (setRow_heap _ _ _ _ _ _ h4f) Try.underlying35 rfl hzf) rfl ?_
        exact ⟨.slice none 0 0, by first | (rw [hact.1]; rfl) | rfl, by rw [hact.1]; exact ⟨rfl, .inl ⟨rfl, rfl⟩⟩, by first | (rw [hact.2]; exact (st5.done _).1) | exact (st5.done _).1, (st5.done _).2⟩
      all_goals first | exact rfl | simp [Value.oneCell']
    obtain ⟨bP, oP, capP, rfl⟩ := hp.open1 hF.p.1
    by_cases h2 : k = 2
    · have hact := act_path hkd (by omega)
      subst h2
      obtain ⟨c0, c1, c3, c4, c5, c6, f1, f3, f4, f5, f6⟩ := cell7 st2.h5
      obtain ⟨w0, cnd, cpk, ctk, cp, cv⟩ := mixCells hC st2.hK
      go_wp2_with fail
      clear c0 c1 c3 c4 c5 c6 f1 f3 f4 f5 f6 w0 cnd cpk ctk cp cv
      have hl4 : 1 ≤ (M.P.length : Int) ∧ (M.P.length : Int) ≤ 50 := by have := hF.p; omega
      refine Draw.wp_region_ghosts mixed 7 6 (by kernel_rfl) () (fun _ i => ([.pointer (some ⟨w.heap.size, 21, none⟩), .slice (some ⟨bP, oP, none⟩) M.P.length capP, .func (.func 16) #[.pointer (some ⟨g, 0, none⟩)] #[], .pointer (some ⟨w.heap.size, 21, none⟩), .slice (some ⟨bP, oP, none⟩) M.P.length capP, .int .i64 M.P.length, .int .i64 (dr (nx (nx s)) M.P.length)] : List Value).getD i undef)
        _ (fun _ => rfl) (fun D _ w' => But g (W2.setCell ⟨bx, 1, none⟩ (.int .i64 (dr (nx s) M.nd))) w' ∧ w'.heap[g]? = some (src (if D 6 = true then nx (nx (nx s)) else (nx (nx s))))) ⟨(But.refl _ _).drew, st3.hg⟩ ?_ ?_
      · simp only [Draw.puts, List.take_succ_cons, List.take_zero, if_true, Act.put, List.setIfInBounds_toArray, List.set_cons_zero, List.set_cons_succ, Nat.zero_add, Nat.reduceAdd, List.getD_cons_zero, List.getD_cons_succ]
        refine ⟨?_, ?_, ?_, ?_, ?_, ?_, ?_, trivial⟩
        all_goals rintro D γ u1 hD hpre ⟨hb, hs⟩
        all_goals refine .inl ⟨rfl, fun K hk => ?_⟩
        all_goals have hKu := kept_but hb st3.hg st3.hK (by decide)
        all_goals obtain ⟨w0, cnd, cpk, ctk, cp, cv⟩ := mixCells hC hKu
        all_goals go_simp
        all_goals first
          | exact hk γ u1 (fun _ _ => rfl) ⟨hb, by simpa [Draw.upd] using hs⟩
          | (rw [hD] at hs
             refine (tell_src g (nx (nx s)) _ _ hl4.1 (by omega) hs).mono ?_
             rintro e u2 ⟨rfl, hg2, hb2⟩
             exact hk γ u2 (fun _ _ => rfl) ⟨hb.trans hb2, by simpa [Draw.upd] using hg2⟩)
      · simp only [Draw.puts, List.take_succ_cons, List.take_zero, List.drop_succ_cons, if_true, Act.put, List.setIfInBounds_toArray, List.set_cons_zero, List.set_cons_succ, Nat.zero_add, Nat.reduceAdd, List.getD_cons_zero, List.getD_cons_succ]
        rintro γ W4 ⟨hb, hs⟩
        have hg4 : W4.heap[g]? = some (src (nx (nx (nx s)))) := by simpa using hs
        have st4 := st3.tell hg4 hb
        have hd := dr_range (nx (nx s)) M.P.length hl4.1
        have ht : W4.cell? ⟨bP, oP + (dr (nx (nx s)) M.P.length).toNat, none⟩ = some (.string (pick M.P (nx (nx s)))) := (hp.but hg st4.hB).cell (i := (dr (nx (nx s)) M.P.length).toNat) (by omega)
        clear hs hb
        have st5 := st4.set 4 (.string (pick M.P (nx (nx s))))
        obtain ⟨c0, c1, c3, c4, c5, c6, f1, f3, f4, f5, f6⟩ := cell7 st4.h5
        obtain ⟨w0, cnd, cpk, ctk, cp, cv⟩ := mixCells hC st4.hK
        have h5f : (W4.setCell ⟨bx, 4, none⟩ (.string (pick M.P (nx (nx s))))).heap[bx]? = some (.cells #[.int .u8 2, .int .i64 (dr (nx s) M.nd), .int .i64 0, .int .i64 0, .string (pick M.P (nx (nx s))), .string ⟨#[]⟩, .slice none 0 0] 35) := st5.h5
        have h4f := st5.h4
        have hzf : (Try.prog.info? 35).map (·.size) = some (#[.int .u8 2, .int .i64 (dr (nx s) M.nd), .int .i64 0, .int .i64 0, .string (pick M.P (nx (nx s))), .string ⟨#[]⟩, .slice none 0 0] : Array Value).size := size35
        go_wp2_with (first | (with_reducible refine wpList_load_row rfl 35 _ rfl bx ?_ 35 (#[.int .u8 2, .int .i64 (dr (nx s) M.nd), .int .i64 0, .int .i64 0, .string (pick M.P (nx (nx s))), .string ⟨#[]⟩, .slice none 0 0]) (0, 0) _ h5f Try.underlying35 rfl hzf ?_; rotate_left) | (with_reducible refine wpList_store_row rfl 35 _ _ rfl (w.heap.size + 1) (#[.int .u8 2, .int .i64 (dr (nx s) M.nd), .int .i64 0, .int .i64 0, .string (pick M.P (nx (nx s))), .string ⟨#[]⟩, .slice none 0 0]) ?_ ?_ 35 _ h4f hzf ?_ ?_ ?_; rotate_left; rotate_left; rotate_left; rotate_left))
        · refine bodyPost_ret (v := .agg #[.int .u8 2, .int .i64 (dr (nx s) M.nd), .int .i64 0, .int .i64 0, .string (pick M.P (nx (nx s))), .string ⟨#[]⟩, .slice none 0 0]) (results_cell_row rfl _ _ (w.heap.size + 1) 35 _ (0, 0) _ rfl (setRow_heap _ _ _ _ _ _ h4f) Try.underlying35 rfl hzf) rfl ?_
          exact ⟨.slice none 0 0, by first | (rw [hact.1]; rfl) | rfl, by rw [hact.1]; exact ⟨rfl, .inl ⟨rfl, rfl⟩⟩, by first | (rw [hact.2]; exact (st5.done _).1) | exact (st5.done _).1, (st5.done _).2⟩
        all_goals first | exact rfl | simp [Value.oneCell']
    by_cases h3 : k = 3
    · have hact := act_path hkd (by omega)
      subst h3
      obtain ⟨c0, c1, c3, c4, c5, c6, f1, f3, f4, f5, f6⟩ := cell7 st2.h5
      obtain ⟨w0, cnd, cpk, ctk, cp, cv⟩ := mixCells hC st2.hK
      go_wp2_with fail
      clear c0 c1 c3 c4 c5 c6 f1 f3 f4 f5 f6 w0 cnd cpk ctk cp cv
      have hl4 : 1 ≤ (M.P.length : Int) ∧ (M.P.length : Int) ≤ 50 := by have := hF.p; omega
      refine Draw.wp_region_ghosts mixed 7 6 (by kernel_rfl) () (fun _ i => ([.pointer (some ⟨w.heap.size, 21, none⟩), .slice (some ⟨bP, oP, none⟩) M.P.length capP, .func (.func 16) #[.pointer (some ⟨g, 0, none⟩)] #[], .pointer (some ⟨w.heap.size, 21, none⟩), .slice (some ⟨bP, oP, none⟩) M.P.length capP, .int .i64 M.P.length, .int .i64 (dr (nx (nx s)) M.P.length)] : List Value).getD i undef)
        _ (fun _ => rfl) (fun D _ w' => But g (W2.setCell ⟨bx, 1, none⟩ (.int .i64 (dr (nx s) M.nd))) w' ∧ w'.heap[g]? = some (src (if D 6 = true then nx (nx (nx s)) else (nx (nx s))))) ⟨(But.refl _ _).drew, st3.hg⟩ ?_ ?_
      · simp only [Draw.puts, List.take_succ_cons, List.take_zero, if_true, Act.put, List.setIfInBounds_toArray, List.set_cons_zero, List.set_cons_succ, Nat.zero_add, Nat.reduceAdd, List.getD_cons_zero, List.getD_cons_succ]
        refine ⟨?_, ?_, ?_, ?_, ?_, ?_, ?_, trivial⟩
        all_goals rintro D γ u1 hD hpre ⟨hb, hs⟩
        all_goals refine .inl ⟨rfl, fun K hk => ?_⟩
        all_goals have hKu := kept_but hb st3.hg st3.hK (by decide)
        all_goals obtain ⟨w0, cnd, cpk, ctk, cp, cv⟩ := mixCells hC hKu
        all_goals go_simp
        all_goals first
          | exact hk γ u1 (fun _ _ => rfl) ⟨hb, by simpa [Draw.upd] using hs⟩
          | (rw [hD] at hs
             refine (tell_src g (nx (nx s)) _ _ hl4.1 (by omega) hs).mono ?_
             rintro e u2 ⟨rfl, hg2, hb2⟩
             exact hk γ u2 (fun _ _ => rfl) ⟨hb.trans hb2, by simpa [Draw.upd] using hg2⟩)
      · simp only [Draw.puts, List.take_succ_cons, List.take_zero, List.drop_succ_cons, if_true, Act.put, List.setIfInBounds_toArray, List.set_cons_zero, List.set_cons_succ, Nat.zero_add, Nat.reduceAdd, List.getD_cons_zero, List.getD_cons_succ]
        rintro γ W4 ⟨hb, hs⟩
        have hg4 : W4.heap[g]? = some (src (nx (nx (nx s)))) := by simpa using hs
        have st4 := st3.tell hg4 hb
        have hd := dr_range (nx (nx s)) M.P.length hl4.1
        have ht : W4.cell? ⟨bP, oP + (dr (nx (nx s)) M.P.length).toNat, none⟩ = some (.string (pick M.P (nx (nx s)))) := (hp.but hg st4.hB).cell (i := (dr (nx (nx s)) M.P.length).toNat) (by omega)
        clear hs hb
        have st5 := st4.set 4 (.string (pick M.P (nx (nx s))))
        obtain ⟨c0, c1, c3, c4, c5, c6, f1, f3, f4, f5, f6⟩ := cell7 st4.h5
        obtain ⟨w0, cnd, cpk, ctk, cp, cv⟩ := mixCells hC st4.hK
        have h5f : (W4.setCell ⟨bx, 4, none⟩ (.string (pick M.P (nx (nx s))))).heap[bx]? = some (.cells #[.int .u8 3, .int .i64 (dr (nx s) M.nd), .int .i64 0, .int .i64 0, .string (pick M.P (nx (nx s))), .string ⟨#[]⟩, .slice none 0 0] 35) := st5.h5
        have h4f := st5.h4
        have hzf : (Try.prog.info? 35).map (·.size) = some (#[.int .u8 3, .int .i64 (dr (nx s) M.nd), .int .i64 0, .int .i64 0, .string (pick M.P (nx (nx s))), .string ⟨#[]⟩, .slice none 0 0] : Array Value).size := size35
        go_wp2_with (first | (with_reducible refine wpList_load_row rfl 35 _ rfl bx ?_ 35 (#[.int .u8 3, .int .i64 (dr (nx s) M.nd), .int .i64 0, .int .i64 0, .string (pick M.P (nx (nx s))), .string ⟨#[]⟩, .slice none 0 0]) (0, 0) _ h5f Try.underlying35 rfl hzf ?_; rotate_left) | (with_reducible refine wpList_store_row rfl 35 _ _ rfl (w.heap.size + 1) (#[.int .u8 3, .int .i64 (dr (nx s) M.nd), .int .i64 0, .int .i64 0, .string (pick M.P (nx (nx s))), .string ⟨#[]⟩, .slice none 0 0]) ?_ ?_ 35 _ h4f hzf ?_ ?_ ?_; rotate_left; rotate_left; rotate_left; rotate_left))
        · refine bodyPost_ret (v := .agg #[.int .u8 3, .int .i64 (dr (nx s) M.nd), .int .i64 0, .int .i64 0, .string (pick M.P (nx (nx s))), .string ⟨#[]⟩, .slice none 0 0]) (results_cell_row rfl _ _ (w.heap.size + 1) 35 _ (0, 0) _ rfl (setRow_heap _ _ _ _ _ _ h4f) Try.underlying35 rfl hzf) rfl ?_
          exact ⟨.slice none 0 0, by first | (rw [hact.1]; rfl) | rfl, by rw [hact.1]; exact ⟨rfl, .inl ⟨rfl, rfl⟩⟩, by first | (rw [hact.2]; exact (st5.done _).1) | exact (st5.done _).1, (st5.done _).2⟩
        all_goals first | exact rfl | simp [Value.oneCell']
    by_cases h4 : k = 4
    · have hact := act_path hkd (by omega)
      subst h4
      obtain ⟨c0, c1, c3, c4, c5, c6, f1, f3, f4, f5, f6⟩ := cell7 st2.h5
      obtain ⟨w0, cnd, cpk, ctk, cp, cv⟩ := mixCells hC st2.hK
      go_wp2_with fail
      clear c0 c1 c3 c4 c5 c6 f1 f3 f4 f5 f6 w0 cnd cpk ctk cp cv
      have hl4 : 1 ≤ (M.P.length : Int) ∧ (M.P.length : Int) ≤ 50 := by have := hF.p; omega
      refine Draw.wp_region_ghosts mixed 7 6 (by kernel_rfl) () (fun _ i => ([.pointer (some ⟨w.heap.size, 21, none⟩), .slice (some ⟨bP, oP, none⟩) M.P.length capP, .func (.func 16) #[.pointer (some ⟨g, 0, none⟩)] #[], .pointer (some ⟨w.heap.size, 21, none⟩), .slice (some ⟨bP, oP, none⟩) M.P.length capP, .int .i64 M.P.length, .int .i64 (dr (nx (nx s)) M.P.length)] : List Value).getD i undef)
        _ (fun _ => rfl) (fun D _ w' => But g (W2.setCell ⟨bx, 1, none⟩ (.int .i64 (dr (nx s) M.nd))) w' ∧ w'.heap[g]? = some (src (if D 6 = true then nx (nx (nx s)) else (nx (nx s))))) ⟨(But.refl _ _).drew, st3.hg⟩ ?_ ?_
      · simp only [Draw.puts, List.take_succ_cons, List.take_zero, if_true, Act.put, List.setIfInBounds_toArray, List.set_cons_zero, List.set_cons_succ, Nat.zero_add, Nat.reduceAdd, List.getD_cons_zero, List.getD_cons_succ]
        refine ⟨?_, ?_, ?_, ?_, ?_, ?_, ?_, trivial⟩
        all_goals rintro D γ u1 hD hpre ⟨hb, hs⟩
        all_goals refine .inl ⟨rfl, fun K hk => ?_⟩
        all_goals have hKu := kept_but hb st3.hg st3.hK (by decide)
        all_goals obtain ⟨w0, cnd, cpk, ctk, cp, cv⟩ := mixCells hC hKu
        all_goals go_simp
        all_goals first
          | exact hk γ u1 (fun _ _ => rfl) ⟨hb, by simpa [Draw.upd] using hs⟩
          | (rw [hD] at hs
             refine (tell_src g (nx (nx s)) _ _ hl4.1 (by omega) hs).mono ?_
             rintro e u2 ⟨rfl, hg2, hb2⟩
             exact hk γ u2 (fun _ _ => rfl) ⟨hb.trans hb2, by simpa [Draw.upd] using hg2⟩)
      · simp only [Draw.puts, List.take_succ_cons, List.take_zero, List.drop_succ_cons, if_true, Act.put, List.setIfInBounds_toArray, List.set_cons_zero, List.set_cons_succ, Nat.zero_add, Nat.reduceAdd, List.getD_cons_zero, List.getD_cons_succ]
        rintro γ W4 ⟨hb, hs⟩
        have hg4 : W4.heap[g]? = some (src (nx (nx (nx s)))) := by simpa using hs
        have st4 := st3.tell hg4 hb
        have hd := dr_range (nx (nx s)) M.P.length hl4.1
        have ht : W4.cell? ⟨bP, oP + (dr (nx (nx s)) M.P.length).toNat, none⟩ = some (.string (pick M.P (nx (nx s)))) := (hp.but hg st4.hB).cell (i := (dr (nx (nx s)) M.P.length).toNat) (by omega)
        clear hs hb
        have st5 := st4.set 4 (.string (pick M.P (nx (nx s))))
        obtain ⟨c0, c1, c3, c4, c5, c6, f1, f3, f4, f5, f6⟩ := cell7 st4.h5
        obtain ⟨w0, cnd, cpk, ctk, cp, cv⟩ := mixCells hC st4.hK
        have h5f : (W4.setCell ⟨bx, 4, none⟩ (.string (pick M.P (nx (nx s))))).heap[bx]? = some (.cells #[.int .u8 4, .int .i64 (dr (nx s) M.nd), .int .i64 0, .int .i64 0, .string (pick M.P (nx (nx s))), .string ⟨#[]⟩, .slice none 0 0] 35) := st5.h5
        have h4f := st5.h4
        have hzf : (Try.prog.info? 35).map (·.size) = some (#[.int .u8 4, .int .i64 (dr (nx s) M.nd), .int .i64 0, .int .i64 0, .string (pick M.P (nx (nx s))), .string ⟨#[]⟩, .slice none 0 0] : Array Value).size := size35
        go_wp2_with (first | (with_reducible refine wpList_load_row rfl 35 _ rfl bx ?_ 35 (#[.int .u8 4, .int .i64 (dr (nx s) M.nd), .int .i64 0, .int .i64 0, .string (pick M.P (nx (nx s))), .string ⟨#[]⟩, .slice none 0 0]) (0, 0) _ h5f Try.underlying35 rfl hzf ?_; rotate_left) | (with_reducible refine wpList_store_row rfl 35 _ _ rfl (w.heap.size + 1) (#[.int .u8 4, .int .i64 (dr (nx s) M.nd), .int .i64 0, .int .i64 0, .string (pick M.P (nx (nx s))), .string ⟨#[]⟩, .slice none 0 0]) ?_ ?_ 35 _ h4f hzf ?_ ?_ ?_; rotate_left; rotate_left; rotate_left; rotate_left))
        · refine bodyPost_ret (v := .agg #[.int .u8 4, .int .i64 (dr (nx s) M.nd), .int .i64 0, .int .i64 0, .string (pick M.P (nx (nx s))), .string ⟨#[]⟩, .slice none 0 0]) (results_cell_row rfl _ _ (w.heap.size + 1) 35 _ (0, 0) _ rfl (setRow_heap _ _ _ _ _ _ h4f) Try.underlying35 rfl hzf) rfl ?_
          exact ⟨.slice none 0 0, by first | (rw [hact.1]; rfl) | rfl, by rw [hact.1]; exact ⟨rfl, .inl ⟨rfl, rfl⟩⟩, by first | (rw [hact.2]; exact (st5.done _).1) | exact (st5.done _).1, (st5.done _).2⟩
        all_goals first | exact rfl | simp [Value.oneCell']
    obtain ⟨bV, oV, capV, rfl⟩ := hv.open1 hF.v.1
    by_cases h1 : k = 1
    · have hact := act_put hkd h1
      subst h1
      obtain ⟨c0, c1, c3, c4, c5, c6, f1, f3, f4, f5, f6⟩ := cell7 st2.h5
      obtain ⟨w0, cnd, cpk, ctk, cp, cv⟩ := mixCells hC st2.hK
      go_wp2_with fail
      clear c0 c1 c3 c4 c5 c6 f1 f3 f4 f5 f6 w0 cnd cpk ctk cp cv
      have hl4 : 1 ≤ (M.P.length : Int) ∧ (M.P.length : Int) ≤ 50 := by have := hF.p; omega
      refine Draw.wp_region_ghosts mixed 7 6 (by kernel_rfl) () (fun _ i => ([.pointer (some ⟨w.heap.size, 21, none⟩), .slice (some ⟨bP, oP, none⟩) M.P.length capP, .func (.func 16) #[.pointer (some ⟨g, 0, none⟩)] #[], .pointer (some ⟨w.heap.size, 21, none⟩), .slice (some ⟨bP, oP, none⟩) M.P.length capP, .int .i64 M.P.length, .int .i64 (dr (nx (nx s)) M.P.length)] : List Value).getD i undef)
        _ (fun _ => rfl) (fun D _ w' => But g (W2.setCell ⟨bx, 1, none⟩ (.int .i64 (dr (nx s) M.nd))) w' ∧ w'.heap[g]? = some (src (if D 6 = true then nx (nx (nx s)) else (nx (nx s))))) ⟨(But.refl _ _).drew, st3.hg⟩ ?_ ?_
      · simp only [Draw.puts, List.take_succ_cons, List.take_zero, if_true, Act.put, List.setIfInBounds_toArray, List.set_cons_zero, List.set_cons_succ, Nat.zero_add, Nat.reduceAdd, List.getD_cons_zero, List.getD_cons_succ]
        refine ⟨?_, ?_, ?_, ?_, ?_, ?_, ?_, trivial⟩
        all_goals rintro D γ u1 hD hpre ⟨hb, hs⟩
        all_goals refine .inl ⟨rfl, fun K hk => ?_⟩
        all_goals have hKu := kept_but hb st3.hg st3.hK (by decide)
        all_goals obtain ⟨w0, cnd, cpk, ctk, cp, cv⟩ := mixCells hC hKu
        all_goals go_simp
        all_goals first
          | exact hk γ u1 (fun _ _ => rfl) ⟨hb, by simpa [Draw.upd] using hs⟩
          | (rw [hD] at hs
             refine (tell_src g (nx (nx s)) _ _ hl4.1 (by omega) hs).mono ?_
             rintro e u2 ⟨rfl, hg2, hb2⟩
             exact hk γ u2 (fun _ _ => rfl) ⟨hb.trans hb2, by simpa [Draw.upd] using hg2⟩)
      · simp only [Draw.puts, List.take_succ_cons, List.take_zero, List.drop_succ_cons, if_true, Act.put, List.setIfInBounds_toArray, List.set_cons_zero, List.set_cons_succ, Nat.zero_add, Nat.reduceAdd, List.getD_cons_zero, List.getD_cons_succ]
        rintro γ W4 ⟨hb, hs⟩
        have hg4 : W4.heap[g]? = some (src (nx (nx (nx s)))) := by simpa using hs
        have st4 := st3.tell hg4 hb
        have hd := dr_range (nx (nx s)) M.P.length hl4.1
        have ht : W4.cell? ⟨bP, oP + (dr (nx (nx s)) M.P.length).toNat, none⟩ = some (.string (pick M.P (nx (nx s)))) := (hp.but hg st4.hB).cell (i := (dr (nx (nx s)) M.P.length).toNat) (by omega)
        clear hs hb
        have st5 := st4.set 4 (.string (pick M.P (nx (nx s))))
        obtain ⟨c0, c1, c3, c4, c5, c6, f1, f3, f4, f5, f6⟩ := cell7 st4.h5
        obtain ⟨w0, cnd, cpk, ctk, cp, cv⟩ := mixCells hC st4.hK
        go_wp2_with fail
        clear c0 c1 c3 c4 c5 c6 f1 f3 f4 f5 f6 w0 cnd cpk ctk cp cv
        have hl6 : 1 ≤ (M.V.length : Int) ∧ (M.V.length : Int) ≤ 50 := by have := hF.v; omega
        refine Draw.wp_region_ghosts mixed 7 6 (by kernel_rfl) () (fun _ i => ([.pointer (some ⟨w.heap.size, 22, none⟩), .slice (some ⟨bV, oV, none⟩) M.V.length capV, .func (.func 16) #[.pointer (some ⟨g, 0, none⟩)] #[], .pointer (some ⟨w.heap.size, 22, none⟩), .slice (some ⟨bV, oV, none⟩) M.V.length capV, .int .i64 M.V.length, .int .i64 (dr (nx (nx (nx s))) M.V.length)] : List Value).getD i undef)
          _ (fun _ => rfl) (fun D _ w' => But g (W4.setCell ⟨bx, 4, none⟩ (.string (pick M.P (nx (nx s))))) w' ∧ w'.heap[g]? = some (src (if D 6 = true then nx (nx (nx (nx s))) else (nx (nx (nx s)))))) ⟨(But.refl _ _).drew, st5.hg⟩ ?_ ?_
        · simp only [Draw.puts, List.take_succ_cons, List.take_zero, if_true, Act.put, List.setIfInBounds_toArray, List.set_cons_zero, List.set_cons_succ, Nat.zero_add, Nat.reduceAdd, List.getD_cons_zero, List.getD_cons_succ]
          refine ⟨?_, ?_, ?_, ?_, ?_, ?_, ?_, trivial⟩
          all_goals rintro D γ u1 hD hpre ⟨hb, hs⟩
          all_goals refine .inl ⟨rfl, fun K hk => ?_⟩
          all_goals have hKu := kept_but hb st5.hg st5.hK (by decide)
          all_goals obtain ⟨w0, cnd, cpk, ctk, cp, cv⟩ := mixCells hC hKu
          all_goals go_simp
          all_goals first
            | exact hk γ u1 (fun _ _ => rfl) ⟨hb, by simpa [Draw.upd] using hs⟩
            | (rw [hD] at hs
               refine (tell_src g (nx (nx (nx s))) _ _ hl6.1 (by omega) hs).mono ?_
               rintro e u2 ⟨rfl, hg2, hb2⟩
               exact hk γ u2 (fun _ _ => rfl) ⟨hb.trans hb2, by simpa [Draw.upd] using hg2⟩)
        · simp only [Draw.puts, List.take_succ_cons, List.take_zero, List.drop_succ_cons, if_true, Act.put, List.setIfInBounds_toArray, List.set_cons_zero, List.set_cons_succ, Nat.zero_add, Nat.reduceAdd, List.getD_cons_zero, List.getD_cons_succ]
          rintro γ W6 ⟨hb, hs⟩
          have hg6 : W6.heap[g]? = some (src (nx (nx (nx (nx s))))) := by simpa using hs
          have st6 := st5.tell hg6 hb
          have hd := dr_range (nx (nx (nx s))) M.V.length hl6.1
          have ht : W6.cell? ⟨bV, oV + (dr (nx (nx (nx s))) M.V.length).toNat, none⟩ = some (.string (pick M.V (nx (nx (nx s))))) := (hv.but hg st6.hB).cell (i := (dr (nx (nx (nx s))) M.V.length).toNat) (by omega)
          clear hs hb
          have st7 := st6.set 5 (.string (pick M.V (nx (nx (nx s)))))
          obtain ⟨c0, c1, c3, c4, c5, c6, f1, f3, f4, f5, f6⟩ := cell7 st6.h5
          obtain ⟨w0, cnd, cpk, ctk, cp, cv⟩ := mixCells hC st6.hK
          have h5f : (W6.setCell ⟨bx, 5, none⟩ (.string (pick M.V (nx (nx (nx s)))))).heap[bx]? = some (.cells #[.int .u8 1, .int .i64 (dr (nx s) M.nd), .int .i64 0, .int .i64 0, .string (pick M.P (nx (nx s))), .string (pick M.V (nx (nx (nx s)))), .slice none 0 0] 35) := st7.h5
          have h4f := st7.h4
          have hzf : (Try.prog.info? 35).map (·.size) = some (#[.int .u8 1, .int .i64 (dr (nx s) M.nd), .int .i64 0, .int .i64 0, .string (pick M.P (nx (nx s))), .string (pick M.V (nx (nx (nx s)))), .slice none 0 0] : Array Value).size := size35
          go_wp2_with (first | (with_reducible refine wpList_load_row rfl 35 _ rfl bx ?_ 35 (#[.int .u8 1, .int .i64 (dr (nx s) M.nd), .int .i64 0, .int .i64 0, .string (pick M.P (nx (nx s))), .string (pick M.V (nx (nx (nx s)))), .slice none 0 0]) (0, 0) _ h5f Try.underlying35 rfl hzf ?_; rotate_left) | (with_reducible refine wpList_store_row rfl 35 _ _ rfl (w.heap.size + 1) (#[.int .u8 1, .int .i64 (dr (nx s) M.nd), .int .i64 0, .int .i64 0, .string (pick M.P (nx (nx s))), .string (pick M.V (nx (nx (nx s)))), .slice none 0 0]) ?_ ?_ 35 _ h4f hzf ?_ ?_ ?_; rotate_left; rotate_left; rotate_left; rotate_left))
          · refine bodyPost_ret (v := .agg #[.int .u8 1, .int .i64 (dr (nx s) M.nd), .int .i64 0, .int .i64 0, .string (pick M.P (nx (nx s))), .string (pick M.V (nx (nx (nx s)))), .slice none 0 0]) (results_cell_row rfl _ _ (w.heap.size + 1) 35 _ (0, 0) _ rfl (setRow_heap _ _ _ _ _ _ h4f) Try.underlying35 rfl hzf) rfl ?_
            exact ⟨.slice none 0 0, by first | (rw [hact.1]; rfl) | rfl, by rw [hact.1]; exact ⟨rfl, .inl ⟨rfl, rfl⟩⟩, by first | (rw [hact.2]; exact (st7.done _).1) | exact (st7.done _).1, (st7.done _).2⟩
          all_goals first | exact rfl | simp [Value.oneCell']
    obtain rfl : k = 15 := by omega
    have hact := act_crash hkd rfl
    obtain ⟨c0, c1, c3, c4, c5, c6, f1, f3, f4, f5, f6⟩ := cell7 st2.h5
    obtain ⟨w0, cnd, cpk, ctk, cp, cv⟩ := mixCells hC st2.hK
    go_wp2_with fail
    refine (tell_src g _ _ _ (by decide) (by decide) st3.hg).mono ?_
    rintro e W4 ⟨rfl, hg4, hb4⟩
    have hd := dr_range (nx (nx s)) 5 (by decide)
    have st4 := st3.tell hg4 hb4
    clear c0 c1 c3 c4 c5 c6 f1 f3 f4 f5 f6 w0 cnd cpk ctk cp cv
    obtain ⟨c0, c1, c3, c4, c5, c6, f1, f3, f4, f5, f6⟩ := cell7 st4.h5
    obtain ⟨w0, cnd, cpk, ctk, cp, cv⟩ := mixCells hC st4.hK
    go_wp2_with fail
    clear c0 c1 c3 c4 c5 c6 f1 f3 f4 f5 f6 w0 cnd cpk ctk cp cv
    generalize hcn : dr (nx (nx s)) 5 = c at hd hact ⊢
    go_loopw [81] (fun i wr => ∃ (k : Nat) (ks : Value), (k : Int) ≤ c ∧ i = .int .i64 k ∧ St w g bx C wr (nxi (nx (nx (nx s))) k) #[.int .u8 15, .int .i64 (dr (nx s) M.nd), .int .i64 0, .int .i64 0, .string ⟨#[]⟩, .string ⟨#[]⟩, ks] ∧ wr.ownsRow w.heap.size 3 1 ks k ((keeps (nx (nx (nx s))) k).map (.int .i64 ·))) (fun i _ => c.toNat - (intOf i).toNat)
    case atStart => exact ⟨0, .slice none 0 0, by omega, rfl, st4, World.ownsRow_nil _ _ _ _⟩
    case round =>
      clear st4 st3 st2 st1
      obtain ⟨k, ks, hk, rfl, st5, hown⟩ := hrel
      by_cases hlt : (k : Int) < c
      · go_wp2_with fail
        refine Draw.wp_region_ghosts mixed 5 6 (by kernel_rfl) () (fun _ i => ([.pointer (some ⟨bx, 6, none⟩), ks, .func (.func 16) #[.pointer (some ⟨g, 0, none⟩)] #[], .int .i64 (dr (nxi (nx (nx (nx s))) k) 3), .slice (some ⟨wr.heap.size, 0, none⟩) 1 1] : List Value).getD i undef)
          _ (fun _ => rfl) (fun D _ w' => But g wr w' ∧ w'.heap[g]? = some (src (if D 3 = true then nx (nxi (nx (nx (nx s))) k) else nxi (nx (nx (nx s))) k)) ∧ w'.heap.size = wr.heap.size + (if D 4 = true then 1 else 0) ∧ (D 4 = true → w'.heap[wr.heap.size]? = some (.cells #[.int .i64 (dr (nxi (nx (nx (nx s))) k) 3)] 3)))
          ⟨(But.refl _ _).drew, st5.hg, rfl, fun h => absurd h Bool.false_ne_true⟩ ?_ ?_
        · simp only [Draw.puts, List.take_succ_cons, List.take_zero, if_true, Act.put, List.setIfInBounds_toArray, List.set_cons_zero, List.set_cons_succ, Nat.zero_add, Nat.reduceAdd, List.getD_cons_zero, List.getD_cons_succ]
          refine ⟨?_, ?_, ?_, ?_, ?_, trivial⟩
          all_goals rintro D γ u1 hD hpre ⟨hb, hs, hz, hx⟩
          all_goals refine .inl ⟨rfl, fun K hk => ?_⟩
          all_goals obtain ⟨c0, c1, c3, c4, c5, c6, f1, f3, f4, f5, f6⟩ := cell7 (kept_but hb st5.hg st5.h5 (by decide))
          all_goals replace hz := hide hz
          all_goals go_simp
          all_goals first
            | exact hk γ u1 (fun _ _ => rfl) ⟨hb, by simpa [Draw.upd] using hs, by simpa [Draw.upd] using hz.out, by simpa [Draw.upd] using hx⟩
            | (rw [hD] at hs
               refine (tell_srcS g (nxi (nx (nx (nx s))) k) 3 _ (by decide) (by decide) hs).mono ?_
               rintro e u2 ⟨rfl, hg2, hb2, hz2⟩
               exact hk γ u2 (fun _ _ => rfl) ⟨hb.trans hb2, by simpa [Draw.upd] using hg2, by rw [hz2, hz.out]; simp [Draw.upd], fun h => kept_but hb2 hs (hx (by simpa [Draw.upd] using h)) (by decide)⟩)
            | (have hz0 := hz.out
               rw [hD] at hz0
               have hz' : u1.heap.size = wr.heap.size := by simpa using hz0
               have hn := new_alloc (w := u1) (o := .cells #[.int .i64 (dr (nxi (nx (nx (nx s))) k) 3)] 3)
               rw [hz'] at hn ⊢
               exact hk γ _ (fun _ _ => rfl) ⟨hb.alloc _, by simpa [Draw.upd] using old_alloc hs, by simp [Draw.upd, hz'], fun _ => hn⟩)
        · simp only [Draw.puts, List.take_succ_cons, List.take_zero, List.drop_succ_cons, if_true, Act.put, List.setIfInBounds_toArray, List.set_cons_zero, List.set_cons_succ, Nat.zero_add, Nat.reduceAdd, List.getD_cons_zero, List.getD_cons_succ]
          rintro γ W6 ⟨hb, hs, hz, hx⟩
          have hx6 := hx (by decide)
          have hg6 : W6.heap[g]? = some (src (nxi (nx (nx (nx s))) (k + 1))) := by simpa [nxi] using hs
          have st6 := st5.tell hg6 hb
          have hown6 := own_but hown st5.hg hb (by decide)
          have hsz6 := hb.size
          have hB0 := st5.hB.size
          clear hs hz hx hb
          obtain ⟨i0, hi, hz0, hz1, hz2⟩ := info3
          have hw6 := st6.hB.size
          refine wpList_append_own W6 rfl _ _ 33 rfl w.heap.size 3 i0 (.int .i64 0) 1 8 Try.underlying33 hi hz0 hz1 hz2 rfl (by decide) ks k _ rfl hown6 ⟨wr.heap.size, 0, none⟩ 1 1 [.int .i64 (dr (nxi (nx (nx (nx s))) k) 3)] rfl rfl ?c1 ?c2 ?c3 ?c4 hw6 ?_
          case c1 =>
            intro j u hj
            rcases j with _ | j
            · simp at hj; subst hj; exact (cells1 hx6).1
            · simp at hj
          case c2 => intro u hu; simp at hu; subst hu; rfl
          case c3 => unfold maxLen; omega
          case c4 => omega
          intro v' W7 hown7 hgrow hnil
          obtain ⟨a7, n7, c7, rfl⟩ := own_slice hown7
          have st7 := st6.grown hown6 hgrow
          have st8 := st7.set 6 (.slice a7 n7 c7)
          have hown8 := own_set hown7 st7.h5 (by decide) 6 (.slice a7 n7 c7)
          obtain ⟨c0, c1, c3, c4, c5, c6, f1, f3, f4, f5, f6⟩ := cell7 st7.h5
          obtain ⟨w0, cnd, cpk, ctk, cp, cv⟩ := mixCells hC st7.hK
          clear st5 hown hnil hgrow
          go_wp2_with fail
          go_roundw
          case rel =>
            refine ⟨k + 1, .slice a7 n7 c7, by omega, by go_num, st8, ?_⟩
            rw [keeps_succ, List.map_append]
            exact hown8
          case measure => simp [intOf]; omega
      · obtain rfl : c = k := by omega
        have e15 : (k : Int).toNat = k := by omega
        obtain ⟨a5, n5, c5', rfl⟩ := own_slice hown
        rw [e15] at hact
        obtain ⟨c0, c1, c3, c4, c5, c6, f1, f3, f4, f5, f6⟩ := cell7 st5.h5
        obtain ⟨w0, cnd, cpk, ctk, cp, cv⟩ := mixCells hC st5.hK

        have h5f : (wr).heap[bx]? = some (.cells #[.int .u8 15, .int .i64 (dr (nx s) M.nd), .int .i64 0, .int .i64 0, .string ⟨#[]⟩, .string ⟨#[]⟩, .slice a5 n5 c5'] 35) := st5.h5
        have h4f := st5.h4
        have hzf : (Try.prog.info? 35).map (·.size) = some (#[.int .u8 15, .int .i64 (dr (nx s) M.nd), .int .i64 0, .int .i64 0, .string ⟨#[]⟩, .string ⟨#[]⟩, .slice a5 n5 c5'] : Array Value).size := size35
        go_wp2_with (first | (with_reducible refine wpList_load_row rfl 35 _ rfl bx ?_ 35 (#[.int .u8 15, .int .i64 (dr (nx s) M.nd), .int .i64 0, .int .i64 0, .string ⟨#[]⟩, .string ⟨#[]⟩, .slice a5 n5 c5']) (0, 0) _ h5f Try.underlying35 rfl hzf ?_; rotate_left) | (with_reducible refine wpList_store_row rfl 35 _ _ rfl (w.heap.size + 1) (#[.int .u8 15, .int .i64 (dr (nx s) M.nd), .int .i64 0, .int .i64 0, .string ⟨#[]⟩, .string ⟨#[]⟩, .slice a5 n5 c5']) ?_ ?_ 35 _ h4f hzf ?_ ?_ ?_; rotate_left; rotate_left; rotate_left; rotate_left))
        · refine bodyPost_ret (v := .agg #[.int .u8 15, .int .i64 (dr (nx s) M.nd), .int .i64 0, .int .i64 0, .string ⟨#[]⟩, .string ⟨#[]⟩, .slice a5 n5 c5']) (results_cell_row rfl _ _ (w.heap.size + 1) 35 _ (0, 0) _ rfl (setRow_heap _ _ _ _ _ _ h4f) Try.underlying35 rfl hzf) rfl ?_
          exact ⟨.slice a5 n5 c5', by first | (rw [hact.1]; rfl) | rfl, by first | (rw [hact.1]; simp only [keeps_length]; exact own_row hown h4f (by decide) _) | (simp only [keeps_length]; exact own_row hown h4f (by decide) _), by first | (rw [hact.2]; exact (st5.done _).1) | exact (st5.done _).1, (st5.done _).2⟩
        all_goals first | exact rfl | simp [Value.oneCell']


end Go.Proofs.Ytgjdkdfgfbonfaa
