/- ScriptKnown: the chapter's examples, and mixes that are not right. Conditions: none. -/
import Derived.Test.YtgjdkdfgfbonfaaKn1
import Derived.Test.YtgjdkdfgfbonfaaDraw
import Derived.Test.YtgjdkdfgfbonfaaM3
namespace Go.Proofs.Ytgjdkdfgfbonfaa
open Go.RowKit

set_option maxRecDepth 100000 in
set_option maxHeartbeats 8000000 in
theorem law5_any (w : World) : Calls Try.prog 5 #[] w fun e w' => e = .returned (.bool true) ∧ Below w.heap.size w w' := by
  have t0 : tl (nx 0) = 335903614 := by decide +kernel
  have t1 : tl (nx 1) = 1817669548 := by decide +kernel
  have n0 : nx 0 = 1442695040888963407 := by decide +kernel
  have n01 : nxi 0 1 = 1442695040888963407 := by decide +kernel
  have d1 : dr 1 10 = 4 := by decide +kernel
  have d0 : dr 0 100 = 7 := by decide +kernel
  have h1 : ((w.alloc (.cells #[.int .u64 0] 30)).alloc (.cells #[.int .u64 1] 30)).heap[w.heap.size]? = some (src 0) := old_alloc new_alloc
  have h2 : ((w.alloc (.cells #[.int .u64 0] 30)).alloc (.cells #[.int .u64 1] 30)).heap[w.heap.size + 1]? = some (src 1) := by
    have h := new_alloc (w := w.alloc (.cells #[.int .u64 0] 30)) (o := (.cells #[.int .u64 1] 30))
    rw [World.size_alloc] at h
    exact h
  have gb : Below w.heap.size w ((w.alloc (.cells #[.int .u64 0] 30)).alloc (.cells #[.int .u64 1] 30)) := ((Below.refl _ _).alloc (Nat.le_refl _) _).alloc (by simp) _
  replace t0 := hide t0
  replace t1 := hide t1
  replace n0 := hide n0
  replace n01 := hide n01
  replace d1 := hide d1
  replace d0 := hide d0
  go_enter Try.func5, Try.ntmps5
  go_wp2_with fail
  generalize ((w.alloc (.cells #[.int .u64 0] 30)).alloc (.cells #[.int .u64 1] 30)) = W1 at h1 h2 gb ⊢
  refine (next_any _ _ _ _ (cells1 h1).1 (cells1 h1).2).mono ?_
  rintro e W2 ⟨rfl, hW2⟩
  rw [t0.out]
  rw [n0.out] at hW2
  have k1 : W2.heap[w.heap.size]? = some (src 1442695040888963407) := by rw [← hW2]; simpa using set_at (j := 0) (u := .int .u64 1442695040888963407) h1
  have k2 : W2.heap[w.heap.size + 1]? = some (src 1) := by rw [← hW2]; exact set_ne (by omega) h2
  have gb2 : Below w.heap.size w W2 := by rw [← hW2]; exact gb.setCell (Nat.le_refl _) _
  clear hW2 h1 h2 gb
  go_wp2_with fail
  refine (next_any _ _ _ _ (cells1 k2).1 (cells1 k2).2).mono ?_
  rintro e W3 ⟨rfl, hW3⟩
  rw [t1.out]
  have h1 : W3.heap[w.heap.size]? = some (src 1442695040888963407) := by rw [← hW3]; exact set_ne (show w.heap.size ≠ w.heap.size + 1 by omega) k1
  have gb : Below w.heap.size w W3 := by rw [← hW3]; exact gb2.setCell (show w.heap.size ≤ w.heap.size + 1 by omega) _
  clear hW3 k1 k2 gb2
  have hc : (W3.alloc (.cells #[.int .u64 1] 30)).heap[W3.heap.size]? = some (src 1) := new_alloc
  have hcb : Below W3.heap.size W3 (W3.alloc (.cells #[.int .u64 1] 30)) := (Below.refl _ _).alloc (Nat.le_refl _) _
  go_wp2_with fail
  refine (tell_src W3.heap.size 1 10 _ (by decide) (by decide) hc).mono ?_
  rintro e W4 ⟨rfl, _, hb4⟩
  rw [d1.out]
  replace hcb := hcb.trans (hb4.toBelow hcb.size (Nat.le_refl _))
  replace h1 := kept hcb h1
  replace gb := below_of hcb gb
  clear hc hcb hb4
  have he : (W4.alloc (.cells #[.int .u64 0] 30)).heap[W4.heap.size]? = some (src 0) := new_alloc
  have heb : Below W4.heap.size W4 (W4.alloc (.cells #[.int .u64 0] 30)) := (Below.refl _ _).alloc (Nat.le_refl _) _
  go_wp2_with fail
  refine (tell_src W4.heap.size 0 100 _ (by decide) (by decide) he).mono ?_
  rintro e W5 ⟨rfl, h2, hb5⟩
  rw [d0.out]
  rw [n0.out] at h2
  replace heb := heb.trans (hb5.toBelow heb.size (Nat.le_refl _))
  replace h1 := kept heb h1
  replace gb := below_of heb gb
  clear he heb hb5
  obtain ⟨ge, hge⟩ : ∃ ge, W4.heap.size = ge := ⟨_, rfl⟩
  rw [hge] at h2 ⊢
  clear hge
  obtain ⟨c0, f0⟩ := cells1 h2
  have h3 : (W5.alloc (.cells #[.int .u64 1442695040888963407] 30)).heap[W5.heap.size]? = some (src 1442695040888963407) := new_alloc
  have hgb : Below W5.heap.size W5 (W5.alloc (.cells #[.int .u64 1442695040888963407] 30)) := (Below.refl _ _).alloc (Nat.le_refl _) _
  replace h1 := kept hgb h1
  replace h2 := kept hgb h2
  replace gb := below_of hgb gb
  clear hgb
  go_wp2_with fail
  clear c0 f0
  refine (tell_out W5.heap.size 0 0 _ (.inl (by decide))).mono ?_
  rintro e u1 ⟨rfl, rfl⟩
  go_wp2_with fail
  refine (tell_out W5.heap.size 0 (-1) _ (.inl (by decide))).mono ?_
  rintro e u1 ⟨rfl, rfl⟩
  go_wp2_with fail
  refine (tell_out W5.heap.size 0 2147483649 _ (.inr (by decide))).mono ?_
  rintro e u1 ⟨rfl, rfl⟩
  generalize (W5.alloc (.cells #[.int .u64 1442695040888963407] 30)) = W6 at h1 h2 h3 gb ⊢
  obtain ⟨gg, hgg⟩ : ∃ gg, W5.heap.size = gg := ⟨_, rfl⟩
  rw [hgg] at h3 ⊢
  clear hgg t0 t1 n0 d1 d0
  replace n01 := n01.out
  go_wp2_with fail
  refine Draw.wp_region_pure mixed 47 8 (by kernel_rfl) [.int .u32 335903614, .bool true, .bool true, .int .u64 1442695040888963407, .bool true, .bool true, .bool true, .int .u32 1817669548, .bool true, .bool true, .bool true, .int .i64 4, .bool true, .bool true, .bool true, .int .i64 7, .bool true, .bool true, .bool true, .int .i64 0, .bool true, .bool true, .bool true, .int .u64 1442695040888963407, .int .u64 1442695040888963407, .bool true, .bool true, .bool true, .pointer none, .int .u32 0, .bool true, .bool true, .bool true, .pointer none, .int .i64 0, .bool true, .bool true, .bool true, .int .u64 0, .bool true, .bool true, .bool true, .int .u64 1442695040888963407, .int .u64 1442695040888963407, .bool true, .bool true, .bool true] _ rfl ?_ ?_
  · simp only [Draw.puts, List.take_succ_cons, List.take_zero, if_true, Act.put, List.setIfInBounds_toArray, List.set_cons_zero, List.set_cons_succ, Nat.zero_add, Nat.reduceAdd, List.getD_cons_zero, List.getD_cons_succ]
    refine ⟨?_, ?_, ?_, ?_, ?_, ?_, ?_, ?_, ?_, ?_, ?_, ?_, ?_, ?_, ?_, ?_, ?_, ?_, ?_, ?_, ?_, ?_, ?_, ?_, ?_, ?_, ?_, ?_, ?_, ?_, ?_, ?_, ?_, ?_, ?_, ?_, ?_, ?_, ?_, ?_, ?_, ?_, ?_, ?_, ?_, ?_, ?_, trivial⟩
    all_goals refine fun w9 hb9 => .inl ⟨rfl, fun K hk => ?_⟩
    · go_simp
      exact hk w9 (Below.refl _ _)
    · go_simp
      exact hk w9 (Below.refl _ _)
    · go_simp
      exact hk w9 (Below.refl _ _)
    · obtain ⟨c0, f0⟩ := cells1 (kept hb9 h1)
      go_simp
      exact hk w9 (Below.refl _ _)
    · go_simp
      exact hk w9 (Below.refl _ _)
    · go_simp
      exact hk w9 (Below.refl _ _)
    · go_simp
      exact hk w9 (Below.refl _ _)
    · go_simp
      exact hk w9 (Below.refl _ _)
    · go_simp
      exact hk w9 (Below.refl _ _)
    · go_simp
      exact hk w9 (Below.refl _ _)
    · go_simp
      exact hk w9 (Below.refl _ _)
    · go_simp
      exact hk w9 (Below.refl _ _)
    · go_simp
      exact hk w9 (Below.refl _ _)
    · go_simp
      exact hk w9 (Below.refl _ _)
    · go_simp
      exact hk w9 (Below.refl _ _)
    · go_simp
      exact hk w9 (Below.refl _ _)
    · go_simp
      exact hk w9 (Below.refl _ _)
    · go_simp
      exact hk w9 (Below.refl _ _)
    · go_simp
      exact hk w9 (Below.refl _ _)
    · go_simp
      exact hk w9 (Below.refl _ _)
    · go_simp
      exact hk w9 (Below.refl _ _)
    · go_simp
      exact hk w9 (Below.refl _ _)
    · go_simp
      exact hk w9 (Below.refl _ _)
    · obtain ⟨c0, f0⟩ := cells1 (kept hb9 h3)
      go_simp
      exact hk w9 (Below.refl _ _)
    · obtain ⟨c0, f0⟩ := cells1 (kept hb9 h2)
      go_simp
      exact hk w9 (Below.refl _ _)
    · go_simp
      exact hk w9 (Below.refl _ _)
    · go_simp
      exact hk w9 (Below.refl _ _)
    · go_simp
      exact hk w9 (Below.refl _ _)
    · go_simp
      exact hk w9 (Below.refl _ _)
    · go_simp
      refine (next_nil _).mono ?_
      rintro e w10 ⟨rfl, rfl⟩
      exact hk _ (Below.refl _ _)
    · go_simp
      exact hk w9 (Below.refl _ _)
    · go_simp
      exact hk w9 (Below.refl _ _)
    · go_simp
      exact hk w9 (Below.refl _ _)
    · go_simp
      exact hk w9 (Below.refl _ _)
    · go_simp
      refine (tell_nil 9 _).mono ?_
      rintro e w10 ⟨rfl, rfl⟩
      exact hk _ (Below.refl _ _)
    · go_simp
      exact hk w9 (Below.refl _ _)
    · go_simp
      exact hk w9 (Below.refl _ _)
    · go_simp
      exact hk w9 (Below.refl _ _)
    · go_simp
      refine (ahead_any 0 0 (by decide) (by decide) (by decide) _).mono ?_
      rintro e w10 ⟨rfl, hb10⟩
      exact hk w10 hb10
    · go_simp
      exact hk w9 (Below.refl _ _)
    · go_simp
      exact hk w9 (Below.refl _ _)
    · go_simp
      exact hk w9 (Below.refl _ _)
    · go_simp
      refine (ahead_any 0 1 (by decide) (by decide) (by decide) _).mono ?_
      rintro e w10 ⟨rfl, hb10⟩
      rw [n01]
      exact hk w10 hb10
    · obtain ⟨c0, f0⟩ := cells1 (kept hb9 h1)
      go_simp
      exact hk w9 (Below.refl _ _)
    · go_simp
      exact hk w9 (Below.refl _ _)
    · go_simp
      exact hk w9 (Below.refl _ _)
    · go_simp
      exact hk w9 (Below.refl _ _)
  · simp only [Draw.puts, List.take_succ_cons, List.take_zero, List.drop_succ_cons, List.drop_nil, if_true, Act.put, List.setIfInBounds_toArray, List.set_cons_zero, List.set_cons_succ, Nat.zero_add, Nat.reduceAdd, List.getD_cons_zero, List.getD_cons_succ]
    intro w9 hb9
    replace gb := below_of hb9 gb
    clear hb9 h1 h2 h3
    have hp0 : (((w9.alloc (.cells #[.string ⟨#[]⟩] 9)).alloc (.cells #[.string ⟨#[]⟩] 9)).alloc (.cells kz 25)).heap[w9.heap.size]? = some (.cells #[.string ⟨#[]⟩] 9) := old_alloc (old_alloc new_alloc)
    have hv0 : (((w9.alloc (.cells #[.string ⟨#[]⟩] 9)).alloc (.cells #[.string ⟨#[]⟩] 9)).alloc (.cells kz 25)).heap[w9.heap.size + 1]? = some (.cells #[.string ⟨#[]⟩] 9) := by
      have h := new_alloc (w := w9.alloc (.cells #[.string ⟨#[]⟩] 9)) (o := (.cells #[.string ⟨#[]⟩] 9))
      rw [World.size_alloc] at h
      exact old_alloc h
    have hmz : (((w9.alloc (.cells #[.string ⟨#[]⟩] 9)).alloc (.cells #[.string ⟨#[]⟩] 9)).alloc (.cells kz 25)).heap[w9.heap.size + 2]? = some (.cells kz 25) := by
      have h := new_alloc (w := (w9.alloc (.cells #[.string ⟨#[]⟩] 9)).alloc (.cells #[.string ⟨#[]⟩] 9)) (o := .cells kz 25)
      rw [World.size_alloc, World.size_alloc] at h
      exact h
    have hb13 : Below w9.heap.size w9 (((w9.alloc (.cells #[.string ⟨#[]⟩] 9)).alloc (.cells #[.string ⟨#[]⟩] 9)).alloc (.cells kz 25)) := (((Below.refl _ _).alloc (Nat.le_refl _) _).alloc (by simp) _).alloc (by simp; omega) _
    have hbu := built25 (some ⟨w9.heap.size, 0, none⟩) (some ⟨w9.heap.size + 1, 0, none⟩) 1 1 1 1
    have hko := kc0_one (some ⟨w9.heap.size, 0, none⟩) (some ⟨w9.heap.size + 1, 0, none⟩) 1 1 1 1
    have hkz : (Try.prog.info? 25).map (·.size) = some (kc0 (.slice (some ⟨w9.heap.size, 0, none⟩) 1 1) (.slice (some ⟨w9.heap.size + 1, 0, none⟩) 1 1)).size := size25
    have hkzz : kz.size = (kc0 (.slice (some ⟨w9.heap.size, 0, none⟩) 1 1) (.slice (some ⟨w9.heap.size + 1, 0, none⟩) 1 1)).size := rfl
    have hm0 := setRow_heap _ (w9.heap.size + 2) _ (kc0 (.slice (some ⟨w9.heap.size, 0, none⟩) 1 1) (.slice (some ⟨w9.heap.size + 1, 0, none⟩) 1 1)) _ _ hmz
    replace hp0 := (setRow_other _ (w9.heap.size + 2) w9.heap.size (kc0 (.slice (some ⟨w9.heap.size, 0, none⟩) 1 1) (.slice (some ⟨w9.heap.size + 1, 0, none⟩) 1 1)) (by omega)).trans hp0
    replace hv0 := (setRow_other _ (w9.heap.size + 2) (w9.heap.size + 1) (kc0 (.slice (some ⟨w9.heap.size, 0, none⟩) 1 1) (.slice (some ⟨w9.heap.size + 1, 0, none⟩) 1 1)) (by omega)).trans hv0
    replace hb13 := below_row hb13 (show w9.heap.size ≤ w9.heap.size + 2 by omega) (kc0 (.slice (some ⟨w9.heap.size, 0, none⟩) 1 1) (.slice (some ⟨w9.heap.size + 1, 0, none⟩) 1 1))
    obtain ⟨W13, hW13⟩ : ∃ W, World.setRow (((w9.alloc (.cells #[.string ⟨#[]⟩] 9)).alloc (.cells #[.string ⟨#[]⟩] 9)).alloc (.cells kz 25)) (w9.heap.size + 2) (kc0 (.slice (some ⟨w9.heap.size, 0, none⟩) 1 1) (.slice (some ⟨w9.heap.size + 1, 0, none⟩) 1 1)) = W := ⟨_, rfl⟩
    rw [hW13] at hp0 hv0 hm0 hb13
    have hm1 := set_at (j := 11) (u := .int .i64 2) hm0
    have hm2 := set_at (j := 16) (u := .int .i64 1) hm1
    have hp2 := set_ne (j := 16) (u := .int .i64 1) (show w9.heap.size ≠ w9.heap.size + 2 by omega) (set_ne (j := 11) (u := .int .i64 2) (show w9.heap.size ≠ w9.heap.size + 2 by omega) hp0)
    have hv2 := set_ne (j := 16) (u := .int .i64 1) (show w9.heap.size + 1 ≠ w9.heap.size + 2 by omega) (set_ne (j := 11) (u := .int .i64 2) (show w9.heap.size + 1 ≠ w9.heap.size + 2 by omega) hv0)
    have hb15 := (hb13.setCell (show w9.heap.size ≤ w9.heap.size + 2 by omega) (p := ⟨w9.heap.size + 2, 11, none⟩) (.int .i64 2)).setCell (show w9.heap.size ≤ w9.heap.size + 2 by omega) (p := ⟨w9.heap.size + 2, 16, none⟩) (.int .i64 1)
    have c11 : W13.cell? ⟨w9.heap.size + 2, 11, none⟩ = some (.int .i64 0) := (cell_of hm0 11).trans rfl
    have f11 : W13.frozen? ⟨w9.heap.size + 2, 11, none⟩ = false := free_of hm0 11
    have c16 : (W13.setCell ⟨w9.heap.size + 2, 11, none⟩ (.int .i64 2)).cell? ⟨w9.heap.size + 2, 16, none⟩ = some (.int .i64 0) := (cell_of hm1 16).trans rfl
    have f16 : (W13.setCell ⟨w9.heap.size + 2, 11, none⟩ (.int .i64 2)).frozen? ⟨w9.heap.size + 2, 16, none⟩ = false := free_of hm1 16
    have hK : ((W13.setCell ⟨w9.heap.size + 2, 11, none⟩ (.int .i64 2)).setCell ⟨w9.heap.size + 2, 16, none⟩ (.int .i64 1)).heap[w9.heap.size + 2]? = some (.cells (kc (.slice (some ⟨w9.heap.size, 0, none⟩) 1 1) (.slice (some ⟨w9.heap.size + 1, 0, none⟩) 1 1)) 25) := by rw [← kc_set]; exact hm2
    have hz : (Try.prog.info? 25).map (·.size) = some (kc (.slice (some ⟨w9.heap.size, 0, none⟩) 1 1) (.slice (some ⟨w9.heap.size + 1, 0, none⟩) 1 1)).size := size25
    clear hp0 hv0 hm0 hb13 hm1 hm2
    replace hp2 := hide hp2
    replace hv2 := hide hv2
    replace hbu := hide hbu
    replace hko := hide hko
    replace hkz := hide hkz
    replace hkzz := hide hkzz
    go_wp2_with (first | (with_reducible refine wpList_build_is rfl 25 _ rfl (kc0 (.slice (some ⟨w9.heap.size, 0, none⟩) 1 1) (.slice (some ⟨w9.heap.size + 1, 0, none⟩) 1 1)) ?_ ?_; rotate_left) | (with_reducible refine wpList_alloc_row rfl 25 rfl _ zero25 ?_) | (with_reducible refine wpList_store_row rfl 25 _ _ rfl (w9.heap.size + 2) (kc0 (.slice (some ⟨w9.heap.size, 0, none⟩) 1 1) (.slice (some ⟨w9.heap.size + 1, 0, none⟩) 1 1)) ?_ ?_ 25 _ hmz hkz.out hkzz.out hko.out ?_; rotate_left; rotate_left) | (with_reducible refine wpList_load_row rfl 25 _ rfl (w9.heap.size + 2) ?_ 25 (kc (.slice (some ⟨w9.heap.size, 0, none⟩) 1 1) (.slice (some ⟨w9.heap.size + 1, 0, none⟩) 1 1)) (0, 0) _ hK Try.underlying25 rfl hz ?_; rotate_left))
    all_goals try exact rfl
    all_goals try exact hbu.out
    clear c11 f11 c16 f16 hW13 hmz hbu hko hkz hkzz
    replace hp2 := hp2.out
    replace hv2 := hv2.out
    generalize ((W13.setCell ⟨w9.heap.size + 2, 11, none⟩ (.int .i64 2)).setCell ⟨w9.heap.size + 2, 16, none⟩ (.int .i64 1)) = W at hp2 hv2 hK hb15 ⊢
    have hP : TextsAt W (.slice (some ⟨w9.heap.size, 0, none⟩) 1 1) [⟨#[]⟩] := texts_at hp2 rfl rfl (by unfold maxLen; simp)
    have hV : TextsAt W (.slice (some ⟨w9.heap.size + 1, 0, none⟩) 1 1) [⟨#[]⟩] := texts_at hv2 rfl rfl (by unfold maxLen; simp)
    replace gb := below_of hb15 gb
    clear hp2 hv2 hb15
    obtain ⟨mm, hmm⟩ : ∃ mm, w9.heap.size + 2 = mm := ⟨_, rfl⟩
    rw [hmm] at hK ⊢
    clear hmm
    obtain ⟨p, hp⟩ : ∃ p : Value, (.slice (some ⟨w9.heap.size, 0, none⟩) 1 1) = p := ⟨_, rfl⟩
    obtain ⟨v, hv⟩ : ∃ v : Value, (.slice (some ⟨w9.heap.size + 1, 0, none⟩) 1 1) = v := ⟨_, rfl⟩
    have hbuilt : Try.prog.builtSlice 25 8 [(0, .agg (kc p v)), (1, .agg (kc p v)), (2, .agg (kc p v)), (3, .agg (kc p v)), (4, .agg (kc p v)), (5, .agg (kc p v)), (6, .agg (kc p v)), (7, .agg (kc p v))] = some (E0 p v) := by
      rw [← hp, ← hv]
      exact built8 _ _ _ _ _ _
    have hpo : p.oneCell' = true := by rw [← hp]; rfl
    have hvo : v.oneCell' = true := by rw [← hv]; rfl
    rw [hp] at hK hz hP ⊢
    rw [hv] at hK hz hV ⊢
    clear hp hv
    replace hbuilt := hide hbuilt
    replace hz := hide hz
    have hM : ∀ W', Below W.heap.size W W' → MixAt W' (kc p v) kM := fun W' hb => ⟨p, v, kc_isC p v, hP.below hb, hV.below hb⟩
    have hB : Below W.heap.size W W := Below.refl _ _
    refine (right_any (kc p v) kM _ (hM _ hB)).mono ?_
    rintro e W2 ⟨rfl, hb⟩
    rw [kM_right]
    replace hK := kept hb hK
    replace hB := below_of hb hB
    clear hb
    go_wp2_with (first | (with_reducible refine wpList_load_row_w ?_ 25 _ rfl mm ?_ 25 (kc p v) (0, 0) _ hK Try.underlying25 rfl hz.out ?_; rotate_left; rotate_left) | (with_reducible refine wpList_load_row rfl 25 _ rfl mm ?_ 25 (kc p v) (0, 0) _ hK Try.underlying25 rfl hz.out ?_; rotate_left))
    all_goals try exact rfl
    refine (kind_any (kc p v) kM 0 (by decide) _ (hM _ hB)).mono ?_
    rintro e W3 ⟨rfl, hb⟩
    rw [kM_0]
    replace hK := kept hb hK
    replace hB := below_of hb hB
    clear hb
    go_wp2_with (first | (with_reducible refine wpList_load_row_w ?_ 25 _ rfl mm ?_ 25 (kc p v) (0, 0) _ hK Try.underlying25 rfl hz.out ?_; rotate_left; rotate_left) | (with_reducible refine wpList_load_row rfl 25 _ rfl mm ?_ 25 (kc p v) (0, 0) _ hK Try.underlying25 rfl hz.out ?_; rotate_left))
    all_goals try exact rfl
    refine (kind_any (kc p v) kM 1 (by decide) _ (hM _ hB)).mono ?_
    rintro e W3 ⟨rfl, hb⟩
    rw [kM_1]
    replace hK := kept hb hK
    replace hB := below_of hb hB
    clear hb
    go_wp2_with (first | (with_reducible refine wpList_load_row_w ?_ 25 _ rfl mm ?_ 25 (kc p v) (0, 0) _ hK Try.underlying25 rfl hz.out ?_; rotate_left; rotate_left) | (with_reducible refine wpList_load_row rfl 25 _ rfl mm ?_ 25 (kc p v) (0, 0) _ hK Try.underlying25 rfl hz.out ?_; rotate_left))
    all_goals try exact rfl
    refine (kind_any (kc p v) kM 2 (by decide) _ (hM _ hB)).mono ?_
    rintro e W3 ⟨rfl, hb⟩
    rw [kM_2]
    replace hK := kept hb hK
    replace hB := below_of hb hB
    clear hb
    go_wp2_with (first | (with_reducible refine wpList_load_row_w ?_ 25 _ rfl mm ?_ 25 (kc p v) (0, 0) _ hK Try.underlying25 rfl hz.out ?_; rotate_left; rotate_left) | (with_reducible refine wpList_load_row rfl 25 _ rfl mm ?_ 25 (kc p v) (0, 0) _ hK Try.underlying25 rfl hz.out ?_; rotate_left))
    all_goals try exact rfl
    refine (kind_any (kc p v) kM 3 (by decide) _ (hM _ hB)).mono ?_
    rintro e W3 ⟨rfl, hb⟩
    rw [kM_3]
    replace hK := kept hb hK
    replace hB := below_of hb hB
    clear hb
    go_wp2_with (first | (with_reducible refine wpList_load_row_w ?_ 25 _ rfl mm ?_ 25 (kc p v) (0, 0) _ hK Try.underlying25 rfl hz.out ?_; rotate_left; rotate_left) | (with_reducible refine wpList_load_row rfl 25 _ rfl mm ?_ 25 (kc p v) (0, 0) _ hK Try.underlying25 rfl hz.out ?_; rotate_left))
    all_goals try exact rfl
    refine (kind_any (kc p v) kM (-1) (by decide) _ (hM _ hB)).mono ?_
    rintro e W3 ⟨rfl, hb⟩
    rw [kM_m]
    replace hK := kept hb hK
    replace hB := below_of hb hB
    clear hb
    have g0 : (W3.alloc (.cells (E0 p v) 25)).heap[W3.heap.size]? = some (.cells (E0 p v) 25) := new_alloc
    have g1 := setRow_heap _ W3.heap.size _ (E1 p v) _ _ g0
    have b1 : Below W3.heap.size W3 ((W3.alloc (.cells (E0 p v) 25)).setRow W3.heap.size (E1 p v)) := below_row ((Below.refl _ _).alloc (Nat.le_refl _) _) (Nat.le_refl _) _
    obtain ⟨X1, hX1⟩ : ∃ X, (W3.alloc (.cells (E0 p v) 25)).setRow W3.heap.size (E1 p v) = X := ⟨_, rfl⟩
    rw [hX1] at g1 b1
    have c1 : X1.cell? ⟨W3.heap.size, 23, none⟩ = some (.int .i64 0) := (cell_of g1 23).trans (e1_at p v)
    have f1 : X1.frozen? ⟨W3.heap.size, 23, none⟩ = false := free_of g1 23
    have g2 : (X1.setCell ⟨W3.heap.size, 23, none⟩ (.int .i64 1)).heap[W3.heap.size]? = some (.cells (E2 p v) 25) := set_at g1
    have b2 := b1.setCell (Nat.le_refl W3.heap.size) (p := ⟨W3.heap.size, 23, none⟩) (.int .i64 1)
    obtain ⟨X2, hX2⟩ : ∃ X, X1.setCell ⟨W3.heap.size, 23, none⟩ (.int .i64 1) = X := ⟨_, rfl⟩
    rw [hX2] at g2 b2
    have c2 : X2.cell? ⟨W3.heap.size, 49, none⟩ = some (.int .i64 0) := (cell_of g2 49).trans (e2_at p v)
    have f2 : X2.frozen? ⟨W3.heap.size, 49, none⟩ = false := free_of g2 49
    have g3 : (X2.setCell ⟨W3.heap.size, 49, none⟩ (.int .i64 1001)).heap[W3.heap.size]? = some (.cells (E3 p v) 25) := set_at g2
    have b3 := b2.setCell (Nat.le_refl W3.heap.size) (p := ⟨W3.heap.size, 49, none⟩) (.int .i64 1001)
    obtain ⟨X3, hX3⟩ : ∃ X, X2.setCell ⟨W3.heap.size, 49, none⟩ (.int .i64 1001) = X := ⟨_, rfl⟩
    rw [hX3] at g3 b3
    have c3 : X3.cell? ⟨W3.heap.size, 72, none⟩ = some (.int .i64 0) := (cell_of g3 72).trans (e3_at p v)
    have f3 : X3.frozen? ⟨W3.heap.size, 72, none⟩ = false := free_of g3 72
    have g4 : (X3.setCell ⟨W3.heap.size, 72, none⟩ (.int .i64 (-1))).heap[W3.heap.size]? = some (.cells (E4 p v) 25) := set_at g3
    have b4 := b3.setCell (Nat.le_refl W3.heap.size) (p := ⟨W3.heap.size, 72, none⟩) (.int .i64 (-1))
    obtain ⟨X4, hX4⟩ : ∃ X, X3.setCell ⟨W3.heap.size, 72, none⟩ (.int .i64 (-1)) = X := ⟨_, rfl⟩
    rw [hX4] at g4 b4
    have c4 : X4.cell? ⟨W3.heap.size, 110, none⟩ = some (.int .i64 1) := (cell_of g4 110).trans (e4_at p v)
    have f4 : X4.frozen? ⟨W3.heap.size, 110, none⟩ = false := free_of g4 110
    have g5 : (X4.setCell ⟨W3.heap.size, 110, none⟩ (.int .i64 0)).heap[W3.heap.size]? = some (.cells (E5 p v) 25) := set_at g4
    have b5 := b4.setCell (Nat.le_refl W3.heap.size) (p := ⟨W3.heap.size, 110, none⟩) (.int .i64 0)
    obtain ⟨X5, hX5⟩ : ∃ X, X4.setCell ⟨W3.heap.size, 110, none⟩ (.int .i64 0) = X := ⟨_, rfl⟩
    rw [hX5] at g5 b5
    have c5 : X5.cell? ⟨W3.heap.size, 135, none⟩ = some (.int .i64 1) := (cell_of g5 135).trans (e5_at p v)
    have f5 : X5.frozen? ⟨W3.heap.size, 135, none⟩ = false := free_of g5 135
    have g6 : (X5.setCell ⟨W3.heap.size, 135, none⟩ (.int .i64 1001)).heap[W3.heap.size]? = some (.cells (E6 p v) 25) := set_at g5
    have b6 := b5.setCell (Nat.le_refl W3.heap.size) (p := ⟨W3.heap.size, 135, none⟩) (.int .i64 1001)
    obtain ⟨X6, hX6⟩ : ∃ X, X5.setCell ⟨W3.heap.size, 135, none⟩ (.int .i64 1001) = X := ⟨_, rfl⟩
    rw [hX6] at g6 b6
    have c6 : X6.cell? ⟨W3.heap.size, 159, none⟩ = some p := (cell_of g6 159).trans (e6_at p v)
    have f6 : X6.frozen? ⟨W3.heap.size, 159, none⟩ = false := free_of g6 159
    have g7 : (X6.setCell ⟨W3.heap.size, 159, none⟩ (.slice none 0 0)).heap[W3.heap.size]? = some (.cells (E7 p v) 25) := set_at g6
    have b7 := b6.setCell (Nat.le_refl W3.heap.size) (p := ⟨W3.heap.size, 159, none⟩) (.slice none 0 0)
    obtain ⟨X7, hX7⟩ : ∃ X, X6.setCell ⟨W3.heap.size, 159, none⟩ (.slice none 0 0) = X := ⟨_, rfl⟩
    rw [hX7] at g7 b7
    have hlt := lt_of_heap g7
    have hmk : (Instr.makeSlice 23 (.int .i64 51) (.int .i64 51)).run Try.prog X7 = .ok (.slice (some ⟨X7.heap.size, 0, none⟩) 51 51) (X7.alloc (.cells s51 9)) := by
      rw [← made51]
      exact run_make_row' (P := Try.prog) 23 9 (.string ⟨#[]⟩) 16 Try.underlying23 info9c rfl .i64 .i64 51 (by omega) (by omega) X7
    have q0 : (X7.alloc (.cells s51 9)).heap[X7.heap.size]? = some (.cells s51 9) := new_alloc
    have g7a := old_alloc (o' := .cells s51 9) g7
    have c7 : (X7.alloc (.cells s51 9)).cell? ⟨W3.heap.size, 183, none⟩ = some v := (cell_of g7a 183).trans (e7_at p v)
    have f7 : (X7.alloc (.cells s51 9)).frozen? ⟨W3.heap.size, 183, none⟩ = false := free_of g7a 183
    have g8 : ((X7.alloc (.cells s51 9)).setCell ⟨W3.heap.size, 183, none⟩ (.slice (some ⟨X7.heap.size, 0, none⟩) 51 51)).heap[W3.heap.size]? = some (.cells (E8 p v (.slice (some ⟨X7.heap.size, 0, none⟩) 51 51)) 25) := set_at g7a
    have q1 := set_ne (j := 183) (u := .slice (some ⟨X7.heap.size, 0, none⟩) 51 51) (show X7.heap.size ≠ W3.heap.size by omega) q0
    have b8 := (b7.alloc b7.size (.cells s51 9)).setCell (Nat.le_refl W3.heap.size) (p := ⟨W3.heap.size, 183, none⟩) (.slice (some ⟨X7.heap.size, 0, none⟩) 51 51)
    obtain ⟨X8, hX8⟩ : ∃ X, (X7.alloc (.cells s51 9)).setCell ⟨W3.heap.size, 183, none⟩ (.slice (some ⟨X7.heap.size, 0, none⟩) 51 51) = X := ⟨_, rfl⟩
    rw [hX8] at g8 q1 b8
    have hsz22 : (Try.prog.info? 22).map (·.size) = some (Array.replicate 18 (Value.int .i64 0)).size := size22
    have hn22 : 0 + (Array.replicate 18 (Value.int .i64 0)).size ≤ (E0 p v).size := by rw [e0_size]; simp
    have hpart := e1_part p v
    replace hpart := hide hpart
    replace hn22 := hide hn22
    replace hsz22 := hide hsz22
    replace q1 := hide q1
    clear g1 g2 g3 g4 g5 g6 g7 b1 b2 b3 b4 b5 b6 b7 q0 g7a hlt
    go_wp2_with (first | (with_reducible refine wpList_load_row_w ?_ 25 _ rfl mm ?_ 25 (kc p v) (0, 0) _ hK Try.underlying25 rfl hz.out ?_; rotate_left; rotate_left) | (with_reducible refine wpList_load_row rfl 25 _ rfl mm ?_ 25 (kc p v) (0, 0) _ hK Try.underlying25 rfl hz.out ?_; rotate_left) | (with_reducible refine Great.wpList_buildSliceTo rfl 45 25 8 _ rfl W3.heap.size rfl _ rfl Try.underlying45 (E0 p v) ?_ ?_; rotate_left) | (with_reducible refine wpList_build_is rfl 22 _ rfl (Array.replicate 18 (Value.int .i64 0)) ?_ ?_; rotate_left) | (with_reducible refine wpList_store_part rfl 22 _ _ rfl W3.heap.size 0 (Array.replicate 18 (Value.int .i64 0)) ?_ ?_ 25 (E0 p v) g0 hsz22.out hn22.out rep_one (E1 p v) hpart.out ?_; rotate_left; rotate_left))
    all_goals try exact rfl
    all_goals try exact hbuilt.out
    all_goals try exact built22z
    clear c1 c2 c3 c4 c5 c6 c7 f1 f2 f3 f4 f5 f6 f7 hX1 hX2 hX3 hX4 hX5 hX6 hX7 hX8 hmk hsz22 hn22 hpart g0 hbuilt
    have hQ : TextsAt X8 (.slice (some ⟨X7.heap.size, 0, none⟩) 51 51) (List.replicate 51 ⟨#[]⟩) := texts_at q1.out rfl rfl (by unfold maxLen; simp)
    replace hK := kept b8 hK
    replace hB := below_of b8 hB
    clear b8 q1
    obtain ⟨q, hq⟩ : ∃ q : Value, (Value.slice (some ⟨X7.heap.size, 0, none⟩) 51 51) = q := ⟨_, rfl⟩
    rw [hq] at g8 hQ
    clear hq
    obtain ⟨gw, hgw⟩ : ∃ gw, W3.heap.size = gw := ⟨_, rfl⟩
    rw [hgw] at g8 ⊢
    clear hgw
    have hWr : ∀ W', Below X8.heap.size X8 W' → ∀ i, i < 8 → MixAt W' (wC p v q i) (wM i) := fun W' hb i hi => wrong_at (hP.below (below_of hb hB)) (hV.below (below_of hb hB)) (hQ.below hb) hi
    have hsz8 := e8_size p v q
    replace hsz8 := hide hsz8
    replace hWr := hide hWr
    clear hQ
    go_loopw [16, 17, 18] (fun a16 a17 a18 wr => ∃ i : Nat, i ≤ 8 ∧ a16 = .int .i64 i ∧ Below X8.heap.size X8 wr) (fun a16 _ _ _ => 8 - (intOf a16).toNat)
    case atStart => exact ⟨0, by omega, rfl, Below.refl _ _⟩
    case round =>
      obtain ⟨i, hi8, rfl, hx⟩ := hrel
      by_cases hi : i < 8
      · have hi' : (i : Int) < 8 := by omega
        have gE := kept hx g8
        have hrow := e8_row p v q hi
        have hszi : i * 23 + 23 ≤ (E8 p v q).size := by rw [hsz8.out]; omega
        have hr := wM_wrong hi
        replace hrow := hide hrow
        replace hr := hide hr
        go_wp2_with (with_reducible refine wpList_load_part rfl 25 _ rfl gw (i * 23) 23 ?_ 25 (E8 p v q) (0, 0) _ gE Try.underlying25 rfl size25 hszi ?_; rotate_left)
        all_goals try exact rfl
        rw [hrow.out]
        refine (acts_any (wC p v q i) (wM i) 5 3 _ (hWr.out _ hx i hi)).mono ?_
        rintro e Y1 ⟨vl, rfl, hA, hb1⟩
        rw [cnt_bad hr.out] at hA ⊢
        obtain ⟨va, vc, rfl⟩ := hA.slice
        clear hA
        rw [show stN (wM i) 5 0 = 5 from rfl]
        have hx1 := below_of hb1 hx
        have gE1 := kept hb1 gE
        clear hx gE hb1
        go_wp2_with (with_reducible refine wpList_load_part rfl 25 _ rfl gw (i * 23) 23 ?_ 25 (E8 p v q) (0, 0) _ gE1 Try.underlying25 rfl size25 hszi ?_; rotate_left)
        all_goals try exact rfl
        rw [hrow.out]
        refine (right_any (wC p v q i) (wM i) _ (hWr.out _ hx1 i hi)).mono ?_
        rintro e Y2 ⟨rfl, hb2⟩
        rw [hr.out]
        have hx2 := below_of hb2 hx1
        have gE2 := kept hb2 gE1
        clear hx1 gE1 hb2
        go_wp2_with (with_reducible refine wpList_load_part_w ?_ 25 _ rfl gw (i * 23) 23 ?_ 25 (E8 p v q) (0, 0) _ gE2 Try.underlying25 rfl size25 hszi ?_; rotate_left; rotate_left)
        all_goals try exact rfl
        rw [hrow.out]
        refine (kind_any (wC p v q i) (wM i) 0 (by decide) _ (hWr.out _ hx2 i hi)).mono ?_
        rintro e Y3 ⟨rfl, hb3⟩
        rw [kind_wrong hr.out]
        have hx3 := below_of hb3 hx2
        clear hx2 gE2 hb3
        go_wp2_with fail
        go_roundw
        case rel => exact ⟨i + 1, by omega, by go_num, hx3⟩
        case measure => simp [intOf]; omega
      · obtain rfl : i = 8 := by omega
        replace hK := kept hx hK
        replace hB := below_of hx hB
        clear hx g8 hWr hsz8
        go_wp2_with (first | (with_reducible refine wpList_load_row_w ?_ 25 _ rfl mm ?_ 25 (kc p v) (0, 0) _ hK Try.underlying25 rfl hz.out ?_; rotate_left; rotate_left) | (with_reducible refine wpList_load_row rfl 25 _ rfl mm ?_ 25 (kc p v) (0, 0) _ hK Try.underlying25 rfl hz.out ?_; rotate_left))
        all_goals try exact rfl
        refine (acts_any (kc p v) kM 5 0 _ (hM _ hB)).mono ?_
        rintro e Y1 ⟨vl, rfl, hA, hb1⟩
        rw [kM_none] at hA ⊢
        obtain ⟨va, vc, rfl⟩ := hA.slice
        clear hA
        rw [show stN kM 5 0 = 5 from rfl]
        replace hK := kept hb1 hK
        replace hB := below_of hb1 hB
        clear hb1
        go_wp2_with (first | (with_reducible refine wpList_load_row_w ?_ 25 _ rfl mm ?_ 25 (kc p v) (0, 0) _ hK Try.underlying25 rfl hz.out ?_; rotate_left; rotate_left) | (with_reducible refine wpList_load_row rfl 25 _ rfl mm ?_ 25 (kc p v) (0, 0) _ hK Try.underlying25 rfl hz.out ?_; rotate_left))
        all_goals try exact rfl
        refine (acts_any (kc p v) kM 5 5000 _ (hM _ hB)).mono ?_
        rintro e Y2 ⟨vl, rfl, hA, hb2⟩
        rw [kM_most] at hA ⊢
        obtain ⟨va2, vc2, rfl⟩ := hA.slice
        clear hA
        replace hB := below_of hb2 hB
        clear hb2 hK
        generalize stN kM 5 4096 = sE
        go_wp2_with fail
        refine (wakes_any _).mono ?_
        rintro e Y3 ⟨rfl, hb3⟩
        replace gb := below_of (below_of hb3 hB) gb
        go_wp2_with fail
        go_ret
        exact ⟨rfl, gb⟩

end Go.Proofs.Ytgjdkdfgfbonfaa
