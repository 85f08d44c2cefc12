/- The stream is blocks of the nonce and a count. Conditions: none. -/
import Derived.Test.YtgmnigobappjbaaS1
import Derived.Deep.OwnRows
import Derived.Lib.Strings
namespace Go.Proofs.Ytgmnigobappjbaa
open Go.RowKit

theorem made_arr (n : Nat) : madeCells #[.int .u8 0] n = arr n (fun _ => 0) := by
  apply Array.ext_getElem?
  intro i
  rw [arr_get]
  by_cases h : i < n
  · rw [if_pos h]
    simp [madeCells, h, Nat.mod_one]
  · rw [if_neg h]
    exact Array.getElem?_eq_none (by rw [size_madeCells]; omega)
theorem info5c : (Try.prog.info? 5).map (fun i => (i.zero, i.size, i.bytes)) = some (some (.int .u8 0), 1, 1) := by kernel_rfl

theorem sF_extract (s : ByteArray) (l h j : Nat) (hj : l + j < h) : sF (s.extract l h) j = sF s (l + j) := by
  unfold sF
  rw [Lib.extract_data]
  rw [List.getD_eq_getElem?_getD, List.getD_eq_getElem?_getD, List.getElem?_take, List.getElem?_drop, if_pos (by omega)]
theorem size_extract (s : ByteArray) (l h : Nat) (hh : h ≤ s.size) : (s.extract l h).size = h - l := by
  simp
  omega

theorem ctr_laid (nonce : Nat → UInt8) (i : Nat) (hi : i < 256) : arr 16 (upd8 (spl (fun _ => 0) 0 12 nonce) 15 (by8 i)) = arr 16 (ctrN nonce i) := by
  refine arr_ext fun j hj => ?_
  unfold upd8 ctrN
  by_cases h : 12 ≤ j
  · have hs : spl (spl (fun _ => 0) 0 12 nonce) 12 4 (bigN i) j = bigN i (j - 12) := by
      rw [spl, if_pos (by omega)]
    have hs0 : spl (fun _ => 0) 0 12 nonce j = 0 := by
      rw [spl, if_neg (by omega)]
    rw [hs, hs0]
    have hj4 : j = 12 ∨ j = 13 ∨ j = 14 ∨ j = 15 := by omega
    unfold bigN
    rcases hj4 with rfl | rfl | rfl | rfl
    · rw [if_neg (by omega), show i / 2 ^ (8 * (3 - (12 - 12))) % 256 = 0 from by omega]
      rfl
    · rw [if_neg (by omega), show i / 2 ^ (8 * (3 - (13 - 12))) % 256 = 0 from by omega]
      rfl
    · rw [if_neg (by omega), show i / 2 ^ (8 * (3 - (14 - 12))) % 256 = 0 from by omega]
      rfl
    · rw [if_pos rfl, show i / 2 ^ (8 * (3 - (15 - 12))) % 256 = i from by omega]
  · rw [if_neg (by omega)]
    conv => rhs; rw [spl]
    rw [if_neg (by omega)]

theorem part_is (key nonce : Nat → UInt8) (n i : Nat) (hi : i < n) : (stream key nonce (txt (16 * n) fun _ => 0)).extract (16 * i) (16 * i + 16) = txt 16 (aesN key (ctrN nonce i)) := by
  have hs : (stream key nonce (txt (16 * n) fun _ => 0)).size = 16 * n := by rw [stream_size, txt_size]
  refine text_ext ?_ fun j hj => ?_
  · rw [size_extract _ _ _ (by omega), txt_size]
    omega
  · rw [size_extract _ _ _ (by omega)] at hj
    rw [sF_extract _ _ _ _ (by omega), stream_at _ _ _ (by rw [txt_size]; omega), sF_txt (by omega), sF_txt (by omega), zero_xr, ← ks_at key nonce i j (by omega)]
    rfl

theorem zeros_arr (n : Nat) : txt n (fun _ => 0) = txt n (fun _ => (0 : UInt8)) := rfl

set_option maxRecDepth 100000 in
set_option maxHeartbeats 4000000 in
theorem counts_any (key nonce : Nat → UInt8) (B : Nat) (hB : B < 256) (w : World) :
    Calls Try.prog 9 #[.agg (arr 32 key), .agg (arr 12 nonce), .int .u8 B] w fun e w' => e = .returned (.bool true) ∧ Below w.heap.size w w' := by
  have hz : ∀ f : Nat → UInt8, (Try.prog.info? 24).map (·.size) = some (arr 16 f).size := fun f => by rw [arr_size]; exact size24
  have hs : ∀ f g : Nat → UInt8, (arr 16 f).size = (arr 16 g).size := fun f g => by rw [arr_size, arr_size]
  have hz2 : ∀ f : Nat → UInt8, (Try.prog.info? 32).map (·.size) = some (arr 12 f).size := fun f => by rw [arr_size]; exact size32
  have hz3 : ∀ f : Nat → UInt8, (Try.prog.info? 23).map (·.size) = some (arr 32 f).size := fun f => by rw [arr_size]; exact size23
  replace hz := hide hz
  replace hs := hide hs
  replace hz2 := hide hz2
  replace hz3 := hide hz3
  have h1 : ((w.alloc (.cells (arr 32 key) 23)).alloc (.cells (arr 12 nonce) 32)).heap[w.heap.size]? = some (.cells (arr 32 key) 23) := old_alloc new_alloc
  have h2 : ((w.alloc (.cells (arr 32 key) 23)).alloc (.cells (arr 12 nonce) 32)).heap[w.heap.size + 1]? = some (.cells (arr 12 nonce) 32) := by
    have h := new_alloc (w := w.alloc (.cells (arr 32 key) 23)) (o := .cells (arr 12 nonce) 32)
    rw [World.size_alloc] at h
    exact h
  have hb0 : Below w.heap.size w ((w.alloc (.cells (arr 32 key) 23)).alloc (.cells (arr 12 nonce) 32)) := ((Below.refl _ _).alloc (Nat.le_refl _) _).alloc (by simp) _
  go_enter Try.func9, Try.ntmps9
  go_wp2_with fail
  generalize ((w.alloc (.cells (arr 32 key) 23)).alloc (.cells (arr 12 nonce) 32)) = W0 at h1 h2 hb0 ⊢
  refine (awake_any _).mono ?_
  rintro e W ⟨rfl, hb⟩
  replace h1 := kept hb h1
  replace h2 := kept hb h2
  replace hb0 := below_of hb hb0
  clear hb
  obtain ⟨n, hn, hn41⟩ : ∃ n : Nat, (B : Int) % 41 = n ∧ n < 41 := ⟨B % 41, by omega, by omega⟩
  go_wp2_with fail
  clear hn
  have e1 : IntKind.i64.wrap (16 * (n : Int)) = 16 * (n : Int) := IntWalk.i64_in _ (by omega)
  replace e1 := hide e1
  have e2 : (16 * (n : Int)) = ((16 * n : Nat) : Int) := by omega
  replace e2 := hide e2
  refine Draw.wp_region_ghosts mixed 8 8 (by kernel_rfl) (0 : Nat)
    (fun g i => ([.agg (arr 32 key), .agg (arr 12 nonce), .int .i64 n, .int .i64 (16 * (n : Int)), .slice (some ⟨g, 0, none⟩) (16 * n) (16 * n), .string (txt (16 * n) fun _ => 0), .string (stream key nonce (txt (16 * n) fun _ => 0)), .string (stream key nonce (txt (16 * n) fun _ => 0))] : List Value).getD i undef)
    _ (fun _ => rfl)
    (fun D g w' => Below W.heap.size W w' ∧ (D 4 = true → w'.heap[g]? = some (.cells (arr (16 * n) fun _ => 0) 5)))
    ⟨(Below.refl _ _).drew, fun h => absurd h Bool.false_ne_true⟩ ?_ ?_
  · simp only [Draw.puts, List.take_succ_cons, List.take_zero, if_true, Act.put, List.setIfInBounds_toArray, List.set_cons_zero, List.set_cons_succ, Nat.zero_add, Nat.reduceAdd, List.getD_cons_zero, List.getD_cons_succ]
    refine ⟨?_, ?_, ?_, ?_, ?_, ?_, ?_, ?_, trivial⟩
    all_goals rintro D γ w2 hD hpre ⟨hb, hx⟩
    all_goals refine .inl ⟨rfl, fun K hk => ?_⟩
    · refine wp_load_row 23 _ rfl w.heap.size rfl 23 (arr 32 key) (0, 0) _ (kept hb h1) Try.underlying23 rfl (hz3.out _) ?_
      exact hk γ w2 (fun _ _ => rfl) ⟨hb, by simpa [Draw.upd] using hx⟩
    · refine wp_load_row 32 _ rfl (w.heap.size + 1) rfl 32 (arr 12 nonce) (0, 0) _ (kept hb h2) Try.underlying32 rfl (hz2.out _) ?_
      exact hk γ w2 (fun _ _ => rfl) ⟨hb, by simpa [Draw.upd] using hx⟩
    · go_simp
      exact hk γ w2 (fun _ _ => rfl) ⟨hb, by simpa [Draw.upd] using hx⟩
    · go_simp
      rw [e1.out]
      exact hk γ w2 (fun _ _ => rfl) ⟨hb, by simpa [Draw.upd] using hx⟩
    · have hmk : (Instr.makeSlice 30 (.int .i64 (16 * (n : Int))) (.int .i64 (16 * (n : Int)))).run Try.prog w2 = .ok (.slice (some ⟨w2.heap.size, 0, none⟩) (16 * n) (16 * n)) (w2.alloc (.cells (arr (16 * n) fun _ => 0) 5)) := by
        rw [e2.out, ← made_arr]
        exact run_make_row' (P := Try.prog) 30 5 (.int .u8 0) 1 Try.underlying30 info5c rfl .i64 .i64 (16 * n) (by omega) (by omega) w2
      go_simp
      exact hk w2.heap.size _ (fun j hj => by rcases j with _|_|_|_|_|_|_|_|j <;> first | rfl | (rw [hD] at hj; cases hj)) ⟨hb.alloc hb.size _, fun _ => new_alloc⟩
    · have hg := hx (hpre 4 (by decide +kernel))
      refine wp_text 30 9 5 _ rfl Try.underlying30 Try.underlying5 Try.underlying9 γ 0 (16 * n) (16 * n) rfl (fun _ => 0) (fun j hj => ?_) ?_
      · rw [Nat.zero_add]
        exact (cell_of hg _).trans (arr_at hj)
      exact hk γ w2 (fun _ _ => rfl) ⟨hb, by simpa [Draw.upd] using hx⟩
    · go_simp
      refine (stream_any key nonce _ (by rw [txt_size]; omega) _).mono ?_
      rintro e w3 ⟨rfl, hb3⟩
      exact hk γ w3 (fun _ _ => rfl) ⟨below_of hb3 hb, fun h => kept hb3 (hx (by simpa [Draw.upd] using h))⟩
    · go_simp
      exact hk γ w2 (fun _ _ => rfl) ⟨hb, by simpa [Draw.upd] using hx⟩
  · simp only [Draw.puts, List.take_succ_cons, List.take_zero, List.drop_succ_cons, List.drop_nil, if_true, Act.put, List.setIfInBounds_toArray, List.set_cons_zero, List.set_cons_succ, Nat.zero_add, Nat.reduceAdd, List.getD_cons_zero, List.getD_cons_succ]
    rintro g w2 ⟨hb, _⟩
    replace h1 := kept hb h1
    replace h2 := kept hb h2
    replace hb0 := below_of hb hb0
    clear hb
    have hsz : (stream key nonce (txt (16 * n) fun _ => 0)).size = 16 * n := by rw [stream_size, txt_size]
    go_wp2_with fail
    go_loopw [9, 10, 11] (fun a9 a10 a11 wr => ∃ i : Nat, i ≤ n ∧ a9 = .int .i64 i ∧ wr.heap[w.heap.size]? = some (.cells (arr 32 key) 23) ∧ wr.heap[w.heap.size + 1]? = some (.cells (arr 12 nonce) 32) ∧ Below w.heap.size w wr) (fun a9 _ _ _ => n - (intOf a9).toNat)
    case atStart => exact ⟨0, by omega, rfl, h1, h2, hb0⟩
    case round =>
      clear h1 h2 hb0
      obtain ⟨i, hi, rfl, h1, h2, hb0⟩ := hrel
      by_cases hlt : i < n
      · have hlt2 := lt_of_heap h2
        go_wp2_with (with_reducible refine wpList_alloc_row rfl 24 rfl _ zero24 ?_)
        have k1 := old_alloc (o' := .cells (arr 16 fun _ => 0) 24) h1
        have k2 := old_alloc (o' := .cells (arr 16 fun _ => 0) 24) h2
        have ki : (wr.alloc (.cells (arr 16 fun _ => 0) 24)).heap[wr.heap.size]? = some (.cells (arr 16 fun _ => 0) 24) := new_alloc
        have kb := hb0.alloc hb0.size (.cells (arr 16 fun _ => 0) 24)
        have hsz2 := hb0.size
        generalize wr.alloc (.cells (arr 16 fun _ => 0) 24) = W1 at k1 k2 ki kb ⊢
        clear h1 h2 hb0
        go_still_tail 2, mixed
        change wpList _ _ _ _ _ W1.drew
        refine wpList_copy_arr rfl _ _ 30 30 rfl 5 Try.underlying30 size5 wr.heap.size 0 16 16 (w.heap.size + 1) 0 12 12 rfl rfl 16 (fun _ => 0) 24 ki 12 nonce rfl (fun j hj => ?_) (by omega) ?_
        · rw [Nat.zero_add]
          exact (cell_of k2 _).trans (arr_at hj)
        have j1 := (setRow_other W1.drew wr.heap.size _ (arr 16 (spl (fun _ => 0) 0 12 nonce)) (show w.heap.size ≠ wr.heap.size by omega)).trans k1
        have j2 := (setRow_other W1.drew wr.heap.size _ (arr 16 (spl (fun _ => 0) 0 12 nonce)) (show w.heap.size + 1 ≠ wr.heap.size by omega)).trans k2
        have ji := setRow_heap W1.drew wr.heap.size _ (arr 16 (spl (fun _ => 0) 0 12 nonce)) _ _ ki
        have jb := below_row kb.drew hsz2 (arr 16 (spl (fun _ => 0) 0 12 nonce))
        generalize World.setRow W1.drew wr.heap.size (arr 16 (spl (fun _ => 0) 0 12 nonce)) = W2 at j1 j2 ji jb ⊢
        clear k1 k2 ki kb
        have c0 : W2.cell? ⟨wr.heap.size, 15, none⟩ = some (byt (spl (fun _ => 0) 0 12 nonce 15)) := (cell_of ji _).trans (arr_at (by omega))
        have f0 : W2.frozen? ⟨wr.heap.size, 15, none⟩ = false := free_of ji _
        have g1 : (W2.setCell ⟨wr.heap.size, 15, none⟩ (.int .u8 (i : Int))).heap[w.heap.size]? = some (.cells (arr 32 key) 23) := set_ne (show w.heap.size ≠ wr.heap.size by omega) j1
        have g2 : (W2.setCell ⟨wr.heap.size, 15, none⟩ (.int .u8 (i : Int))).heap[w.heap.size + 1]? = some (.cells (arr 12 nonce) 32) := set_ne (show w.heap.size + 1 ≠ wr.heap.size by omega) j2
        have gi : (W2.setCell ⟨wr.heap.size, 15, none⟩ (.int .u8 (i : Int))).heap[wr.heap.size]? = some (.cells (arr 16 (ctrN nonce i)) 24) := by
          have h := set_at (j := 15) (u := byt (by8 i)) ji
          rw [arr_set, ctr_laid nonce i (by omega), byt, ← w_nat (by omega)] at h
          exact h
        have gb := jb.setCell (show w.heap.size ≤ wr.heap.size by omega) (p := ⟨wr.heap.size, 15, none⟩) (.int .u8 (i : Int))
        clear j1 j2 ji jb
        go_wp2_with (first | (with_reducible refine wpList_load_row rfl 23 _ rfl w.heap.size ?_ 23 (arr 32 key) (0, 0) _ g1 Try.underlying23 rfl (hz3.out _) ?_; rotate_left) | (with_reducible refine wpList_load_row rfl 24 _ rfl wr.heap.size ?_ 24 (arr 16 (ctrN nonce i)) (0, 0) _ gi Try.underlying24 rfl (hz.out _) ?_; rotate_left))
        all_goals try exact rfl
        clear c0 f0
        generalize W2.setCell ⟨wr.heap.size, 15, none⟩ (.int .u8 (i : Int)) = W3 at g1 g2 gi gb ⊢
        refine (Block_any key (ctrN nonce i) _).mono ?_
        rintro e w4 ⟨rfl, hb4⟩
        have k1 := old_alloc (o' := .cells (arr 16 fun _ => 0) 24) (kept hb4 g1)
        have k2 := old_alloc (o' := .cells (arr 16 fun _ => 0) 24) (kept hb4 g2)
        have kb := below_of hb4 gb
        have hsz4 := kb.size
        have hlt4 := lt_of_heap (kept hb4 g2)
        replace kb := kb.alloc kb.size (.cells (arr 16 fun _ => 0) 24)
        have ko : (w4.alloc (.cells (arr 16 fun _ => 0) 24)).heap[w4.heap.size]? = some (.cells (arr 16 fun _ => 0) 24) := new_alloc
        clear g1 g2 gi gb hb4
        have j1 := (setRow_other _ w4.heap.size _ (arr 16 (aesN key (ctrN nonce i))) (show w.heap.size ≠ w4.heap.size by omega)).trans k1
        have j2 := (setRow_other _ w4.heap.size _ (arr 16 (aesN key (ctrN nonce i))) (show w.heap.size + 1 ≠ w4.heap.size by omega)).trans k2
        have jo := setRow_heap _ w4.heap.size _ (arr 16 (aesN key (ctrN nonce i))) _ _ ko
        have jb := below_row kb hsz4 (arr 16 (aesN key (ctrN nonce i)))
        clear k1 k2 kb
        go_wp2_with (first | (with_reducible refine wpList_alloc_row rfl 24 rfl _ zero24 ?_) | (with_reducible refine wpList_store_row rfl 24 _ _ rfl w4.heap.size (arr 16 (aesN key (ctrN nonce i))) ?_ ?_ 24 _ ko (hz.out _) (hs.out _ _) arr_ones ?_; rotate_left; rotate_left))
        all_goals try exact rfl
        generalize World.setRow (w4.alloc (.cells (arr 16 fun _ => 0) 24)) w4.heap.size (arr 16 (aesN key (ctrN nonce i))) = W5 at j1 j2 jo jb ⊢
        clear ko
        have e3 : IntKind.i64.wrap (16 * (i : Int)) = 16 * (i : Int) := IntWalk.i64_in _ (by omega)
        have e4 : IntKind.i64.wrap (16 * (i : Int) + 16) = 16 * (i : Int) + 16 := IntWalk.i64_in _ (by omega)
        replace e3 := hide e3
        replace e4 := hide e4
        refine Draw.wp_region_pure mixed 10 8 (by kernel_rfl) [.string (stream key nonce (txt (16 * n) fun _ => 0)), .int .i64 i, .int .i64 (16 * (i : Int)), .int .i64 i, .int .i64 (16 * (i : Int)), .int .i64 (16 * (i : Int) + 16), .string (txt 16 (aesN key (ctrN nonce i))), .slice (some ⟨w4.heap.size, 0, none⟩) 16 16, .string (txt 16 (aesN key (ctrN nonce i))), .bool false] _ rfl ?_ ?_
        · simp only [Draw.puts, List.take_succ_cons, List.take_zero, if_true, Act.put, List.setIfInBounds_toArray, List.set_cons_zero, List.set_cons_succ, Nat.zero_add, Nat.reduceAdd, List.getD_cons_zero, List.getD_cons_succ]
          refine ⟨?_, ?_, ?_, ?_, ?_, ?_, ?_, ?_, ?_, ?_, trivial⟩
          all_goals refine fun w1 hb1 => .inl ⟨rfl, fun K hk => ?_⟩
          · go_simp
            exact hk w1 (Below.refl _ _)
          · go_simp
            exact hk w1 (Below.refl _ _)
          · go_simp
            rw [e3.out]
            exact hk w1 (Below.refl _ _)
          · go_simp
            exact hk w1 (Below.refl _ _)
          · go_simp
            rw [e3.out]
            exact hk w1 (Below.refl _ _)
          · go_simp
            rw [e4.out]
            exact hk w1 (Below.refl _ _)
          · have m1 : 0 ≤ 16 * (i : Int) := by omega
            have m2 : 16 * i + 16 ≤ 16 * n := by omega
            have m3 : (16 * (i : Int) + 16).toNat = 16 * i + 16 := by omega
            have m4 : (16 * (i : Int)).toNat = 16 * i := by omega
            have m5 : 0 ≤ 16 * (i : Int) + 16 := by omega
            have m6 : 16 * (i : Int) + 16 ≤ 16 * n := by omega
            have m7 : 16 * (i : Int) ≤ 16 * (i : Int) + 16 := by omega
            have hp := part_is key nonce n i hlt
            go_simp
            exact hk w1 (Below.refl _ _)
          · go_simp
            exact hk w1 (Below.refl _ _)
          · refine wp_text 30 9 5 _ rfl Try.underlying30 Try.underlying5 Try.underlying9 w4.heap.size 0 16 16 rfl (aesN key (ctrN nonce i)) (fun j hj => ?_) ?_
            · rw [Nat.zero_add]
              exact (cell_of (kept hb1 jo) _).trans (arr_at hj)
            exact hk w1 (Below.refl _ _)
          · go_simp
            exact hk w1 (Below.refl _ _)
        · simp only [Draw.puts, List.take_succ_cons, List.take_zero, List.drop_succ_cons, List.drop_nil, if_true, Act.put, List.setIfInBounds_toArray, List.set_cons_zero, List.set_cons_succ, Nat.zero_add, Nat.reduceAdd, List.getD_cons_zero, List.getD_cons_succ]
          intro w1 hb1
          have k1 := kept hb1 j1
          have k2 := kept hb1 j2
          have kb := below_of hb1 jb
          clear hb1 jb j1 j2 jo
          go_wp2_with fail
          go_roundw
          case rel => exact ⟨i + 1, by omega, by go_num, k1, k2, kb⟩
          case measure => simp [intOf]; omega
      · obtain rfl : i = n := by omega
        go_wp2_with fail
        go_ret
        exact ⟨rfl, hb0⟩

end Go.Proofs.Ytgmnigobappjbaa
