/- ScriptJoins: acts that are drawn in two goes are those that are drawn at once. Conditions: none. -/
import Derived.Test.YtgjdkdfgfbonfaaJ1
import Derived.Test.YtgjdkdfgfbonfaaM3
import Derived.Test.YtgjdkdfgfbonfaaDraw
import Derived.Test.YtgjdkdfgfbonfaaN7
import Derived.StillTailTactics
namespace Go.Proofs.Ytgjdkdfgfbonfaa
open Go.RowKit

theorem ActsIs.rows {w : World} {base n : Nat} {v : Value} {A : Nat → Ac} (h : ActsIs w base v n A) : ∃ va vc g cur KS, v = .slice va n vc ∧ (0 < n → va = some ⟨g, 0, none⟩ ∧ ActsRow w base g cur KS n A) := by
  rcases Nat.eq_zero_or_pos n with h0 | hpos
  · obtain ⟨va, vc, rfl⟩ := h.slice
    exact ⟨va, vc, 0, #[], fun _ => undef, rfl, fun h => by omega⟩
  · obtain ⟨g, cap, cur, KS, rfl, hR⟩ := h.row hpos
    exact ⟨_, cap, g, cur, KS, rfl, fun _ => ⟨rfl, hR⟩⟩

set_option maxRecDepth 100000 in
set_option maxHeartbeats 8000000 in
theorem law10_any (C : Array Value) (M : Mx) (s : Int) (n k : Nat) (hn : n < 256) (hk : k < 256) (w : World) (hM : MixAt w C M) :
    Calls Try.prog 10 #[.agg C, .int .u64 s, .int .u8 n, .int .u8 k] w fun e w' => e = .returned (.bool true) ∧ Below w.heap.size w w' := by
  obtain ⟨vp, vv, hC, hp, hv⟩ := hM.ex
  have h23 : (Try.prog.info? 25).map (·.size) = some C.size := by rw [hC.size]; exact size25
  replace h23 := hide h23
  have hK : (w.alloc (.cells C 25)).heap[w.heap.size]? = some (.cells C 25) := new_alloc
  have gb : Below w.heap.size w (w.alloc (.cells C 25)) := (Below.refl _ _).alloc (Nat.le_refl _) _
  clear hp hv hC
  go_enter Try.func10, Try.ntmps10
  go_wp2_with (with_reducible refine wpList_load_row rfl 25 _ rfl w.heap.size ?_ 25 C (0, 0) _ hK Try.underlying25 rfl h23.out ?_; rotate_left)
  all_goals try exact rfl
  refine (great_any C M _ (hM.below gb)).mono ?_
  rintro e w1 ⟨⟨b, rfl⟩, hb1⟩
  replace hK := kept hb1 hK
  replace gb := below_of hb1 gb
  clear hb1
  cases b with
  | true =>
    go_wp2_with fail
    refine (wakes_any _).mono ?_
    rintro e w9 ⟨rfl, hb9⟩
    go_wp2_with fail
    go_ret
    exact ⟨rfl, below_of hb9 gb⟩
  | false =>
    obtain ⟨A, hA⟩ : ∃ A : Nat, A = n % 200 := ⟨_, rfl⟩
    obtain ⟨B, hB⟩ : ∃ B : Nat, B = k % 200 := ⟨_, rfl⟩
    have hA' : (n : Int) % 200 = (A : Int) := by omega
    have hB' : (k : Int) % 200 = (B : Int) := by omega
    have hAm : A < 200 := by omega
    have hBm : B < 200 := by omega
    clear hA hB
    obtain ⟨c1, hc1⟩ : ∃ c, cntN M ((A : Int) + (B : Int)) = c := ⟨_, rfl⟩
    obtain ⟨c2, hc2⟩ : ∃ c, cntN M (A : Int) = c := ⟨_, rfl⟩
    obtain ⟨c3, hc3⟩ : ∃ c, cntN M (B : Int) = c := ⟨_, rfl⟩
    have hcs : (rightB M = true ∧ A + B = c1 ∧ A = c2 ∧ B = c3) ∨ (rightB M = false ∧ 0 = c1 ∧ 0 = c2 ∧ 0 = c3) := by
      rcases hr : rightB M with _ | _
      · exact .inr ⟨rfl, by rw [← hc1, cnt_wrong hr], by rw [← hc2, cnt_wrong hr], by rw [← hc3, cnt_wrong hr]⟩
      · refine .inl ⟨rfl, ?_, by rw [← hc2, cnt_right hr (by omega)], by rw [← hc3, cnt_right hr (by omega)]⟩
        rw [← hc1, show (A : Int) + (B : Int) = ((A + B : Nat) : Int) from by omega, cnt_right hr (by omega)]
    have hc2m : c2 < 200 := by omega
    replace hcs := hide hcs
    go_wp2_with (with_reducible refine wpList_load_row rfl 25 _ rfl w.heap.size ?_ 25 C (0, 0) _ hK Try.underlying25 rfl h23.out ?_; rotate_left)
    all_goals try exact rfl
    refine (acts_any C M s ((A : Int) + (B : Int)) _ (hM.below gb)).mono ?_
    rintro e w2 ⟨v1, rfl, hA1, hb2⟩
    rw [hc1] at hA1 ⊢
    replace hK := kept hb2 hK
    replace gb := below_of hb2 gb
    clear hb2 hc1
    go_wp2_with (with_reducible refine wpList_load_row rfl 25 _ rfl w.heap.size ?_ 25 C (0, 0) _ hK Try.underlying25 rfl h23.out ?_; rotate_left)
    all_goals try exact rfl
    refine (acts_any C M s (A : Int) _ (hM.below gb)).mono ?_
    rintro e w3 ⟨v2, rfl, hA2, hb3⟩
    rw [hc2] at hA2 ⊢
    have hK3 := kept hb3 hK
    have gb3 := below_of hb3 gb
    go_wp2_with (with_reducible refine wpList_load_row rfl 25 _ rfl w.heap.size ?_ 25 C (0, 0) _ hK3 Try.underlying25 rfl h23.out ?_; rotate_left)
    all_goals try exact rfl
    refine (acts_any C M (stN M s c2) (B : Int) _ (hM.below gb3)).mono ?_
    rintro e w4 ⟨v3, rfl, hA3, hb4⟩
    rw [hc3] at hA3 ⊢
    obtain ⟨va2, vc2, g2, cur2, KS2, rfl, hva2, hMut⟩ := mut_start hA2 hb3 hb4
    clear hA2 hb3 hb4 hK3 gb3 hc3
    obtain ⟨hi, hhi⟩ : ∃ hi, w3.heap.size = hi := ⟨_, rfl⟩
    rw [hhi] at hMut hA3
    clear hhi
    go_wp2_with fail
    go_loopw [17, 18] (fun a17 a18 wr => ∃ i : Nat, i ≤ c2 ∧ a17 = .int .i64 i ∧ Mut w2 w4 hi g2 cur2 KS2 c2 (fun i => (acN M s i).keep.length) wr) (fun a17 _ _ => c2 - (intOf a17).toNat)
    case atStart => exact ⟨0, by omega, rfl, hMut⟩
    case round =>
      clear hMut
      obtain ⟨i, hi2, rfl, hMut⟩ := hrel
      by_cases hiN : i < c2
      · have hpos : 0 < c2 := by omega
        obtain rfl := hva2 hpos
        have hiN' : (i : Int) < (c2 : Int) := by omega
        obtain ⟨ka, kc, hks, hkm, hkx⟩ := hMut.each i hiN
        have hks2 := hMut.ks i hiN
        rw [hks] at hks2
        try dsimp only at hkm
        try dsimp only at hks2
        try dsimp only at hkx
        obtain ⟨ℓ, hℓ⟩ : ∃ ℓ, (acN M s i).keep.length = ℓ := ⟨_, rfl⟩
        rw [hℓ] at hkm hks2
        unfold maxLen at hkm
        clear hkx hks
        go_wp2_with fail
        go_loopw [18] (fun a18 wr => ∃ j : Nat, j ≤ ℓ ∧ a18 = .int .i64 j ∧ Mut w2 w4 hi g2 cur2 KS2 c2 (fun i => (acN M s i).keep.length) wr) (fun a18 _ => ℓ - (intOf a18).toNat)
        case atStart => exact ⟨0, by omega, rfl, hMut⟩
        case round =>
          clear hMut
          obtain ⟨j, hj, rfl, hMut⟩ := hrel
          have ck : wr.cell? ⟨g2, i * 7 + 6, none⟩ = some (.slice ka ℓ kc) := (cell_of (hMut.row hpos) _).trans hks2
          by_cases hjL : j < ℓ
          · obtain ⟨ka', kc', hks', _, hkx⟩ := hMut.each i hiN
            have hks3 := hMut.ks i hiN
            rw [hks', hks2] at hks3
            simp only [Option.some.injEq, Value.slice.injEq] at hks3
            obtain ⟨rfl, hdup, rfl⟩ := hks3
            clear hdup
            try dsimp only at hkx
            rw [hℓ] at hkx
            obtain ⟨b, cb, rfl, hbl, hbh, hbb, hzz⟩ := hkx (by omega)
            obtain ⟨z, hz⟩ := hzz j hjL
            clear hkx hzz hks2
            have cz : wr.cell? ⟨b, j, none⟩ = some (.int .i64 z) := (cell_of hbb j).trans hz
            have hjL' : (j : Int) < (ℓ : Int) := by omega
            clear hks'
            go_wp2_with fail
            go_still_tail 16, mixed
            clear ck cz
            change wpList _ _ _ _ _ wr.drew
            have cz : wr.drew.cell? ⟨b, j, none⟩ = some (.int .i64 z) := (cell_of hbb j).trans hz
            have fz : wr.drew.frozen? ⟨b, j, none⟩ = false := free_of hbb j
            have hMd := hMut.drew
            clear hMut
            go_wp2_with fail
            go_roundw
            case rel => first | exact ⟨j + 1, by omega, by go_num, hMd.store hbl hbh hbb j _⟩ | ((repeat apply Exists.intro); exact ⟨⟨j + 1, by omega, by go_num, hMd.store hbl hbh hbb j _⟩, rfl⟩)
            case measure => simp [intOf]; omega
          · obtain rfl : j = ℓ := by omega
            go_wp2_with fail
            go_roundw
            case rel => first | exact ⟨i + 1, by omega, by go_num, hMut⟩ | ((repeat apply Exists.intro); exact ⟨⟨i + 1, by omega, by go_num, hMut⟩, rfl⟩)
            case measure => simp [intOf]; omega
      · have hge : ¬ ((i : Int) < (c2 : Int)) := by omega
        have hK6 := kept hMut.lo hK
        have gb6 := below_of hMut.lo gb
        replace hA1 := hA1.below hMut.lo
        replace hA3 := hA3.from_ hMut.mid
        clear hMut hK
        go_wp2_with (with_reducible refine wpList_load_row rfl 25 _ rfl w.heap.size ?_ 25 C (0, 0) _ hK6 Try.underlying25 rfl h23.out ?_; rotate_left)
        all_goals try exact rfl
        refine (acts_any C M s (A : Int) _ (hM.below gb6)).mono ?_
        rintro e w6 ⟨v4, rfl, hA4, hb6⟩
        rw [hc2] at hA4 ⊢
        replace hK6 := kept hb6 hK6
        replace gb6 := below_of hb6 gb6
        replace hA1 := hA1.below hb6
        replace hA3 := hA3.below hb6
        clear hb6 hge hc2
        obtain ⟨va1, vc1, g1, cur1, KS1, rfl, hr1⟩ := hA1.rows
        obtain ⟨va3, vc3, g3, cur3, KS3, rfl, hr3⟩ := hA3.rows
        obtain ⟨va4, vc4, g4, cur4, KS4, rfl, hr4⟩ := hA4.rows
        replace hr1 := hide hr1
        replace hr3 := hide hr3
        replace hr4 := hide hr4
        clear hA1 hA3 hA4
        go_wp2_with (with_reducible refine wpList_load_row rfl 25 _ rfl w.heap.size ?_ 25 C (0, 0) _ hK6 Try.underlying25 rfl h23.out ?_; rotate_left)
        all_goals try exact rfl
        refine (right_any C M _ (hM.below gb6)).mono ?_
        rintro e w7 ⟨rfl, hb7⟩
        replace gb6 := below_of hb7 gb6
        clear hK6
        rcases hcs.out with ⟨hr, rfl, rfl, rfl⟩ | ⟨hr, rfl, rfl, rfl⟩
        · rw [hr, stN_add]
          clear hcs
          go_wp2_with fail
          go_loopw [21, 22] (fun a21 a22 wr => ∃ i : Nat, i ≤ A + B ∧ a21 = .int .i64 i ∧ Below w7.heap.size w7 wr) (fun a21 _ _ => A + B - (intOf a21).toNat)
          case atStart => exact ⟨0, by omega, rfl, Below.refl _ _⟩
          case round =>
            obtain ⟨i, hi3, rfl, hb8⟩ := hrel
            by_cases hiN : i < A + B
            · obtain ⟨rfl, hR1⟩ := hr1.out (by omega)
              replace hR1 := hR1.below hb7
              have hiN' : (i : Int) < (A : Int) + (B : Int) := by omega
              have hsz1 : i * 7 + 7 ≤ cur1.size := by
                have h := hR1.sz
                have := Nat.mul_le_mul_right 7 (show i + 1 ≤ A + B by omega)
                omega
              by_cases hiA : i < A
              · obtain ⟨rfl, hR4⟩ := hr4.out (by omega)
                replace hR4 := hR4.below hb7
                have hiA' : (i : Int) < (A : Int) := by omega
                have hRa := (hR4.below hb8).below ((Below.refl wr.heap.size wr).alloc (Nat.le_refl _) (.cells #[.int .u8 0, .int .i64 0, .int .i64 0, .int .i64 0, .string ⟨#[]⟩, .string ⟨#[]⟩, .slice none 0 0] 35))
                have hbx0 : (wr.alloc (.cells #[.int .u8 0, .int .i64 0, .int .i64 0, .int .i64 0, .string ⟨#[]⟩, .string ⟨#[]⟩, .slice none 0 0] 35)).heap[wr.heap.size]? = some (.cells #[.int .u8 0, .int .i64 0, .int .i64 0, .int .i64 0, .string ⟨#[]⟩, .string ⟨#[]⟩, .slice none 0 0] 35) := new_alloc
                have hsz35 : (Try.prog.info? 35).map (·.size) = some ((acCells (acN M s i) (KS4 i)).toArray : Array Value).size := size35
                obtain ⟨ka0, kc0, hks0, _⟩ := keep_open ((hR4.below hb8).keep i hiA)
                have hone35 : ((acCells (acN M s i) (KS4 i)).toArray : Array Value).all (·.oneCell') = true := by rw [hks0]; simp [acCells, Value.oneCell']
                clear hks0
                go_wp2_with (first | (with_reducible refine wpList_load_act rfl _ rfl ?_ hRa hiA ?_; rotate_left) | (with_reducible refine wpList_store_row rfl 35 _ _ rfl wr.heap.size ((acCells (acN M s i) (KS4 i)).toArray) ?_ (by with_unfolding_all exact rfl) 35 _ hbx0 hsz35 rfl hone35 ?_; rotate_left))
                all_goals try exact rfl
                have hbx := setRow_heap _ wr.heap.size _ ((acCells (acN M s i) (KS4 i)).toArray) _ _ hbx0
                have hbw : Below wr.heap.size wr ((wr.alloc (.cells #[.int .u8 0, .int .i64 0, .int .i64 0, .int .i64 0, .string ⟨#[]⟩, .string ⟨#[]⟩, .slice none 0 0] 35)).setRow wr.heap.size ((acCells (acN M s i) (KS4 i)).toArray)) := below_row ((Below.refl _ _).alloc (Nat.le_refl _) _) (Nat.le_refl _) _
                have hR1' := (hR1.below hb8).below hbw
                have hkx := own_below ((hR4.below hb8).keep i hiA) hbw
                replace hb8 := below_of hbw hb8
                clear hRa hbx0 hsz35 hone35 hbw
                generalize ((wr.alloc (.cells #[.int .u8 0, .int .i64 0, .int .i64 0, .int .i64 0, .string ⟨#[]⟩, .string ⟨#[]⟩, .slice none 0 0] 35)).setRow wr.heap.size ((acCells (acN M s i) (KS4 i)).toArray)) = W8 at hbx hR1' hkx hb8 ⊢
                obtain ⟨bx, hbxe⟩ : ∃ bx, wr.heap.size = bx := ⟨_, rfl⟩
                rw [hbxe] at hbx ⊢
                clear hbxe
                generalize KS4 i = ksx at hbx hkx ⊢
                refine Draw.wp_region_pure mixed 7 8 (by kernel_rfl) [.slice (some ⟨g1, 0, none⟩) (A + B) vc1, .int .i64 (i : Int), .pointer (some ⟨g1, i * 7, none⟩), acv (acN M s i) (KS1 i), acv (acN M s i) ksx, .bool true, .bool false] _ rfl ?_ ?_
                · simp only [Draw.puts, List.take_succ_cons, List.take_zero, if_true, Act.put, List.setIfInBounds_toArray, List.set_cons_zero, List.set_cons_succ, Nat.zero_add, Nat.reduceAdd, List.getD_cons_zero, List.getD_cons_succ]
                  refine ⟨?_, ?_, ?_, ?_, ?_, ?_, ?_, trivial⟩
                  all_goals refine fun w10 hb10 => .inl ⟨rfl, fun K hk => ?_⟩
                  · go_simp
                    exact hk w10 (Below.refl _ _)
                  · go_simp
                    exact hk w10 (Below.refl _ _)
                  · have m1 := hiN'
                    go_simp
                    exact hk w10 (Below.refl _ _)
                  · refine wp_load_part 35 _ rfl g1 (i * 7) 7 rfl 35 cur1 (0, 0) _ (hR1'.below hb10).hg Try.underlying35 rfl size35 hsz1 ?_
                    rw [hR1.part hiN, acv_cells]
                    exact hk w10 (Below.refl _ _)
                  · refine wp_load_row 35 _ rfl bx rfl 35 _ (0, 0) _ (kept hb10 hbx) Try.underlying35 rfl size35 ?_
                    exact hk w10 (Below.refl _ _)
                  · go_simp
                    refine (same_any (acN M s i) (KS1 i) ksx _ _ _ ((hR1'.below hb10).keep i hiN) (own_below hkx hb10)).mono ?_
                    rintro e w11 ⟨rfl, hb11⟩
                    exact hk w11 hb11
                  · go_simp
                    exact hk w10 (Below.refl _ _)
                · simp only [Draw.puts, List.take_succ_cons, List.take_zero, List.drop_succ_cons, List.drop_nil, if_true, Act.put, List.setIfInBounds_toArray, List.set_cons_zero, List.set_cons_succ, Nat.zero_add, Nat.reduceAdd, List.getD_cons_zero, List.getD_cons_succ]
                  intro w10 hb10
                  have hbl := below_of hb10 hb8
                  clear hb10 hbx hb8
                  go_wp2_with fail
                  go_roundw
                  case rel => exact ⟨i + 1, by omega, by go_num, hbl⟩
                  case measure => simp [intOf]; omega
              · obtain ⟨j, hij⟩ : ∃ j, i = A + j := ⟨i - A, by omega⟩
                have hjB : j < B := by omega
                obtain ⟨rfl, hR3⟩ := hr3.out (by omega)
                replace hR3 := hR3.below hb7
                have hiA' : ¬ (i : Int) < (A : Int) := by omega
                have hsub : (i : Int) - (A : Int) = (j : Int) := by omega
                have hjB' : (j : Int) < (B : Int) := by omega
                have hact : acN M (stN M s A) j = acN M s i := by rw [acN_add, hij]
                replace hact := hide hact
                replace hij := hide hij
                have hRa := (hR3.below hb8).below ((Below.refl wr.heap.size wr).alloc (Nat.le_refl _) (.cells #[.int .u8 0, .int .i64 0, .int .i64 0, .int .i64 0, .string ⟨#[]⟩, .string ⟨#[]⟩, .slice none 0 0] 35))
                have hbx0 : (wr.alloc (.cells #[.int .u8 0, .int .i64 0, .int .i64 0, .int .i64 0, .string ⟨#[]⟩, .string ⟨#[]⟩, .slice none 0 0] 35)).heap[wr.heap.size]? = some (.cells #[.int .u8 0, .int .i64 0, .int .i64 0, .int .i64 0, .string ⟨#[]⟩, .string ⟨#[]⟩, .slice none 0 0] 35) := new_alloc
                have hsz35 : (Try.prog.info? 35).map (·.size) = some ((acCells (acN M (stN M s A) j) (KS3 j)).toArray : Array Value).size := size35
                obtain ⟨ka0, kc0, hks0, _⟩ := keep_open ((hR3.below hb8).keep j hjB)
                have hone35 : ((acCells (acN M (stN M s A) j) (KS3 j)).toArray : Array Value).all (·.oneCell') = true := by rw [hks0]; simp [acCells, Value.oneCell']
                clear hks0
                go_wp2_with (first | (with_reducible refine wpList_load_act rfl _ rfl ?_ hRa hjB ?_; rotate_left) | (with_reducible refine wpList_store_row rfl 35 _ _ rfl wr.heap.size ((acCells (acN M (stN M s A) j) (KS3 j)).toArray) ?_ (by with_unfolding_all exact rfl) 35 _ hbx0 hsz35 rfl hone35 ?_; rotate_left))
                all_goals try exact rfl
                have hbx := setRow_heap _ wr.heap.size _ ((acCells (acN M (stN M s A) j) (KS3 j)).toArray) _ _ hbx0
                have hbw : Below wr.heap.size wr ((wr.alloc (.cells #[.int .u8 0, .int .i64 0, .int .i64 0, .int .i64 0, .string ⟨#[]⟩, .string ⟨#[]⟩, .slice none 0 0] 35)).setRow wr.heap.size ((acCells (acN M (stN M s A) j) (KS3 j)).toArray)) := below_row ((Below.refl _ _).alloc (Nat.le_refl _) _) (Nat.le_refl _) _
                have hR1' := (hR1.below hb8).below hbw
                have hkx := own_below ((hR3.below hb8).keep j hjB) hbw
                replace hb8 := below_of hbw hb8
                clear hRa hbx0 hsz35 hone35 hbw
                generalize ((wr.alloc (.cells #[.int .u8 0, .int .i64 0, .int .i64 0, .int .i64 0, .string ⟨#[]⟩, .string ⟨#[]⟩, .slice none 0 0] 35)).setRow wr.heap.size ((acCells (acN M (stN M s A) j) (KS3 j)).toArray)) = W8 at hbx hR1' hkx hb8 ⊢
                obtain ⟨bx, hbxe⟩ : ∃ bx, wr.heap.size = bx := ⟨_, rfl⟩
                rw [hbxe] at hbx ⊢
                clear hbxe
                rw [hact.out] at hbx hkx
                generalize KS3 j = ksx at hbx hkx ⊢
                refine Draw.wp_region_pure mixed 7 8 (by kernel_rfl) [.slice (some ⟨g1, 0, none⟩) (A + B) vc1, .int .i64 (i : Int), .pointer (some ⟨g1, i * 7, none⟩), acv (acN M s i) (KS1 i), acv (acN M s i) ksx, .bool true, .bool false] _ rfl ?_ ?_
                · simp only [Draw.puts, List.take_succ_cons, List.take_zero, if_true, Act.put, List.setIfInBounds_toArray, List.set_cons_zero, List.set_cons_succ, Nat.zero_add, Nat.reduceAdd, List.getD_cons_zero, List.getD_cons_succ]
                  refine ⟨?_, ?_, ?_, ?_, ?_, ?_, ?_, trivial⟩
                  all_goals refine fun w10 hb10 => .inl ⟨rfl, fun K hk => ?_⟩
                  · go_simp
                    exact hk w10 (Below.refl _ _)
                  · go_simp
                    exact hk w10 (Below.refl _ _)
                  · have m1 := hiN'
                    go_simp
                    exact hk w10 (Below.refl _ _)
                  · refine wp_load_part 35 _ rfl g1 (i * 7) 7 rfl 35 cur1 (0, 0) _ (hR1'.below hb10).hg Try.underlying35 rfl size35 hsz1 ?_
                    rw [hR1.part hiN, acv_cells]
                    exact hk w10 (Below.refl _ _)
                  · refine wp_load_row 35 _ rfl bx rfl 35 _ (0, 0) _ (kept hb10 hbx) Try.underlying35 rfl size35 ?_
                    exact hk w10 (Below.refl _ _)
                  · go_simp
                    refine (same_any (acN M s i) (KS1 i) ksx _ _ _ ((hR1'.below hb10).keep i hiN) (own_below hkx hb10)).mono ?_
                    rintro e w11 ⟨rfl, hb11⟩
                    exact hk w11 hb11
                  · go_simp
                    exact hk w10 (Below.refl _ _)
                · simp only [Draw.puts, List.take_succ_cons, List.take_zero, List.drop_succ_cons, List.drop_nil, if_true, Act.put, List.setIfInBounds_toArray, List.set_cons_zero, List.set_cons_succ, Nat.zero_add, Nat.reduceAdd, List.getD_cons_zero, List.getD_cons_succ]
                  intro w10 hb10
                  have hbl := below_of hb10 hb8
                  clear hb10 hbx hb8
                  go_wp2_with fail
                  go_roundw
                  case rel => exact ⟨i + 1, by omega, by go_num, hbl⟩
                  case measure => simp [intOf]; omega
            · have hge : ¬ ((i : Int) < (A : Int) + (B : Int)) := by omega
              have hbl := below_of hb8 gb6
              go_wp2_with fail
              refine (wakes_any _).mono ?_
              rintro e w9 ⟨rfl, hb9⟩
              go_wp2_with fail
              go_ret
              exact ⟨rfl, below_of hb9 hbl⟩
        · rw [hr, show stN M s 0 = s from rfl]
          clear hcs
          go_wp2_with fail
          refine (wakes_any _).mono ?_
          rintro e w9 ⟨rfl, hb9⟩
          go_wp2_with fail
          go_ret
          exact ⟨rfl, below_of hb9 gb6⟩

end Go.Proofs.Ytgjdkdfgfbonfaa
