/- ScriptWithin: each act that is drawn is within its mix. Conditions: none. -/
import Derived.Test.YtgjdkdfgfbonfaaAr
import Derived.Test.YtgjdkdfgfbonfaaDraw
namespace Go.Proofs.Ytgjdkdfgfbonfaa
open Go.RowKit

set_option maxRecDepth 100000 in
set_option maxHeartbeats 4000000 in
theorem law3_any (C : Array Value) (M : Mx) (s : Int) (B : Nat) (hB : B < 256) (w : World) (hM : MixAt w C M) :
    Calls Try.prog 3 #[.agg C, .int .u64 s, .int .u8 B] w fun e w' => e = .returned (.bool true) ∧ Below w.heap.size w w' := by
  obtain ⟨vp, vv, hC, hp, hv⟩ := hM.ex
  have h23 : (Try.prog.info? 25).map (·.size) = some C.size := by rw [hC.size]; exact size25
  have hK : (w.alloc (.cells C 25)).heap[w.heap.size]? = some (.cells C 25) := new_alloc
  have gb : Below w.heap.size w (w.alloc (.cells C 25)) := (Below.refl _ _).alloc (Nat.le_refl _) _
  clear hp hv
  go_enter Try.func3, Try.ntmps3
  go_wp2_with (with_reducible refine wpList_load_row rfl 25 _ rfl w.heap.size ?_ 25 C (0, 0) _ hK Try.underlying25 rfl h23 ?_; rotate_left)
  all_goals try exact rfl
  refine (great_any C M _ (hM.below gb)).mono ?_
  rintro e w1 ⟨⟨b, rfl⟩, hb1⟩
  replace hK := kept hb1 hK
  replace gb := below_of hb1 gb
  clear hb1
  cases b with
  | true =>
    go_wp2_with fail
    refine (wakes_any _).mono ?_
    rintro e w2 ⟨rfl, hb2⟩
    go_wp2_with fail
    go_ret
    exact ⟨rfl, below_of hb2 gb⟩
  | false =>
    go_wp2_with (with_reducible refine wpList_load_row rfl 25 _ rfl w.heap.size ?_ 25 C (0, 0) _ hK Try.underlying25 rfl h23 ?_; rotate_left)
    all_goals try exact rfl
    refine (acts_any C M s B _ (hM.below gb)).mono ?_
    rintro e w2 ⟨v, rfl, hA, hb2⟩
    replace hK := kept hb2 hK
    replace gb := below_of hb2 gb
    clear hb2
    rcases hr : rightB M with _ | _
    · rw [cnt_wrong hr] at hA ⊢
      obtain ⟨va, vc, rfl⟩ := hA.slice
      clear hA
      go_wp2_with (with_reducible refine wpList_load_row rfl 25 _ rfl w.heap.size ?_ 25 C (0, 0) _ hK Try.underlying25 rfl h23 ?_; rotate_left)
      all_goals try exact rfl
      refine (right_any C M _ (hM.below gb)).mono ?_
      rintro e w3 ⟨rfl, hb3⟩
      rw [hr]
      go_wp2_with fail
      refine (wakes_any _).mono ?_
      rintro e w4 ⟨rfl, hb4⟩
      go_wp2_with fail
      go_ret
      exact ⟨rfl, below_of hb4 (below_of hb3 gb)⟩
    · rw [cnt_right hr (by omega)] at hA ⊢
      obtain ⟨va, vc, rfl⟩ := hA.slice
      have hF := fit_of hr
      go_wp2_with (with_reducible refine wpList_load_row rfl 25 _ rfl w.heap.size ?_ 25 C (0, 0) _ hK Try.underlying25 rfl h23 ?_; rotate_left)
      all_goals try exact rfl
      refine (right_any C M _ (hM.below gb)).mono ?_
      rintro e w3 ⟨rfl, hb3⟩
      rw [hr]
      replace hK := kept hb3 hK
      replace gb := below_of hb3 gb
      replace hA := hA.below hb3
      clear hb3
      have hrow : ∃ g cap cur KS, 0 < B → va = some ⟨g, 0, none⟩ ∧ vc = cap ∧ ActsRow w3 w1.heap.size g cur KS B (acN M s) := by
        rcases Nat.eq_zero_or_pos B with h0 | hpos
        · exact ⟨0, 0, #[], fun _ => undef, fun h => by omega⟩
        · obtain ⟨g, cap, cur, KS, hsl, hR⟩ := hA.row hpos
          simp only [Value.slice.injEq] at hsl
          exact ⟨g, cap, cur, KS, fun _ => ⟨hsl.1, hsl.2.2, hR⟩⟩
      obtain ⟨g, cap, cur, KS, hrow⟩ := hrow
      clear hA
      rcases Nat.eq_zero_or_pos B with h0 | hpos
      · subst h0
        clear hrow
        go_wp2_with fail
        go_loopw [9] (fun a9 wr => a9 = .int .i64 0 ∧ Below w.heap.size w wr) (fun _ _ => 0)
        case atStart => exact ⟨rfl, gb⟩
        case round =>
          obtain ⟨rfl, gb⟩ := hrel
          go_wp2_with fail
          refine (wakes_any _).mono ?_
          rintro e w4 ⟨rfl, hb4⟩
          go_wp2_with fail
          go_ret
          exact ⟨rfl, below_of hb4 gb⟩
      obtain ⟨rfl, rfl, hR⟩ := hrow hpos
      clear hrow
      go_wp2_with fail
      go_loopw [9] (fun a9 wr => ∃ i : Nat, i ≤ B ∧ a9 = .int .i64 i ∧ wr.heap[w.heap.size]? = some (.cells C 25) ∧ ActsRow wr w1.heap.size g cur KS B (acN M s) ∧ Below w.heap.size w wr) (fun a9 _ => B - (intOf a9).toNat)
      case atStart => exact ⟨0, by omega, rfl, hK, hR, gb⟩
      case round =>
        clear hK hR gb
        obtain ⟨i, hi, rfl, hK, hR, gb⟩ := hrel
        by_cases hiN : i < B
        · have hiB : (i : Int) < B := by omega
          have hwn := act_wn hr (stN M s i)
          have hk18n : (acN M s i).k < 18 := hwn.kind
          have hk18 : ((acN M s i).k : Int) < 18 := by omega
          have hk17 : ¬ (17 : Int) < ((acN M s i).k : Int) := by omega
          have hkw : ¬ M.W (acN M s i).k < 1 := by
            have h : 1 ≤ M.W (acN M s i).k := act_weight hr (stN M s i)
            omega
          have hszi : i * 7 + 7 ≤ cur.size := by
            have h := hR.sz
            have := Nat.mul_le_mul_right 7 (show i + 1 ≤ B by omega)
            omega
          clear hwn
          go_wp2_with fail
          refine Draw.wp_region_pure mixed 26 30 (by kernel_rfl) [.slice (some ⟨g, 0, none⟩) B vc, .int .i64 (i : Int), .pointer (some ⟨g, i * 7, none⟩), .pointer (some ⟨g, i * 7, none⟩), .int .u8 ((acN M s i).k : Int), .bool false, .bool false, .slice (some ⟨g, 0, none⟩) B vc, .int .i64 (i : Int), .pointer (some ⟨g, i * 7, none⟩), .pointer (some ⟨g, i * 7, none⟩), .int .u8 ((acN M s i).k : Int), .pointer (some ⟨w.heap.size, 0, none⟩), .pointer (some ⟨w.heap.size, (acN M s i).k, none⟩), .int .i64 (M.W (acN M s i).k), .bool false, .bool false, .bool false, .agg C, .slice (some ⟨g, 0, none⟩) B vc, .int .i64 (i : Int), .pointer (some ⟨g, i * 7, none⟩), acv (acN M s i) (KS i), .bool true, .bool false, .bool false] _ rfl ?_ ?_
          · simp only [Draw.puts, List.take_succ_cons, List.take_zero, if_true, Act.put, List.setIfInBounds_toArray, List.set_cons_zero, List.set_cons_succ, Nat.zero_add, Nat.reduceAdd, List.getD_cons_zero, List.getD_cons_succ]
            refine ⟨?_, ?_, ?_, ?_, ?_, ?_, ?_, ?_, ?_, ?_, ?_, ?_, ?_, ?_, ?_, ?_, ?_, ?_, ?_, ?_, ?_, ?_, ?_, ?_, ?_, ?_, trivial⟩
            all_goals refine fun w1 hb1 => .inl ⟨rfl, fun K hk => ?_⟩
            · go_simp
              exact hk w1 (Below.refl _ _)
            · go_simp
              exact hk w1 (Below.refl _ _)
            · have m1 := hiB
              go_simp
              exact hk w1 (Below.refl _ _)
            · go_simp
              exact hk w1 (Below.refl _ _)
            · have c0 := (hR.below hb1).kindAt hiN
              go_simp
              exact hk w1 (Below.refl _ _)
            · go_simp
              rw [show decide ((17 : Int) < ((acN M s i).k : Int)) = false from decide_eq_false (by omega)]
              exact hk w1 (Below.refl _ _)
            · go_simp
              exact hk w1 (Below.refl _ _)
            · go_simp
              exact hk w1 (Below.refl _ _)
            · go_simp
              exact hk w1 (Below.refl _ _)
            · have m1 := hiB
              go_simp
              exact hk w1 (Below.refl _ _)
            · go_simp
              exact hk w1 (Below.refl _ _)
            · have c0 := (hR.below hb1).kindAt hiN
              go_simp
              exact hk w1 (Below.refl _ _)
            · go_simp
              exact hk w1 (Below.refl _ _)
            · have m1 := hk18
              go_simp
              exact hk w1 (Below.refl _ _)
            · have c0 := (cell_of (kept hb1 hK) (acN M s i).k).trans (hC.w _ hk18n)
              go_simp
              exact hk w1 (Below.refl _ _)
            · go_simp
              rw [show decide (M.W (acN M s i).k < 1) = false from decide_eq_false (by omega)]
              exact hk w1 (Below.refl _ _)
            · go_simp
              exact hk w1 (Below.refl _ _)
            · go_simp
              exact hk w1 (Below.refl _ _)
            · refine wp_load_row 25 _ rfl w.heap.size rfl 25 C (0, 0) _ (kept hb1 hK) Try.underlying25 rfl h23 ?_
              exact hk w1 (Below.refl _ _)
            · go_simp
              exact hk w1 (Below.refl _ _)
            · go_simp
              exact hk w1 (Below.refl _ _)
            · have m1 := hiB
              go_simp
              exact hk w1 (Below.refl _ _)
            · refine wp_load_part 35 _ rfl g (i * 7) 7 rfl 35 cur (0, 0) _ (kept hb1 hR.hg) Try.underlying35 rfl size35 hszi ?_
              rw [hR.part hiN, acv_cells]
              exact hk w1 (Below.refl _ _)
            · go_simp
              refine (within_any C M hF _ (hM.below (below_of hb1 gb)) (acN M s i) (act_wn hr _) (KS i) _ ((hR.below hb1).keep i hiN)).mono ?_
              rintro e w2 ⟨rfl, hb2⟩
              exact hk w2 hb2
            · go_simp
              exact hk w1 (Below.refl _ _)
            · go_simp
              exact hk w1 (Below.refl _ _)
          · simp only [Draw.puts, List.take_succ_cons, List.take_zero, List.drop_succ_cons, List.drop_nil, if_true, Act.put, List.setIfInBounds_toArray, List.set_cons_zero, List.set_cons_succ, Nat.zero_add, Nat.reduceAdd, List.getD_cons_zero, List.getD_cons_succ]
            intro w1 hb1
            replace hK := kept hb1 hK
            replace hR := hR.below hb1
            replace gb := below_of hb1 gb
            clear hb1
            go_wp2_with fail
            go_roundw
            case rel => exact ⟨i + 1, by omega, by go_num, hK, hR, gb⟩
            case measure => simp [intOf]; omega
        · obtain rfl : i = B := by omega
          go_wp2_with fail
          refine (wakes_any _).mono ?_
          rintro e w4 ⟨rfl, hb4⟩
          go_wp2_with fail
          go_ret
          exact ⟨rfl, below_of hb4 gb⟩

end Go.Proofs.Ytgjdkdfgfbonfaa
