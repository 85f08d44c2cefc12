/- ScriptMixes: whether a mix is right, and the kind of a number, is the document's. Conditions: none. -/
import Derived.Test.YtgjdkdfgfbonfaaM3
import Derived.Test.YtgjdkdfgfbonfaaWk
import Derived.Test.YtgjdkdfgfbonfaaN7
import Derived.Test.YtgjdkdfgfbonfaaDraw
namespace Go.Proofs.Ytgjdkdfgfbonfaa
open Go.RowKit

set_option maxRecDepth 100000 in
set_option maxHeartbeats 4000000 in
theorem law7_any (C : Array Value) (M : Mx) (n : Int) (hn : n ≤ 9223372036854775807) (w : World) (hM : MixAt w C M) :
    Calls Try.prog 7 #[.agg C, .int .i64 n] w fun e w' => e = .returned (.bool true) ∧ Below w.heap.size w w' := by
  obtain ⟨vp, vv, hC, hp, hv⟩ := hM.ex
  have h23 : (Try.prog.info? 25).map (·.size) = some C.size := by rw [hC.size]; exact size25
  replace h23 := hide h23
  have hK : (w.alloc (.cells C 25)).heap[w.heap.size]? = some (.cells C 25) := new_alloc
  have gb : Below w.heap.size w (w.alloc (.cells C 25)) := (Below.refl _ _).alloc (Nat.le_refl _) _
  clear hC hp hv
  go_enter Try.func7, Try.ntmps7
  go_wp2_with (with_reducible refine wpList_load_row rfl 25 _ rfl w.heap.size ?_ 25 C (0, 0) _ hK Try.underlying25 rfl h23.out ?_; rotate_left)
  all_goals try exact rfl
  refine (great_any C M _ (hM.below gb)).mono ?_
  rintro e w1 ⟨⟨b, rfl⟩, hb1⟩
  replace hK := kept hb1 hK
  replace gb := below_of hb1 gb
  clear hb1
  cases b with
  | true =>
    go_wp2_with fail
    refine (wakes_any _).mono ?_
    rintro e w2 ⟨rfl, hb2⟩
    go_wp2_with fail
    go_ret
    exact ⟨rfl, below_of hb2 gb⟩
  | false =>
    go_wp2_with fail
    refine Draw.wp_region_pure mixed 21 24 (by kernel_rfl) [.agg C, .bool (rightB M), .agg C, .agg C, .bool (rightB M), .bool true, .bool true, .agg C, .int .i64 n, .int .u8 (kindN M n : Nat), .int .i64 (kindN M n : Nat), .agg C, .agg C, .int .i64 n, .int .i64 (kindN M n : Nat), .bool true, .bool true, .bool true, .bool true, .bool true, .bool true] _ rfl ?_ ?_
    · simp only [Draw.puts, List.take_succ_cons, List.take_zero, if_true, Act.put, List.setIfInBounds_toArray, List.set_cons_zero, List.set_cons_succ, Nat.zero_add, Nat.reduceAdd, List.getD_cons_zero, List.getD_cons_succ]
      refine ⟨?_, ?_, ?_, ?_, ?_, ?_, ?_, ?_, ?_, ?_, ?_, ?_, ?_, ?_, ?_, ?_, ?_, ?_, ?_, ?_, ?_, trivial⟩
      all_goals refine fun w1 hb1 => .inl ⟨rfl, fun K hk => ?_⟩
      · refine wp_load_row 25 _ rfl w.heap.size rfl 25 C (0, 0) _ (kept hb1 hK) Try.underlying25 rfl h23.out ?_
        exact hk w1 (Below.refl _ _)
      · go_simp
        refine (right_any C M _ (hM.below (below_of hb1 gb))).mono ?_
        rintro e w2 ⟨rfl, hb2⟩
        exact hk w2 hb2
      · refine wp_load_row 25 _ rfl w.heap.size rfl 25 C (0, 0) _ (kept hb1 hK) Try.underlying25 rfl h23.out ?_
        exact hk w1 (Below.refl _ _)
      · go_simp
        refine (given_any C M _ (hM.below (below_of hb1 gb))).mono ?_
        rintro e w2 ⟨rfl, hb2⟩
        exact hk w2 hb2
      · go_simp
        refine (refRight_any C M _ (hM.below (below_of hb1 gb))).mono ?_
        rintro e w2 ⟨rfl, hb2⟩
        exact hk w2 hb2
      · go_simp
        exact hk w1 (Below.refl _ _)
      · go_simp
        exact hk w1 (Below.refl _ _)
      · refine wp_load_row 25 _ rfl w.heap.size rfl 25 C (0, 0) _ (kept hb1 hK) Try.underlying25 rfl h23.out ?_
        exact hk w1 (Below.refl _ _)
      · go_simp
        exact hk w1 (Below.refl _ _)
      · go_simp
        refine (kind_any C M n hn _ (hM.below (below_of hb1 gb))).mono ?_
        rintro e w2 ⟨rfl, hb2⟩
        exact hk w2 hb2
      · have hq := kindN_le M n
        have hw8 : IntKind.i64.wrap ((kindN M n : Nat) : Int) = ((kindN M n : Nat) : Int) := IntWalk.i64_in _ (by omega)
        go_simp
        exact hk w1 (Below.refl _ _)
      · refine wp_load_row 25 _ rfl w.heap.size rfl 25 C (0, 0) _ (kept hb1 hK) Try.underlying25 rfl h23.out ?_
        exact hk w1 (Below.refl _ _)
      · go_simp
        refine (given_any C M _ (hM.below (below_of hb1 gb))).mono ?_
        rintro e w2 ⟨rfl, hb2⟩
        exact hk w2 hb2
      · go_simp
        exact hk w1 (Below.refl _ _)
      · go_simp
        refine (refKind_any C M n _ (hM.below (below_of hb1 gb))).mono ?_
        rintro e w2 ⟨rfl, hb2⟩
        exact hk w2 hb2
      · go_simp
        exact hk w1 (Below.refl _ _)
      · go_simp
        exact hk w1 (Below.refl _ _)
      · go_simp
        exact hk w1 (Below.refl _ _)
      · go_simp
        refine (wakes_any _).mono ?_
        rintro e w2 ⟨rfl, hb2⟩
        exact hk w2 hb2
      · go_simp
        exact hk w1 (Below.refl _ _)
      · go_simp
        exact hk w1 (Below.refl _ _)
    · simp only [Draw.puts, List.take_succ_cons, List.take_zero, List.drop_succ_cons, List.drop_nil, if_true, Act.put, List.setIfInBounds_toArray, List.set_cons_zero, List.set_cons_succ, Nat.zero_add, Nat.reduceAdd, List.getD_cons_zero, List.getD_cons_succ]
      intro w2 hb2
      have hbl := below_of hb2 gb
      clear hb2 gb hK
      go_wp2_with fail
      go_ret
      exact ⟨rfl, hbl⟩

end Go.Proofs.Ytgjdkdfgfbonfaa
