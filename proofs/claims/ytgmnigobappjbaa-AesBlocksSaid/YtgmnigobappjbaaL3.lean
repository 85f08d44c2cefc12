/- A block, enciphered, is the document's: AesBlocks. Conditions: none. -/
import Derived.Test.YtgmnigobappjbaaR6
import Derived.Test.YtgmnigobappjbaaAp2
namespace Go.Proofs.Ytgmnigobappjbaa
open Go.RowKit

theorem sameB_refl (n : Nat) (f : Nat → UInt8) : sameB n f f = true := sameB_iff.2 fun _ _ => rfl

set_option maxRecDepth 100000 in
set_option maxHeartbeats 1600000 in
theorem blocks_any (key x : Nat → UInt8) (w : World) : Calls Try.prog 3 #[.agg (arr 32 key), .agg (arr 16 x)] w fun e w' => e = .returned (.bool true) ∧ Below w.heap.size w w' := by
  have hz : ∀ f : Nat → UInt8, (Try.prog.info? 24).map (·.size) = some (arr 16 f).size := fun f => by rw [arr_size]; exact size24
  have hz3 : ∀ f : Nat → UInt8, (Try.prog.info? 23).map (·.size) = some (arr 32 f).size := fun f => by rw [arr_size]; exact size23
  replace hz := hide hz
  replace hz3 := hide hz3
  have h1 : ((w.alloc (.cells (arr 32 key) 23)).alloc (.cells (arr 16 x) 24)).heap[w.heap.size]? = some (.cells (arr 32 key) 23) := old_alloc new_alloc
  have h2 : ((w.alloc (.cells (arr 32 key) 23)).alloc (.cells (arr 16 x) 24)).heap[w.heap.size + 1]? = some (.cells (arr 16 x) 24) := by
    have h := new_alloc (w := w.alloc (.cells (arr 32 key) 23)) (o := .cells (arr 16 x) 24)
    rw [World.size_alloc] at h
    exact h
  have hb0 : Below w.heap.size w ((w.alloc (.cells (arr 32 key) 23)).alloc (.cells (arr 16 x) 24)) := ((Below.refl _ _).alloc (Nat.le_refl _) _).alloc (by simp) _
  go_enter Try.func3, Try.ntmps3
  go_wp2_with fail
  generalize ((w.alloc (.cells (arr 32 key) 23)).alloc (.cells (arr 16 x) 24)) = W0 at h1 h2 hb0 ⊢
  refine (awake_any _).mono ?_
  rintro e W ⟨rfl, hb⟩
  replace h1 := kept hb h1
  replace h2 := kept hb h2
  replace hb0 := below_of hb hb0
  clear hb
  go_wp2_with fail
  refine Draw.wp_region_pure mixed 8 8 (by kernel_rfl) [.agg (arr 32 key), .agg (arr 16 x), .agg (arr 16 (aesN key x)), .agg (arr 32 key), .agg (arr 16 x), .agg (arr 16 (aesN key x)), .bool true, .bool true] _ rfl ?_ ?_
  · simp only [Draw.puts, List.take_succ_cons, List.take_zero, if_true, Act.put, List.setIfInBounds_toArray, List.set_cons_zero, List.set_cons_succ, Nat.zero_add, Nat.reduceAdd, List.getD_cons_zero, List.getD_cons_succ]
    refine ⟨?_, ?_, ?_, ?_, ?_, ?_, ?_, ?_, trivial⟩
    all_goals refine fun w1 hb1 => .inl ⟨rfl, fun K hk => ?_⟩
    · refine wp_load_row 23 _ rfl w.heap.size rfl 23 (arr 32 key) (0, 0) _ (kept hb1 h1) Try.underlying23 rfl (hz3.out _) ?_
      exact hk w1 (Below.refl _ _)
    · refine wp_load_row 24 _ rfl (w.heap.size + 1) rfl 24 (arr 16 x) (0, 0) _ (kept hb1 h2) Try.underlying24 rfl (hz.out _) ?_
      exact hk w1 (Below.refl _ _)
    · go_simp
      refine (Block_any key x _).mono ?_
      rintro e w2 ⟨rfl, hb2⟩
      exact hk w2 hb2
    · refine wp_load_row 23 _ rfl w.heap.size rfl 23 (arr 32 key) (0, 0) _ (kept hb1 h1) Try.underlying23 rfl (hz3.out _) ?_
      exact hk w1 (Below.refl _ _)
    · refine wp_load_row 24 _ rfl (w.heap.size + 1) rfl 24 (arr 16 x) (0, 0) _ (kept hb1 h2) Try.underlying24 rfl (hz.out _) ?_
      exact hk w1 (Below.refl _ _)
    · go_simp
      refine (refBlock_any key x _).mono ?_
      rintro e w2 ⟨rfl, hb2⟩
      exact hk w2 hb2
    · have hgd := guard24
      have hq := eql24 (aesN key x) (aesN key x) w1
      rw [sameB_refl] at hq
      go_simp
      exact hk w1 (Below.refl _ _)
    · go_simp
      exact hk w1 (Below.refl _ _)
  · simp only [Draw.puts, List.take_succ_cons, List.take_zero, List.drop_succ_cons, List.drop_zero, List.drop_nil, if_true, Act.put, List.setIfInBounds_toArray, List.set_cons_zero, List.set_cons_succ, Nat.zero_add, Nat.reduceAdd, List.getD_cons_zero, List.getD_cons_succ]
    intro w1 hb1
    have hbl := below_of hb1 hb0
    clear hb1 hb0 h1 h2
    go_wp2_with fail
    go_ret
    exact ⟨rfl, hbl⟩

end Go.Proofs.Ytgmnigobappjbaa
