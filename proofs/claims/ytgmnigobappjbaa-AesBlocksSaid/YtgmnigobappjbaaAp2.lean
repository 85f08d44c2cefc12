/- At every key, two blocks are enciphered to one just if they are the same: AesApart. Conditions: none. -/
import Derived.Test.YtgmnigobappjbaaB7
import Derived.Test.YtgmnigobappjbaaEq
namespace Go.Proofs.Ytgmnigobappjbaa
open Go.RowKit

theorem sameB_iff {n : Nat} {f g : Nat → UInt8} : sameB n f g = true ↔ Same n f g := by
  unfold sameB Same
  simp [List.all_eq_true]
theorem same_aes (key x y : Nat → UInt8) : sameB 16 (aesN key x) (aesN key y) = sameB 16 x y := by
  rw [Bool.eq_iff_iff, sameB_iff, sameB_iff]
  exact ⟨aes_inj, aes_same⟩

theorem guard24 : Try.prog.eqGuardType Try.prog.depth 24 = false := by kernel_rfl
theorem info5 : ∃ i, Try.prog.info? 5 = some i := ⟨_, rfl⟩
theorem cells5 : Try.prog.cellsOf 5 = 1 := by kernel_rfl

theorem eql24 (f g : Nat → UInt8) (w : World) : (Op.equalIn 10000 24 (.agg (arr 16 f)) (.agg (arr 16 g))).run Try.prog w = .ok (sameB 16 f g) w := by
  obtain ⟨i, hi⟩ := info5
  exact run_eql_arr Try.underlying24 hi cells5 Try.underlying5 f g w

set_option maxRecDepth 100000 in
set_option maxHeartbeats 1600000 in
theorem apart_any (key x y : Nat → UInt8) (w : World) : Calls Try.prog 4 #[.agg (arr 32 key), .agg (arr 16 x), .agg (arr 16 y)] w fun e w' => e = .returned (.bool true) ∧ Below w.heap.size w w' := by
  have hz : ∀ f : Nat → UInt8, (Try.prog.info? 24).map (·.size) = some (arr 16 f).size := fun f => by rw [arr_size]; exact size24
  have hz3 : ∀ f : Nat → UInt8, (Try.prog.info? 23).map (·.size) = some (arr 32 f).size := fun f => by rw [arr_size]; exact size23
  replace hz := hide hz
  replace hz3 := hide hz3
  have h1 : (((w.alloc (.cells (arr 32 key) 23)).alloc (.cells (arr 16 x) 24)).alloc (.cells (arr 16 y) 24)).heap[w.heap.size]? = some (.cells (arr 32 key) 23) := old_alloc (old_alloc new_alloc)
  have h2 : (((w.alloc (.cells (arr 32 key) 23)).alloc (.cells (arr 16 x) 24)).alloc (.cells (arr 16 y) 24)).heap[w.heap.size + 1]? = some (.cells (arr 16 x) 24) := by
    have h := new_alloc (w := w.alloc (.cells (arr 32 key) 23)) (o := .cells (arr 16 x) 24)
    rw [World.size_alloc] at h
    exact old_alloc h
  have h3 : (((w.alloc (.cells (arr 32 key) 23)).alloc (.cells (arr 16 x) 24)).alloc (.cells (arr 16 y) 24)).heap[w.heap.size + 2]? = some (.cells (arr 16 y) 24) := by
    have h := new_alloc (w := (w.alloc (.cells (arr 32 key) 23)).alloc (.cells (arr 16 x) 24)) (o := .cells (arr 16 y) 24)
    rw [World.size_alloc, World.size_alloc] at h
    exact h
  have hb0 : Below w.heap.size w (((w.alloc (.cells (arr 32 key) 23)).alloc (.cells (arr 16 x) 24)).alloc (.cells (arr 16 y) 24)) := (((Below.refl _ _).alloc (Nat.le_refl _) _).alloc (by simp) _).alloc (by simp; omega) _
  go_enter Try.func4, Try.ntmps4
  go_wp2_with fail
  generalize (((w.alloc (.cells (arr 32 key) 23)).alloc (.cells (arr 16 x) 24)).alloc (.cells (arr 16 y) 24)) = W0 at h1 h2 h3 hb0 ⊢
  refine (awake_any _).mono ?_
  rintro e W ⟨rfl, hb⟩
  replace h1 := kept hb h1
  replace h2 := kept hb h2
  replace h3 := kept hb h3
  replace hb0 := below_of hb hb0
  clear hb
  go_wp2_with fail
  refine Draw.wp_region_pure mixed 12 8 (by kernel_rfl) [.agg (arr 32 key), .agg (arr 16 x), .agg (arr 16 (aesN key x)), .agg (arr 32 key), .agg (arr 16 y), .agg (arr 16 (aesN key y)), .bool (sameB 16 (aesN key x) (aesN key y)), .agg (arr 16 x), .agg (arr 16 y), .bool (sameB 16 x y), .bool (sameB 16 (aesN key x) (aesN key y) == sameB 16 x y), .bool (sameB 16 (aesN key x) (aesN key y) == sameB 16 x y)] _ rfl ?_ ?_
  · simp only [Draw.puts, List.take_succ_cons, List.take_zero, if_true, Act.put, List.setIfInBounds_toArray, List.set_cons_zero, List.set_cons_succ, Nat.zero_add, Nat.reduceAdd, List.getD_cons_zero, List.getD_cons_succ]
    refine ⟨?_, ?_, ?_, ?_, ?_, ?_, ?_, ?_, ?_, ?_, ?_, ?_, trivial⟩
    all_goals refine fun w1 hb1 => .inl ⟨rfl, fun K hk => ?_⟩
    · refine wp_load_row 23 _ rfl w.heap.size rfl 23 (arr 32 key) (0, 0) _ (kept hb1 h1) Try.underlying23 rfl (hz3.out _) ?_
      exact hk w1 (Below.refl _ _)
    · refine wp_load_row 24 _ rfl (w.heap.size + 1) rfl 24 (arr 16 x) (0, 0) _ (kept hb1 h2) Try.underlying24 rfl (hz.out _) ?_
      exact hk w1 (Below.refl _ _)
    · go_simp
      refine (Block_any key x _).mono ?_
      rintro e w2 ⟨rfl, hb2⟩
      exact hk w2 hb2
    · refine wp_load_row 23 _ rfl w.heap.size rfl 23 (arr 32 key) (0, 0) _ (kept hb1 h1) Try.underlying23 rfl (hz3.out _) ?_
      exact hk w1 (Below.refl _ _)
    · refine wp_load_row 24 _ rfl (w.heap.size + 2) rfl 24 (arr 16 y) (0, 0) _ (kept hb1 h3) Try.underlying24 rfl (hz.out _) ?_
      exact hk w1 (Below.refl _ _)
    · go_simp
      refine (Block_any key y _).mono ?_
      rintro e w2 ⟨rfl, hb2⟩
      exact hk w2 hb2
    · have hgd := guard24
      have hq := eql24 (aesN key x) (aesN key y) w1
      go_simp
      exact hk w1 (Below.refl _ _)
    · refine wp_load_row 24 _ rfl (w.heap.size + 1) rfl 24 (arr 16 x) (0, 0) _ (kept hb1 h2) Try.underlying24 rfl (hz.out _) ?_
      exact hk w1 (Below.refl _ _)
    · refine wp_load_row 24 _ rfl (w.heap.size + 2) rfl 24 (arr 16 y) (0, 0) _ (kept hb1 h3) Try.underlying24 rfl (hz.out _) ?_
      exact hk w1 (Below.refl _ _)
    · have hgd := guard24
      have hq := eql24 x y w1
      go_simp
      exact hk w1 (Below.refl _ _)
    · go_simp
      exact hk w1 (Below.refl _ _)
    · go_simp
      exact hk w1 (Below.refl _ _)
  · simp only [Draw.puts, List.take_succ_cons, List.take_zero, List.drop_succ_cons, List.drop_zero, List.drop_nil, if_true, Act.put, List.setIfInBounds_toArray, List.set_cons_zero, List.set_cons_succ, Nat.zero_add, Nat.reduceAdd, List.getD_cons_zero, List.getD_cons_succ]
    intro w1 hb1
    have hbl := below_of hb1 hb0
    clear hb1 hb0 h1 h2 h3
    go_wp2_with fail
    go_ret
    exact ⟨ret_bool (by rw [same_aes]; simp), hbl⟩

end Go.Proofs.Ytgmnigobappjbaa
