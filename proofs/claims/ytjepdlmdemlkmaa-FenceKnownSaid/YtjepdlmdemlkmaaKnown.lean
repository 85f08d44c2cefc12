/- FenceKnown: the chapter's examples, and which stands are right. Conditions: none. -/
import Derived.Test.YtjepdlmdemlkmaaPlays2
import Derived.Test.YtjepdlmdemlkmaaTop
namespace Go.Proofs.Ytjepdlmdemlkmaa
open Go.RowKit Go.ChangeShapes Go.WideShapes Go.ChangeAt

theorem lt_of_heap' {w : World} {b : Nat} {o : Obj} (h : w.heap[b]? = some o) : b < w.heap.size := (Array.getElem?_eq_some_iff.1 h).1

theorem k_1 (w : World) : Calls Try.prog 18 #[.agg #[.int .i64 0, .int .i64 0, .int .i64 0], .int .i64 1] w fun e w' => e = .returned (.tuple #[.agg #[.int .i64 1, .int .i64 1, .int .i64 1], .int .i64 0]) ∧ Below w.heap.size w w' :=
  begun_any 0 0 0 1 w
theorem k_2 (w : World) : Calls Try.prog 12 #[.agg #[.int .i64 1, .int .i64 1, .int .i64 1], .int .i64 2] w fun e w' => e = .returned (.tuple #[.agg #[.int .i64 3, .int .i64 2, .int .i64 1], .int .i64 0]) ∧ Below w.heap.size w w' :=
  heard_any 1 1 1 2 w
theorem k_3 (w : World) : Calls Try.prog 19 #[.agg #[.int .i64 3, .int .i64 2, .int .i64 1], .bool false] w fun e w' => e = .returned (.tuple #[.agg #[.int .i64 2, .int .i64 2, .int .i64 1], .int .i64 0]) ∧ Below w.heap.size w w' :=
  demoted_no 3 2 1 0 w
theorem k_4 (w : World) : Calls Try.prog 11 #[.agg #[.int .i64 2, .int .i64 2, .int .i64 1], .int .i64 2] w fun e w' => e = .returned (.tuple #[.agg #[.int .i64 2, .int .i64 2, .int .i64 1], .int .i64 12]) ∧ Below w.heap.size w w' :=
  promoted_any 2 2 1 2 w
theorem k_5 (w : World) : Calls Try.prog 11 #[.agg #[.int .i64 2, .int .i64 2, .int .i64 1], .int .i64 3] w fun e w' => e = .returned (.tuple #[.agg #[.int .i64 1, .int .i64 3, .int .i64 3], .int .i64 0]) ∧ Below w.heap.size w w' :=
  promoted_any 2 2 1 3 w
theorem k_6 (w : World) : Calls Try.prog 12 #[.agg #[.int .i64 1, .int .i64 3, .int .i64 3], .int .i64 2] w fun e w' => e = .returned (.tuple #[.agg #[.int .i64 1, .int .i64 3, .int .i64 3], .int .i64 12]) ∧ Below w.heap.size w w' :=
  heard_any 1 3 3 2 w
theorem k_7 (w : World) : Calls Try.prog 20 #[.agg #[.int .i64 0, .int .i64 0, .int .i64 0], .int .i64 4] w fun e w' => e = .returned (.tuple #[.agg #[.int .i64 2, .int .i64 4, .int .i64 0], .int .i64 0]) ∧ Below w.heap.size w w' :=
  joined_any 0 0 0 4 w
theorem k_8 (w : World) : Calls Try.prog 19 #[.agg #[.int .i64 2, .int .i64 4, .int .i64 0], .bool false] w fun e w' => e = .returned (.tuple #[.agg #[.int .i64 2, .int .i64 4, .int .i64 0], .int .i64 11]) ∧ Below w.heap.size w w' :=
  demoted_no 2 4 0 0 w
theorem k_9 (w : World) : Calls Try.prog 12 #[.agg #[.int .i64 0, .int .i64 0, .int .i64 0], .int .i64 1] w fun e w' => e = .returned (.tuple #[.agg #[.int .i64 0, .int .i64 0, .int .i64 0], .int .i64 30]) ∧ Below w.heap.size w w' :=
  heard_any 0 0 0 1 w
theorem k_10 (w : World) : Calls Try.prog 19 #[.agg #[.int .i64 3, .int .i64 2, .int .i64 1], .bool true] w fun e w' => e = .returned (.tuple #[.agg #[.int .i64 3, .int .i64 2, .int .i64 1], .int .i64 11]) ∧ Below w.heap.size w w' :=
  demoted_yes 3 2 1 0 w
theorem k_11 (w : World) : Calls Try.prog 18 #[.agg #[.int .i64 1, .int .i64 1, .int .i64 1], .int .i64 5] w fun e w' => e = .returned (.tuple #[.agg #[.int .i64 1, .int .i64 1, .int .i64 1], .int .i64 11]) ∧ Below w.heap.size w w' :=
  begun_any 1 1 1 5 w
theorem k_12 (w : World) : Calls Try.prog 18 #[.agg #[.int .i64 0, .int .i64 0, .int .i64 0], .int .i64 0] w fun e w' => e = .returned (.tuple #[.agg #[.int .i64 0, .int .i64 0, .int .i64 0], .int .i64 1]) ∧ Below w.heap.size w w' :=
  begun_any 0 0 0 0 w
theorem k_13 (w : World) : Calls Try.prog 11 #[.agg #[.int .i64 0, .int .i64 0, .int .i64 0], .int .i64 1] w fun e w' => e = .returned (.tuple #[.agg #[.int .i64 0, .int .i64 0, .int .i64 0], .int .i64 30]) ∧ Below w.heap.size w w' :=
  promoted_any 0 0 0 1 w
theorem k_14 (w : World) : Calls Try.prog 12 #[.agg #[.int .i64 1, .int .i64 1, .int .i64 1], .int .i64 1] w fun e w' => e = .returned (.tuple #[.agg #[.int .i64 1, .int .i64 1, .int .i64 1], .int .i64 0]) ∧ Below w.heap.size w w' :=
  heard_any 1 1 1 1 w

theorem cell_of' {w : World} {b : Nat} {cs : Array Value} {t : TypeId} (h : w.heap[b]? = some (.cells cs t)) (j : Nat) : w.cell? ⟨b, j, none⟩ = cs[j]? := by
  simp [World.cell?, h]

/-- The ten stands that are not right. -/
theorem wrong_at (k : Nat) (h : k < 10) : ∃ r s g : Int, (#[.int .i64 4, .int .i64 0, .int .i64 0, .int .i64 (-1), .int .i64 0, .int .i64 0, .int .i64 0, .int .i64 1, .int .i64 0, .int .i64 1, .int .i64 0, .int .i64 0, .int .i64 1, .int .i64 2, .int .i64 1, .int .i64 2, .int .i64 0, .int .i64 0, .int .i64 2, .int .i64 1, .int .i64 2, .int .i64 2, .int .i64 1, .int .i64 (-1), .int .i64 3, .int .i64 1, .int .i64 1, .int .i64 3, .int .i64 1, .int .i64 0] : Array Value)[k * 3]? = some (.int .i64 r) ∧ (#[.int .i64 4, .int .i64 0, .int .i64 0, .int .i64 (-1), .int .i64 0, .int .i64 0, .int .i64 0, .int .i64 1, .int .i64 0, .int .i64 1, .int .i64 0, .int .i64 0, .int .i64 1, .int .i64 2, .int .i64 1, .int .i64 2, .int .i64 0, .int .i64 0, .int .i64 2, .int .i64 1, .int .i64 2, .int .i64 2, .int .i64 1, .int .i64 (-1), .int .i64 3, .int .i64 1, .int .i64 1, .int .i64 3, .int .i64 1, .int .i64 0] : Array Value)[k * 3 + 1]? = some (.int .i64 s) ∧ (#[.int .i64 4, .int .i64 0, .int .i64 0, .int .i64 (-1), .int .i64 0, .int .i64 0, .int .i64 0, .int .i64 1, .int .i64 0, .int .i64 1, .int .i64 0, .int .i64 0, .int .i64 1, .int .i64 2, .int .i64 1, .int .i64 2, .int .i64 0, .int .i64 0, .int .i64 2, .int .i64 1, .int .i64 2, .int .i64 2, .int .i64 1, .int .i64 (-1), .int .i64 3, .int .i64 1, .int .i64 1, .int .i64 3, .int .i64 1, .int .i64 0] : Array Value)[k * 3 + 2]? = some (.int .i64 g) ∧
    rightB r s g = false ∧ writesN r s g = 1 ∧ doesN r s g 0 9 = (⟨r, s, g⟩, 1) := by
  have h10 : k = 0 ∨ k = 1 ∨ k = 2 ∨ k = 3 ∨ k = 4 ∨ k = 5 ∨ k = 6 ∨ k = 7 ∨ k = 8 ∨ k = 9 := by omega
  rcases h10 with rfl | rfl | rfl | rfl | rfl | rfl | rfl | rfl | rfl | rfl
  · exact ⟨4, 0, 0, rfl, rfl, rfl, by decide, by decide, by decide⟩
  · exact ⟨(-1), 0, 0, rfl, rfl, rfl, by decide, by decide, by decide⟩
  · exact ⟨0, 1, 0, rfl, rfl, rfl, by decide, by decide, by decide⟩
  · exact ⟨1, 0, 0, rfl, rfl, rfl, by decide, by decide, by decide⟩
  · exact ⟨1, 2, 1, rfl, rfl, rfl, by decide, by decide, by decide⟩
  · exact ⟨2, 0, 0, rfl, rfl, rfl, by decide, by decide, by decide⟩
  · exact ⟨2, 1, 2, rfl, rfl, rfl, by decide, by decide, by decide⟩
  · exact ⟨2, 1, (-1), rfl, rfl, rfl, by decide, by decide, by decide⟩
  · exact ⟨3, 1, 1, rfl, rfl, rfl, by decide, by decide, by decide⟩
  · exact ⟨3, 1, 0, rfl, rfl, rfl, by decide, by decide, by decide⟩

set_option maxRecDepth 100000 in
set_option maxHeartbeats 4000000 in
theorem known_walk (w : World) : Calls Try.prog 8 #[] w fun e w' => e = .returned (.bool true) ∧ Below w.heap.size w w' := by
  go_enter Try.func8, Try.ntmps8
  go_wp2_with fail
  refine (k_1 _).mono ?_
  rintro e w1 ⟨rfl, hb1⟩
  have Kt1_1 := kept hb1 new_alloc
  have hbel1 := below_of hb1 (Below.alloc (Below.refl _ _) (Nat.le_refl _) _)
  clear hb1
  go_wp2_with fail
  refine (k_2 _).mono ?_
  rintro e w2 ⟨rfl, hb2⟩
  have Kt1_2 := kept hb2 (old_alloc Kt1_1)
  have Kt2_2 := kept hb2 new_alloc
  have hbel2 := below_of hb2 (Below.alloc hbel1 hbel1.size _)
  clear hb2 Kt1_1 hbel1
  go_wp2_with fail
  refine (k_3 _).mono ?_
  rintro e w3 ⟨rfl, hb3⟩
  have Kt1_3 := kept hb3 (old_alloc Kt1_2)
  have Kt2_3 := kept hb3 (old_alloc Kt2_2)
  have Kt4_3 := kept hb3 new_alloc
  have hbel3 := below_of hb3 (Below.alloc hbel2 hbel2.size _)
  clear hb3 Kt1_2 Kt2_2 hbel2
  go_wp2_with fail
  refine (k_4 _).mono ?_
  rintro e w4 ⟨rfl, hb4⟩
  have Kt1_4 := kept hb4 (old_alloc Kt1_3)
  have Kt2_4 := kept hb4 (old_alloc Kt2_3)
  have Kt4_4 := kept hb4 (old_alloc Kt4_3)
  have Kt6_4 := kept hb4 new_alloc
  have hbel4 := below_of hb4 (Below.alloc hbel3 hbel3.size _)
  clear hb4 Kt1_3 Kt2_3 Kt4_3 hbel3
  obtain ⟨c0_t6, c1_t6, c2_t6, f0_t6, f1_t6, f2_t6⟩ := cells3 Kt6_4
  have hlt_t6 := lt_of_heap' Kt6_4
  go_wp2_with fail
  clear c0_t6 c1_t6 c2_t6 f0_t6 f1_t6 f2_t6 hlt_t6
  refine (k_5 _).mono ?_
  rintro e w5 ⟨rfl, hb5⟩
  have Kt1_5 := kept hb5 (old_alloc Kt1_4)
  have Kt2_5 := kept hb5 (old_alloc Kt2_4)
  have Kt4_5 := kept hb5 (old_alloc Kt4_4)
  have Kt6_5 := kept hb5 (old_alloc Kt6_4)
  have hbel5 := below_of hb5 (Below.alloc hbel4 hbel4.size _)
  clear hb5 Kt1_4 Kt2_4 Kt4_4 Kt6_4 hbel4
  go_wp2_with fail
  refine (k_6 _).mono ?_
  rintro e w6 ⟨rfl, hb6⟩
  have Kt1_6 := kept hb6 (old_alloc Kt1_5)
  have Kt2_6 := kept hb6 (old_alloc Kt2_5)
  have Kt4_6 := kept hb6 (old_alloc Kt4_5)
  have Kt6_6 := kept hb6 (old_alloc Kt6_5)
  have Kt10_6 := kept hb6 new_alloc
  have hbel6 := below_of hb6 (Below.alloc hbel5 hbel5.size _)
  clear hb6 Kt1_5 Kt2_5 Kt4_5 Kt6_5 hbel5
  obtain ⟨c0_t1, c1_t1, c2_t1, f0_t1, f1_t1, f2_t1⟩ := cells3 Kt1_6
  have hlt_t1 := lt_of_heap' Kt1_6
  go_wp2_with fail
  clear c0_t1 c1_t1 c2_t1 f0_t1 f1_t1 f2_t1 hlt_t1
  refine (k_7 _).mono ?_
  rintro e w7 ⟨rfl, hb7⟩
  have Kt1_7 := kept hb7 (old_alloc Kt1_6)
  have Kt2_7 := kept hb7 (old_alloc Kt2_6)
  have Kt4_7 := kept hb7 (old_alloc Kt4_6)
  have Kt6_7 := kept hb7 (old_alloc Kt6_6)
  have Kt10_7 := kept hb7 (old_alloc Kt10_6)
  have hbel7 := below_of hb7 (Below.alloc hbel6 hbel6.size _)
  clear hb7 Kt1_6 Kt2_6 Kt4_6 Kt6_6 Kt10_6 hbel6
  go_wp2_with fail
  refine (k_8 _).mono ?_
  rintro e w8 ⟨rfl, hb8⟩
  have Kt1_8 := kept hb8 (old_alloc Kt1_7)
  have Kt2_8 := kept hb8 (old_alloc Kt2_7)
  have Kt4_8 := kept hb8 (old_alloc Kt4_7)
  have Kt6_8 := kept hb8 (old_alloc Kt6_7)
  have Kt10_8 := kept hb8 (old_alloc Kt10_7)
  have Kt14_8 := kept hb8 new_alloc
  have hbel8 := below_of hb8 (Below.alloc hbel7 hbel7.size _)
  clear hb8 Kt1_7 Kt2_7 Kt4_7 Kt6_7 Kt10_7 hbel7
  obtain ⟨c0_t1, c1_t1, c2_t1, f0_t1, f1_t1, f2_t1⟩ := cells3 Kt1_8
  have hlt_t1 := lt_of_heap' Kt1_8
  go_wp2_with fail
  clear c0_t1 c1_t1 c2_t1 f0_t1 f1_t1 f2_t1 hlt_t1
  refine (k_9 _).mono ?_
  rintro e w9 ⟨rfl, hb9⟩
  have Kt1_9 := kept hb9 (old_alloc Kt1_8)
  have Kt2_9 := kept hb9 (old_alloc Kt2_8)
  have Kt4_9 := kept hb9 (old_alloc Kt4_8)
  have Kt6_9 := kept hb9 (old_alloc Kt6_8)
  have Kt10_9 := kept hb9 (old_alloc Kt10_8)
  have Kt14_9 := kept hb9 (old_alloc Kt14_8)
  have hbel9 := below_of hb9 (Below.alloc hbel8 hbel8.size _)
  clear hb9 Kt1_8 Kt2_8 Kt4_8 Kt6_8 Kt10_8 Kt14_8 hbel8
  obtain ⟨c0_t4, c1_t4, c2_t4, f0_t4, f1_t4, f2_t4⟩ := cells3 Kt4_9
  have hlt_t4 := lt_of_heap' Kt4_9
  go_wp2_with fail
  clear c0_t4 c1_t4 c2_t4 f0_t4 f1_t4 f2_t4 hlt_t4
  refine (k_10 _).mono ?_
  rintro e w10 ⟨rfl, hb10⟩
  have Kt1_10 := kept hb10 (old_alloc Kt1_9)
  have Kt2_10 := kept hb10 (old_alloc Kt2_9)
  have Kt4_10 := kept hb10 (old_alloc Kt4_9)
  have Kt6_10 := kept hb10 (old_alloc Kt6_9)
  have Kt10_10 := kept hb10 (old_alloc Kt10_9)
  have Kt14_10 := kept hb10 (old_alloc Kt14_9)
  have hbel10 := below_of hb10 (Below.alloc hbel9 hbel9.size _)
  clear hb10 Kt1_9 Kt2_9 Kt4_9 Kt6_9 Kt10_9 Kt14_9 hbel9
  obtain ⟨c0_t2, c1_t2, c2_t2, f0_t2, f1_t2, f2_t2⟩ := cells3 Kt2_10
  have hlt_t2 := lt_of_heap' Kt2_10
  go_wp2_with fail
  clear c0_t2 c1_t2 c2_t2 f0_t2 f1_t2 f2_t2 hlt_t2
  refine (k_11 _).mono ?_
  rintro e w11 ⟨rfl, hb11⟩
  have Kt1_11 := kept hb11 (old_alloc Kt1_10)
  have Kt2_11 := kept hb11 (old_alloc Kt2_10)
  have Kt4_11 := kept hb11 (old_alloc Kt4_10)
  have Kt6_11 := kept hb11 (old_alloc Kt6_10)
  have Kt10_11 := kept hb11 (old_alloc Kt10_10)
  have Kt14_11 := kept hb11 (old_alloc Kt14_10)
  have hbel11 := below_of hb11 (Below.alloc hbel10 hbel10.size _)
  clear hb11 Kt1_10 Kt2_10 Kt4_10 Kt6_10 Kt10_10 Kt14_10 hbel10
  obtain ⟨c0_t1, c1_t1, c2_t1, f0_t1, f1_t1, f2_t1⟩ := cells3 Kt1_11
  have hlt_t1 := lt_of_heap' Kt1_11
  go_wp2_with fail
  clear c0_t1 c1_t1 c2_t1 f0_t1 f1_t1 f2_t1 hlt_t1
  refine (k_12 _).mono ?_
  rintro e w12 ⟨rfl, hb12⟩
  have Kt1_12 := kept hb12 (old_alloc Kt1_11)
  have Kt2_12 := kept hb12 (old_alloc Kt2_11)
  have Kt4_12 := kept hb12 (old_alloc Kt4_11)
  have Kt6_12 := kept hb12 (old_alloc Kt6_11)
  have Kt10_12 := kept hb12 (old_alloc Kt10_11)
  have Kt14_12 := kept hb12 (old_alloc Kt14_11)
  have hbel12 := below_of hb12 (Below.alloc hbel11 hbel11.size _)
  clear hb12 Kt1_11 Kt2_11 Kt4_11 Kt6_11 Kt10_11 Kt14_11 hbel11
  obtain ⟨c0_t1, c1_t1, c2_t1, f0_t1, f1_t1, f2_t1⟩ := cells3 Kt1_12
  have hlt_t1 := lt_of_heap' Kt1_12
  go_wp2_with fail
  clear c0_t1 c1_t1 c2_t1 f0_t1 f1_t1 f2_t1 hlt_t1
  refine (k_13 _).mono ?_
  rintro e w13 ⟨rfl, hb13⟩
  have Kt1_13 := kept hb13 (old_alloc Kt1_12)
  have Kt2_13 := kept hb13 (old_alloc Kt2_12)
  have Kt4_13 := kept hb13 (old_alloc Kt4_12)
  have Kt6_13 := kept hb13 (old_alloc Kt6_12)
  have Kt10_13 := kept hb13 (old_alloc Kt10_12)
  have Kt14_13 := kept hb13 (old_alloc Kt14_12)
  have hbel13 := below_of hb13 (Below.alloc hbel12 hbel12.size _)
  clear hb13 Kt1_12 Kt2_12 Kt4_12 Kt6_12 Kt10_12 Kt14_12 hbel12
  obtain ⟨c0_t2, c1_t2, c2_t2, f0_t2, f1_t2, f2_t2⟩ := cells3 Kt2_13
  have hlt_t2 := lt_of_heap' Kt2_13
  go_wp2_with fail
  clear c0_t2 c1_t2 c2_t2 f0_t2 f1_t2 f2_t2 hlt_t2
  refine (k_14 _).mono ?_
  rintro e w14 ⟨rfl, hb14⟩
  have Kt1_14 := kept hb14 (old_alloc Kt1_13)
  have Kt2_14 := kept hb14 (old_alloc Kt2_13)
  have Kt4_14 := kept hb14 (old_alloc Kt4_13)
  have Kt6_14 := kept hb14 (old_alloc Kt6_13)
  have Kt10_14 := kept hb14 (old_alloc Kt10_13)
  have Kt14_14 := kept hb14 (old_alloc Kt14_13)
  have hbel14 := below_of hb14 (Below.alloc hbel13 hbel13.size _)
  clear hb14 Kt1_13 Kt2_13 Kt4_13 Kt6_13 Kt10_13 Kt14_13 hbel13
  obtain ⟨c0_t1, c1_t1, c2_t1, f0_t1, f1_t1, f2_t1⟩ := cells3 Kt1_14
  have hlt_t1 := lt_of_heap' Kt1_14
  obtain ⟨c0_t2, c1_t2, c2_t2, f0_t2, f1_t2, f2_t2⟩ := cells3 Kt2_14
  have hlt_t2 := lt_of_heap' Kt2_14
  obtain ⟨c0_t4, c1_t4, c2_t4, f0_t4, f1_t4, f2_t4⟩ := cells3 Kt4_14
  have hlt_t4 := lt_of_heap' Kt4_14
  obtain ⟨c0_t6, c1_t6, c2_t6, f0_t6, f1_t6, f2_t6⟩ := cells3 Kt6_14
  have hlt_t6 := lt_of_heap' Kt6_14
  obtain ⟨c0_t10, c1_t10, c2_t10, f0_t10, f1_t10, f2_t10⟩ := cells3 Kt10_14
  have hlt_t10 := lt_of_heap' Kt10_14
  obtain ⟨c0_t14, c1_t14, c2_t14, f0_t14, f1_t14, f2_t14⟩ := cells3 Kt14_14
  have hlt_t14 := lt_of_heap' Kt14_14
  go_wp2_with fail

  have KW : ((w14.alloc (.cells #[.int .i64 1, .int .i64 1, .int .i64 1] 23)).alloc (.cells #[.int .i64 4, .int .i64 0, .int .i64 0, .int .i64 (-1), .int .i64 0, .int .i64 0, .int .i64 0, .int .i64 1, .int .i64 0, .int .i64 1, .int .i64 0, .int .i64 0, .int .i64 1, .int .i64 2, .int .i64 1, .int .i64 2, .int .i64 0, .int .i64 0, .int .i64 2, .int .i64 1, .int .i64 2, .int .i64 2, .int .i64 1, .int .i64 (-1), .int .i64 3, .int .i64 1, .int .i64 1, .int .i64 3, .int .i64 1, .int .i64 0] 23)).heap[w14.heap.size + 1]? = some (.cells #[.int .i64 4, .int .i64 0, .int .i64 0, .int .i64 (-1), .int .i64 0, .int .i64 0, .int .i64 0, .int .i64 1, .int .i64 0, .int .i64 1, .int .i64 0, .int .i64 0, .int .i64 1, .int .i64 2, .int .i64 1, .int .i64 2, .int .i64 0, .int .i64 0, .int .i64 2, .int .i64 1, .int .i64 2, .int .i64 2, .int .i64 1, .int .i64 (-1), .int .i64 3, .int .i64 1, .int .i64 1, .int .i64 3, .int .i64 1, .int .i64 0] 23) := by
    have h := new_alloc (w := w14.alloc (.cells #[.int .i64 1, .int .i64 1, .int .i64 1] 23)) (o := .cells #[.int .i64 4, .int .i64 0, .int .i64 0, .int .i64 (-1), .int .i64 0, .int .i64 0, .int .i64 0, .int .i64 1, .int .i64 0, .int .i64 1, .int .i64 0, .int .i64 0, .int .i64 1, .int .i64 2, .int .i64 1, .int .i64 2, .int .i64 0, .int .i64 0, .int .i64 2, .int .i64 1, .int .i64 2, .int .i64 2, .int .i64 1, .int .i64 (-1), .int .i64 3, .int .i64 1, .int .i64 1, .int .i64 3, .int .i64 1, .int .i64 0] 23)
    rw [World.size_alloc] at h
    exact h
  have K1 := old_alloc (o' := .cells #[.int .i64 4, .int .i64 0, .int .i64 0, .int .i64 (-1), .int .i64 0, .int .i64 0, .int .i64 0, .int .i64 1, .int .i64 0, .int .i64 1, .int .i64 0, .int .i64 0, .int .i64 1, .int .i64 2, .int .i64 1, .int .i64 2, .int .i64 0, .int .i64 0, .int .i64 2, .int .i64 1, .int .i64 2, .int .i64 2, .int .i64 1, .int .i64 (-1), .int .i64 3, .int .i64 1, .int .i64 1, .int .i64 3, .int .i64 1, .int .i64 0] 23) (old_alloc (o' := .cells #[.int .i64 1, .int .i64 1, .int .i64 1] 23) Kt1_14)
  have K2 := old_alloc (o' := .cells #[.int .i64 4, .int .i64 0, .int .i64 0, .int .i64 (-1), .int .i64 0, .int .i64 0, .int .i64 0, .int .i64 1, .int .i64 0, .int .i64 1, .int .i64 0, .int .i64 0, .int .i64 1, .int .i64 2, .int .i64 1, .int .i64 2, .int .i64 0, .int .i64 0, .int .i64 2, .int .i64 1, .int .i64 2, .int .i64 2, .int .i64 1, .int .i64 (-1), .int .i64 3, .int .i64 1, .int .i64 1, .int .i64 3, .int .i64 1, .int .i64 0] 23) (old_alloc (o' := .cells #[.int .i64 1, .int .i64 1, .int .i64 1] 23) Kt2_14)
  have K6 := old_alloc (o' := .cells #[.int .i64 4, .int .i64 0, .int .i64 0, .int .i64 (-1), .int .i64 0, .int .i64 0, .int .i64 0, .int .i64 1, .int .i64 0, .int .i64 1, .int .i64 0, .int .i64 0, .int .i64 1, .int .i64 2, .int .i64 1, .int .i64 2, .int .i64 0, .int .i64 0, .int .i64 2, .int .i64 1, .int .i64 2, .int .i64 2, .int .i64 1, .int .i64 (-1), .int .i64 3, .int .i64 1, .int .i64 1, .int .i64 3, .int .i64 1, .int .i64 0] 23) (old_alloc (o' := .cells #[.int .i64 1, .int .i64 1, .int .i64 1] 23) Kt6_14)
  have hbelL : Below w.heap.size w ((w14.alloc (.cells #[.int .i64 1, .int .i64 1, .int .i64 1] 23)).alloc (.cells #[.int .i64 4, .int .i64 0, .int .i64 0, .int .i64 (-1), .int .i64 0, .int .i64 0, .int .i64 0, .int .i64 1, .int .i64 0, .int .i64 1, .int .i64 0, .int .i64 0, .int .i64 1, .int .i64 2, .int .i64 1, .int .i64 2, .int .i64 0, .int .i64 0, .int .i64 2, .int .i64 1, .int .i64 2, .int .i64 2, .int .i64 1, .int .i64 (-1), .int .i64 3, .int .i64 1, .int .i64 1, .int .i64 3, .int .i64 1, .int .i64 0] 23)) := (hbel14.alloc hbel14.size _).alloc (by rw [World.size_alloc]; have := hbel14.size; omega) _
  clear Kt1_14 Kt2_14 Kt4_14 Kt6_14 Kt10_14 Kt14_14
  clear c0_t1 c1_t1 c2_t1 f0_t1 f1_t1 f2_t1 hlt_t1
  clear c0_t2 c1_t2 c2_t2 f0_t2 f1_t2 f2_t2 hlt_t2
  clear c0_t4 c1_t4 c2_t4 f0_t4 f1_t4 f2_t4 hlt_t4
  clear c0_t6 c1_t6 c2_t6 f0_t6 f1_t6 f2_t6 hlt_t6
  clear c0_t10 c1_t10 c2_t10 f0_t10 f1_t10 f2_t10 hlt_t10
  clear c0_t14 c1_t14 c2_t14 f0_t14 f1_t14 f2_t14 hlt_t14
  go_loopw [32] (fun i wr => ∃ k : Nat, k ≤ 10 ∧ i = .int .i64 k ∧ wr.heap[w14.heap.size + 1]? = some (.cells #[.int .i64 4, .int .i64 0, .int .i64 0, .int .i64 (-1), .int .i64 0, .int .i64 0, .int .i64 0, .int .i64 1, .int .i64 0, .int .i64 1, .int .i64 0, .int .i64 0, .int .i64 1, .int .i64 2, .int .i64 1, .int .i64 2, .int .i64 0, .int .i64 0, .int .i64 2, .int .i64 1, .int .i64 2, .int .i64 2, .int .i64 1, .int .i64 (-1), .int .i64 3, .int .i64 1, .int .i64 1, .int .i64 3, .int .i64 1, .int .i64 0] 23) ∧ wr.heap[w.heap.size]? = some (.cells #[.int .i64 0, .int .i64 0, .int .i64 0] 23) ∧ wr.heap[w1.heap.size]? = some (.cells #[.int .i64 1, .int .i64 1, .int .i64 1] 23) ∧ wr.heap[w3.heap.size]? = some (.cells #[.int .i64 2, .int .i64 2, .int .i64 1] 23) ∧ Below w.heap.size w wr)
    (fun i _ => 10 - (intOf i).toNat)
  case atStart => exact ⟨0, by omega, rfl, KW, K1, K2, K6, hbelL⟩
  case round =>
    clear KW K1 K2 K6 hbelL hbel14
    obtain ⟨k, hk, rfl, kw, k1, k2, k6, hbel⟩ := hrel
    by_cases hlt : k < 10
    · obtain ⟨r, s, g, hr, hs, hg, hR, hW, hD⟩ := wrong_at k hlt
      have c0 := (cell_of' kw (k * 3)).trans hr
      have c1 := (cell_of' kw (k * 3 + 1)).trans hs
      have c2 := (cell_of' kw (k * 3 + 2)).trans hg
      have HR : Hid (rightB r s g = false) := hR
      have HW : Hid (writesN r s g = 1) := hW
      have HD : Hid (doesN r s g 0 9 = (⟨r, s, g⟩, 1)) := hD
      clear hr hs hg hR hW hD
      go_wp2_with fail
      refine (heard_is _ _ _ _ _ _ _ _ HD _).mono ?_
      rintro e u1 ⟨rfl, hb1⟩
      have kw2 := kept hb1 kw
      have k12 := kept hb1 k1
      have k22 := kept hb1 k2
      have k62 := kept hb1 k6
      have hbel2 := below_of hb1 hbel
      have hbw := lt_of_heap' kw2
      have HC0 : Hid (wr.cell? ⟨w14.heap.size + 1, k * 3, none⟩ = some (.int .i64 r)) := c0
      have HC1 : Hid (wr.cell? ⟨w14.heap.size + 1, k * 3 + 1, none⟩ = some (.int .i64 s)) := c1
      have HC2 : Hid (wr.cell? ⟨w14.heap.size + 1, k * 3 + 2, none⟩ = some (.int .i64 g)) := c2
      have hbwr : Hid (w14.heap.size + 1 < wr.heap.size) := lt_of_heap' kw
      clear c0 c1 c2 kw k1 k2 k6 hbel
      go_wp2_with fail
      refine Draw.wp_region_pure mixed 25 3 (by kernel_rfl) [.slice (some ⟨w14.heap.size + 1, 0, none⟩) 10 10, .int .i64 k, .pointer (some ⟨w14.heap.size + 1, k * 3, none⟩), .agg #[.int .i64 r, .int .i64 s, .int .i64 g], .bool false, .bool false, .slice (some ⟨w14.heap.size + 1, 0, none⟩) 10 10, .int .i64 k, .pointer (some ⟨w14.heap.size + 1, k * 3, none⟩), .agg #[.int .i64 r, .int .i64 s, .int .i64 g], .int .i64 1, .bool false, .bool false, .bool false, .int .i64 1, .bool false, .bool false, .bool false, .agg #[.int .i64 r, .int .i64 s, .int .i64 g], .slice (some ⟨w14.heap.size + 1, 0, none⟩) 10 10, .int .i64 k, .pointer (some ⟨w14.heap.size + 1, k * 3, none⟩), .agg #[.int .i64 r, .int .i64 s, .int .i64 g], .bool false, .bool false] _ rfl ?_ ?_
      · simp only [Draw.puts, List.take_succ_cons, List.take_zero, if_true, Act.put, List.setIfInBounds_toArray, List.set_cons_zero, List.set_cons_succ, Nat.zero_add, Nat.reduceAdd, List.getD_cons_zero, List.getD_cons_succ]
        refine ⟨?_, ?_, ?_, ?_, ?_, ?_, ?_, ?_, ?_, ?_, ?_, ?_, ?_, ?_, ?_, ?_, ?_, ?_, ?_, ?_, ?_, ?_, ?_, ?_, ?_, trivial⟩
        all_goals intro u2 hb2
        all_goals obtain ⟨x0, x1, x2, y0, y1, y2⟩ := cells3 (kept hb2 new_alloc)
        all_goals have z0 := (hb2.cell (p := ⟨w14.heap.size + 1, k * 3, none⟩) (by rw [World.size_alloc]; show w14.heap.size + 1 < u1.heap.size + 1; omega)).trans ((World.cell?_alloc_lt _ _ _ hbw).trans ((hb1.cell (p := ⟨w14.heap.size + 1, k * 3, none⟩) hbwr.out).trans HC0.out))
        all_goals have z1 := (hb2.cell (p := ⟨w14.heap.size + 1, k * 3 + 1, none⟩) (by rw [World.size_alloc]; show w14.heap.size + 1 < u1.heap.size + 1; omega)).trans ((World.cell?_alloc_lt _ _ _ hbw).trans ((hb1.cell (p := ⟨w14.heap.size + 1, k * 3 + 1, none⟩) hbwr.out).trans HC1.out))
        all_goals have z2 := (hb2.cell (p := ⟨w14.heap.size + 1, k * 3 + 2, none⟩) (by rw [World.size_alloc]; show w14.heap.size + 1 < u1.heap.size + 1; omega)).trans ((World.cell?_alloc_lt _ _ _ hbw).trans ((hb1.cell (p := ⟨w14.heap.size + 1, k * 3 + 2, none⟩) hbwr.out).trans HC2.out))
        all_goals refine .inl ⟨rfl, fun K hK => ?_⟩
        all_goals go_simp
        all_goals first
          | exact hK _ (Below.refl _ _)
          | (go_at_call 9; refine (right_any _ _ _ _).mono ?_; rintro e u3 ⟨rfl, rfl⟩; rw [HR.out]; exact hK _ ((Below.refl _ _).alloc (Nat.le_refl _) _))
          | (go_at_call 14; refine (writes_any _ _ _ _).mono ?_; rintro e u3 ⟨rfl, hb3⟩; rw [HW.out]; exact hK _ hb3)
      · simp only [Draw.puts, List.take_succ_cons, List.take_zero, List.drop_succ_cons, List.drop_nil, if_true, Act.put, List.setIfInBounds_toArray, List.set_cons_zero, List.set_cons_succ, Nat.zero_add, Nat.reduceAdd, List.getD_cons_zero, List.getD_cons_succ]
        intro u2 hb2
        go_wp2_with fail
        go_roundw
        case rel => exact ⟨k + 1, by omega, by go_num, kept hb2 (old_alloc kw2), kept hb2 (old_alloc k12), kept hb2 (old_alloc k22), kept hb2 (old_alloc k62), below_of hb2 (hbel2.alloc hbel2.size _)⟩
        case measure => simp [intOf]; omega
    · obtain rfl : k = 10 := by omega
      clear hlt hk
      have hlt1 := lt_of_heap' k1
      obtain ⟨c0, c1, c2, f0, f1, f2⟩ := cells3 k1
      go_wp2_with fail
      refine (right_any _ _ _ _).mono ?_
      rintro e r1 ⟨rfl, hw⟩
      have hb1 : Below wr.heap.size wr r1 := hw ▸ (Below.refl _ _).alloc (Nat.le_refl _) _
      rw [show rightB 0 0 0 = true by decide]
      have K11 := kept hb1 k1
      have K21 := kept hb1 k2
      have K61 := kept hb1 k6
      have hbel1 := below_of hb1 hbel
      clear hw hb1 k1 k2 k6 hbel kw c0 c1 c2 f0 f1 f2 hlt1
      obtain ⟨c0, c1, c2, f0, f1, f2⟩ := cells3 K11
      have hlt1 := lt_of_heap' K11
      go_wp2_with fail
      refine (writes_any _ _ _ _).mono ?_
      rintro e r2 ⟨rfl, hb1⟩
      rw [show writesN 0 0 0 = 30 by decide]
      have K22 := kept hb1 K21
      have K62 := kept hb1 K61
      have hbel2 := below_of hb1 hbel1
      clear hb1 K11 K21 K61 hbel1 c0 c1 c2 f0 f1 f2 hlt1
      obtain ⟨c0, c1, c2, f0, f1, f2⟩ := cells3 K22
      have hlt1 := lt_of_heap' K22
      go_wp2_with fail
      refine (writes_any _ _ _ _).mono ?_
      rintro e r3 ⟨rfl, hb1⟩
      rw [show writesN 1 1 1 = 0 by decide]
      have K63 := kept hb1 K62
      have hbel3 := below_of hb1 hbel2
      clear hb1 K22 K62 hbel2 c0 c1 c2 f0 f1 f2 hlt1
      obtain ⟨c0, c1, c2, f0, f1, f2⟩ := cells3 K63
      have hlt1 := lt_of_heap' K63
      go_wp2_with fail
      refine (writes_any _ _ _ _).mono ?_
      rintro e r4 ⟨rfl, hb1⟩
      rw [show writesN 2 2 1 = 31 by decide]
      have hbel4 := below_of hb1 hbel3
      clear hb1 K63 hbel3 c0 c1 c2 f0 f1 f2 hlt1
      go_wp2_with fail
      refine (wakes_any _).mono ?_
      rintro e r5 ⟨rfl, hb1⟩
      have hbel5 := below_of hb1 hbel4
      go_wp2_with fail
      go_ret
      exact ⟨rfl, hbel5⟩

set_option maxRecDepth 100000 in
theorem known_lifted (os : Os) (started : os.Started) (H : Type) (enc : TypeId × Value → H) :
    ReturnsInHanded {} Try.checked os 8 .any (Rows.fenceKnownSpec.pre6 enc Try.prog Try.f8 Rows.fenceKnownRow.domain false) (Rows.fenceKnownSpec.post enc Try.prog Try.f8 false true false false) := by
  refine returnsInHanded_of_change (C := Try.checked) own started (by kernel_rfl) Try.func8
    (ChangeSpec.witness6 (enc := enc) (C := Try.checked) false ⟨#[], #[], []⟩ 8 (by kernel_rfl) (by kernel_rfl) (by kernel_rfl) (by kernel_rfl)) ?_
  intro W base args ds gs before hval0 hW hcnd _
  have hW' : DataW.Whole enc Try.prog Try.f8.params.toList Rows.fenceKnownSpec.vars false W args.toList ds gs before := hW
  obtain ⟨p, q, hA0, hV, rfl, hfz, hnd⟩ := hW
  have hA : DataW.TrodAll enc Try.prog W 0 (fun _ => true) true Try.f8.params.toList args.toList ds p := hA0
  rw [Try.params8] at hA
  obtain ⟨hargs, rfl, rfl⟩ := trodAll_nil hA
  obtain rfl : args = #[] := by cases args; simp_all
  refine (known_walk W).mono fun e W' ⟨he, hb⟩ => ?_
  subst he
  exact ⟨_, rfl, lawPost hW' rfl (by kernel_rfl) Try.underlying4 rfl laidOut (by rw [Try.params8]; intro t ht; simp at ht) hb⟩

theorem known_holds : Rows.FenceKnownSaid :=
  OpenClaim.holds_of_wide 8 Try.f8 rfl rfl rfl rfl rfl rfl rfl ⟨rfl, rfl, rfl, rfl, rfl⟩ rfl rfl rfl rfl rfl (by kernel_rfl) Try.func8 (by kernel_rfl)
    (of_decide_eq_true (by kernel_rfl)) (by unfold Func.isWrapper; first | (rw [if_pos (by decide +kernel)]; kernel_rfl) | (rw [if_neg (by decide +kernel)]; exact ⟨rfl, rfl⟩))
    (fun os started H enc _ => known_lifted os started H enc)
#print axioms known_holds

end Go.Proofs.Ytjepdlmdemlkmaa
