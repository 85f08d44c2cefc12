/- The same, where the place lies behind the text's end. Conditions: none. -/
import Derived.Test.YtgmnigobappjbaaG1
namespace Go.Proofs.Ytgmnigobappjbaa
open Go.RowKit

set_option maxRecDepth 100000 in
set_option maxHeartbeats 4000000 in
theorem begins_gt (key nonce : Nat → UInt8) (a b : ByteArray) (at0 : Nat) (hat : ¬ at0 ≤ a.size) (hat0 : at0 < 65536) (ha : a.size ≤ maxLen) (hb : b.size ≤ maxLen) (w : World) :
    Calls Try.prog 8 #[.agg (arr 32 key), .agg (arr 12 nonce), .string a, .string b, .int .u16 at0] w fun e w' => e = .returned (.bool true) ∧ Below w.heap.size w w' := by
  unfold maxLen at ha hb
  have hz2 : ∀ f : Nat → UInt8, (Try.prog.info? 32).map (·.size) = some (arr 12 f).size := fun f => by rw [arr_size]; exact size32
  have hz3 : ∀ f : Nat → UInt8, (Try.prog.info? 23).map (·.size) = some (arr 32 f).size := fun f => by rw [arr_size]; exact size23
  replace hz2 := hide hz2
  replace hz3 := hide hz3
  have h1 : ((w.alloc (.cells (arr 32 key) 23)).alloc (.cells (arr 12 nonce) 32)).heap[w.heap.size]? = some (.cells (arr 32 key) 23) := old_alloc new_alloc
  have h2 : ((w.alloc (.cells (arr 32 key) 23)).alloc (.cells (arr 12 nonce) 32)).heap[w.heap.size + 1]? = some (.cells (arr 12 nonce) 32) := by
    have h := new_alloc (w := w.alloc (.cells (arr 32 key) 23)) (o := .cells (arr 12 nonce) 32)
    rw [World.size_alloc] at h
    exact h
  have hb0 : Below w.heap.size w ((w.alloc (.cells (arr 32 key) 23)).alloc (.cells (arr 12 nonce) 32)) := ((Below.refl _ _).alloc (Nat.le_refl _) _).alloc (by simp) _
  go_enter Try.func8, Try.ntmps8
  go_wp2_with fail
  generalize ((w.alloc (.cells (arr 32 key) 23)).alloc (.cells (arr 12 nonce) 32)) = W0 at h1 h2 hb0 ⊢
  refine (awake_any _).mono ?_
  rintro e W ⟨rfl, hbw⟩
  replace h1 := kept hbw h1
  replace h2 := kept hbw h2
  replace hb0 := below_of hbw hb0
  clear hbw
  by_cases hla : 5000 < a.size
  · go_wp2_with fail
    go_ret
    exact ⟨rfl, hb0⟩
  by_cases hlb : 5000 < b.size
  · go_wp2_with fail
    go_ret
    exact ⟨rfl, hb0⟩
  go_wp2_with fail

  refine Draw.wp_region_pure mixed 10 8 (by kernel_rfl) [.agg (arr 32 key), .agg (arr 12 nonce), .string a, .string (stream key nonce a), .agg (arr 32 key), .agg (arr 12 nonce), .string b, .string (stream key nonce b), .string (stream key nonce a), .string (stream key nonce b)] _ rfl ?_ ?_
  · simp only [Draw.puts, List.take_succ_cons, List.take_zero, if_true, Act.put, List.setIfInBounds_toArray, List.set_cons_zero, List.set_cons_succ, Nat.zero_add, Nat.reduceAdd, List.getD_cons_zero, List.getD_cons_succ]
    refine ⟨?_, ?_, ?_, ?_, ?_, ?_, ?_, ?_, ?_, ?_, trivial⟩
    all_goals refine fun w1 hb1 => .inl ⟨rfl, fun K hk => ?_⟩
    · refine wp_load_row 23 _ rfl w.heap.size rfl 23 (arr 32 key) (0, 0) _ (kept hb1 h1) Try.underlying23 rfl (hz3.out _) ?_
      exact hk w1 (Below.refl _ _)
    · refine wp_load_row 32 _ rfl (w.heap.size + 1) rfl 32 (arr 12 nonce) (0, 0) _ (kept hb1 h2) Try.underlying32 rfl (hz2.out _) ?_
      exact hk w1 (Below.refl _ _)
    · go_simp
      exact hk w1 (Below.refl _ _)
    · go_simp
      refine (stream_any key nonce a (by omega) _).mono ?_
      rintro e w2 ⟨rfl, hb2⟩
      exact hk w2 hb2
    · refine wp_load_row 23 _ rfl w.heap.size rfl 23 (arr 32 key) (0, 0) _ (kept hb1 h1) Try.underlying23 rfl (hz3.out _) ?_
      exact hk w1 (Below.refl _ _)
    · refine wp_load_row 32 _ rfl (w.heap.size + 1) rfl 32 (arr 12 nonce) (0, 0) _ (kept hb1 h2) Try.underlying32 rfl (hz2.out _) ?_
      exact hk w1 (Below.refl _ _)
    · go_simp
      exact hk w1 (Below.refl _ _)
    · go_simp
      refine (stream_any key nonce b (by omega) _).mono ?_
      rintro e w2 ⟨rfl, hb2⟩
      exact hk w2 hb2
    · go_simp
      exact hk w1 (Below.refl _ _)
    · go_simp
      exact hk w1 (Below.refl _ _)
  · simp only [Draw.puts, List.take_succ_cons, List.take_zero, List.drop_succ_cons, List.drop_nil, if_true, Act.put, List.setIfInBounds_toArray, List.set_cons_zero, List.set_cons_succ, Nat.zero_add, Nat.reduceAdd, List.getD_cons_zero, List.getD_cons_succ]
    intro w1 hb1
    replace h1 := kept hb1 h1
    replace h2 := kept hb1 h2
    replace hb0 := below_of hb1 hb0
    clear hb1
    have hN : a.size ≤ a.size := by omega
    have hNI : (a.size : Int) ≤ a.size := by omega
    have hNX : a.size ≤ (stream key nonce a).size := by rw [stream_size]; omega
    replace hNX := hide hNX
    replace hNX := hNX.out
    go_wp2_with fail
    refine Draw.wp_region_pure mixed 34 40 (by kernel_rfl) [.string (stream key nonce a), .int .i64 (a.size : Int), .string a, .int .i64 (a.size : Int), .bool true, .bool true, .string (stream key nonce b), .int .i64 (b.size : Int), .string b, .int .i64 (b.size : Int), .bool true, .bool true, .bool true, .agg (arr 32 key), .agg (arr 12 nonce), .string a, .int .i64 (a.size : Int), .string a, .string (stream key nonce a), .string (stream key nonce a), .int .i64 (a.size : Int), .string (stream key nonce a), .bool true, .bool true, .bool true, .string (stream key nonce a), .string (stream key nonce b), .string (xorT a b), .string a, .string b, .string (xorT a b), .bool true, .bool true, .bool true] _ rfl ?_ ?_
    · simp only [Draw.puts, List.take_succ_cons, List.take_zero, if_true, Act.put, List.setIfInBounds_toArray, List.set_cons_zero, List.set_cons_succ, Nat.zero_add, Nat.reduceAdd, List.getD_cons_zero, List.getD_cons_succ]
      refine ⟨?_, ?_, ?_, ?_, ?_, ?_, ?_, ?_, ?_, ?_, ?_, ?_, ?_, ?_, ?_, ?_, ?_, ?_, ?_, ?_, ?_, ?_, ?_, ?_, ?_, ?_, ?_, ?_, ?_, ?_, ?_, ?_, ?_, ?_, trivial⟩
      all_goals refine fun w1 hb1 => .inl ⟨rfl, fun K hk => ?_⟩
      · go_simp
        exact hk w1 (Below.refl _ _)
      · have hx := stream_size key nonce a
        have hy := stream_size key nonce b
        go_simp
        exact hk w1 (Below.refl _ _)
      · go_simp
        exact hk w1 (Below.refl _ _)
      · go_simp
        exact hk w1 (Below.refl _ _)
      · go_simp
        exact hk w1 (Below.refl _ _)
      · go_simp
        exact hk w1 (Below.refl _ _)
      · go_simp
        exact hk w1 (Below.refl _ _)
      · have hx := stream_size key nonce a
        have hy := stream_size key nonce b
        go_simp
        exact hk w1 (Below.refl _ _)
      · go_simp
        exact hk w1 (Below.refl _ _)
      · go_simp
        exact hk w1 (Below.refl _ _)
      · go_simp
        exact hk w1 (Below.refl _ _)
      · go_simp
        exact hk w1 (Below.refl _ _)
      · go_simp
        exact hk w1 (Below.refl _ _)
      · refine wp_load_row 23 _ rfl w.heap.size rfl 23 (arr 32 key) (0, 0) _ (kept hb1 h1) Try.underlying23 rfl (hz3.out _) ?_
        exact hk w1 (Below.refl _ _)
      · refine wp_load_row 32 _ rfl (w.heap.size + 1) rfl 32 (arr 12 nonce) (0, 0) _ (kept hb1 h2) Try.underlying32 rfl (hz2.out _) ?_
        exact hk w1 (Below.refl _ _)
      · go_simp
        exact hk w1 (Below.refl _ _)
      · go_simp
        exact hk w1 (Below.refl _ _)
      · go_simp
        exact hk w1 (Below.refl _ _)
      · go_simp
        refine (stream_any key nonce a (by omega) _).mono ?_
        rintro e w2 ⟨rfl, hb2⟩
        exact hk w2 hb2
      · go_simp
        exact hk w1 (Below.refl _ _)
      · go_simp
        exact hk w1 (Below.refl _ _)
      · have hx := stream_size key nonce a
        have hy := stream_size key nonce b
        have hxe : (stream key nonce a).extract 0 a.size = stream key nonce a := by
          rw [← stream_begin key nonce a a.size (Nat.le_refl _)]
          simp
        go_simp
        exact hk w1 (Below.refl _ _)
      · go_simp
        exact hk w1 (Below.refl _ _)
      · go_simp
        exact hk w1 (Below.refl _ _)
      · go_simp
        exact hk w1 (Below.refl _ _)
      · go_simp
        exact hk w1 (Below.refl _ _)
      · go_simp
        exact hk w1 (Below.refl _ _)
      · go_simp
        refine (xors_any key nonce a b (by omega) (by omega) _).mono ?_
        rintro e w2 ⟨rfl, hb2⟩
        exact hk w2 hb2
      · go_simp
        exact hk w1 (Below.refl _ _)
      · go_simp
        exact hk w1 (Below.refl _ _)
      · go_simp
        refine (xor_any _ _ (by omega) (by omega) _).mono ?_
        rintro e w2 ⟨rfl, hb2⟩
        exact hk w2 hb2
      · go_simp
        exact hk w1 (Below.refl _ _)
      · go_simp
        exact hk w1 (Below.refl _ _)
      · go_simp
        exact hk w1 (Below.refl _ _)
    · simp only [Draw.puts, List.take_succ_cons, List.take_zero, List.drop_succ_cons, List.drop_nil, if_true, Act.put, List.setIfInBounds_toArray, List.set_cons_zero, List.set_cons_succ, Nat.zero_add, Nat.reduceAdd, List.getD_cons_zero, List.getD_cons_succ]
      intro w1 hb1
      replace h1 := kept hb1 h1
      replace h2 := kept hb1 h2
      replace hb0 := below_of hb1 hb0
      clear hb1
      go_wp2_with fail
      go_ret
      exact ⟨rfl, hb0⟩

theorem begins_any (key nonce : Nat → UInt8) (a b : ByteArray) (at0 : Nat) (hat0 : at0 < 65536) (ha : a.size ≤ maxLen) (hb : b.size ≤ maxLen) (w : World) :
    Calls Try.prog 8 #[.agg (arr 32 key), .agg (arr 12 nonce), .string a, .string b, .int .u16 at0] w fun e w' => e = .returned (.bool true) ∧ Below w.heap.size w w' := by
  by_cases hat : at0 ≤ a.size
  · exact begins_le key nonce a b at0 hat hat0 ha hb w
  · exact begins_gt key nonce a b at0 hat hat0 ha hb w

end Go.Proofs.Ytgmnigobappjbaa
