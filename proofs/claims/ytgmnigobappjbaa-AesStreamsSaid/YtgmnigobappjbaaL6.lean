/- A text, streamed, is the document's: AesStreams. Conditions: none. -/
import Derived.Test.YtgmnigobappjbaaR7
namespace Go.Proofs.Ytgmnigobappjbaa
open Go.RowKit

set_option maxRecDepth 100000 in
set_option maxHeartbeats 1600000 in
theorem streams_any (key nonce : Nat → UInt8) (s : ByteArray) (w : World) :
    Calls Try.prog 6 #[.agg (arr 32 key), .agg (arr 12 nonce), .string s] w fun e w' => e = .returned (.bool true) ∧ Below w.heap.size w w' := by
  have hz2 : ∀ f : Nat → UInt8, (Try.prog.info? 32).map (·.size) = some (arr 12 f).size := fun f => by rw [arr_size]; exact size32
  have hz3 : ∀ f : Nat → UInt8, (Try.prog.info? 23).map (·.size) = some (arr 32 f).size := fun f => by rw [arr_size]; exact size23
  replace hz2 := hide hz2
  replace hz3 := hide hz3
  have h1 : ((w.alloc (.cells (arr 32 key) 23)).alloc (.cells (arr 12 nonce) 32)).heap[w.heap.size]? = some (.cells (arr 32 key) 23) := old_alloc new_alloc
  have h2 : ((w.alloc (.cells (arr 32 key) 23)).alloc (.cells (arr 12 nonce) 32)).heap[w.heap.size + 1]? = some (.cells (arr 12 nonce) 32) := by
    have h := new_alloc (w := w.alloc (.cells (arr 32 key) 23)) (o := .cells (arr 12 nonce) 32)
    rw [World.size_alloc] at h
    exact h
  have hb0 : Below w.heap.size w ((w.alloc (.cells (arr 32 key) 23)).alloc (.cells (arr 12 nonce) 32)) := ((Below.refl _ _).alloc (Nat.le_refl _) _).alloc (by simp) _
  go_enter Try.func6, Try.ntmps6
  go_wp2_with fail
  generalize ((w.alloc (.cells (arr 32 key) 23)).alloc (.cells (arr 12 nonce) 32)) = W0 at h1 h2 hb0 ⊢
  refine (awake_any _).mono ?_
  rintro e W ⟨rfl, hb⟩
  replace h1 := kept hb h1
  replace h2 := kept hb h2
  replace hb0 := below_of hb hb0
  clear hb
  by_cases hlen : 500 < s.size
  · go_wp2_with fail
    go_ret
    exact ⟨rfl, hb0⟩
  go_wp2_with fail
  refine Draw.wp_region_pure mixed 10 10 (by kernel_rfl) [.agg (arr 32 key), .agg (arr 12 nonce), .string s, .string (stream key nonce s), .agg (arr 32 key), .agg (arr 12 nonce), .string s, .string (stream key nonce s), .bool true, .bool true] _ rfl ?_ ?_
  · simp only [Draw.puts, List.take_succ_cons, List.take_zero, if_true, Act.put, List.setIfInBounds_toArray, List.set_cons_zero, List.set_cons_succ, Nat.zero_add, Nat.reduceAdd, List.getD_cons_zero, List.getD_cons_succ]
    refine ⟨?_, ?_, ?_, ?_, ?_, ?_, ?_, ?_, ?_, ?_, trivial⟩
    all_goals refine fun w1 hb1 => .inl ⟨rfl, fun K hk => ?_⟩
    · refine wp_load_row 23 _ rfl w.heap.size rfl 23 (arr 32 key) (0, 0) _ (kept hb1 h1) Try.underlying23 rfl (hz3.out _) ?_
      exact hk w1 (Below.refl _ _)
    · refine wp_load_row 32 _ rfl (w.heap.size + 1) rfl 32 (arr 12 nonce) (0, 0) _ (kept hb1 h2) Try.underlying32 rfl (hz2.out _) ?_
      exact hk w1 (Below.refl _ _)
    · go_simp
      exact hk w1 (Below.refl _ _)
    · go_simp
      refine (stream_any key nonce s (by omega) _).mono ?_
      rintro e w2 ⟨rfl, hb2⟩
      exact hk w2 hb2
    · refine wp_load_row 23 _ rfl w.heap.size rfl 23 (arr 32 key) (0, 0) _ (kept hb1 h1) Try.underlying23 rfl (hz3.out _) ?_
      exact hk w1 (Below.refl _ _)
    · refine wp_load_row 32 _ rfl (w.heap.size + 1) rfl 32 (arr 12 nonce) (0, 0) _ (kept hb1 h2) Try.underlying32 rfl (hz2.out _) ?_
      exact hk w1 (Below.refl _ _)
    · go_simp
      exact hk w1 (Below.refl _ _)
    · go_simp
      refine (refStream_any key nonce s (by omega) _).mono ?_
      rintro e w2 ⟨rfl, hb2⟩
      exact hk w2 hb2
    · go_simp
      exact hk w1 (Below.refl _ _)
    · go_simp
      exact hk w1 (Below.refl _ _)
  · simp only [Draw.puts, List.take_succ_cons, List.take_zero, List.drop_succ_cons, List.drop_nil, if_true, Act.put, List.setIfInBounds_toArray, List.set_cons_zero, List.set_cons_succ, Nat.zero_add, Nat.reduceAdd, List.getD_cons_zero, List.getD_cons_succ]
    intro w1 hb1
    have hbl := below_of hb1 hb0
    clear hb1 hb0 h1 h2
    go_wp2_with fail
    go_ret
    exact ⟨rfl, hbl⟩

end Go.Proofs.Ytgmnigobappjbaa
