/- The law's own 'wakes' returns true. Conditions: none. -/
import Derived.Test.YtjepdlmdemlkmaaA4
namespace Go.Proofs.Ytjepdlmdemlkmaa
open Go.RowKit

theorem old_alloc {w : World} {b : Nat} {o o' : Obj} (h : w.heap[b]? = some o) : (w.alloc o').heap[b]? = some o := by
  have hlt : b < w.heap.size := (Array.getElem?_eq_some_iff.1 h).1
  rw [heap_alloc, if_neg (by omega), h]
theorem new_alloc {w : World} {o : Obj} : (w.alloc o).heap[w.heap.size]? = some o := by
  rw [heap_alloc, if_pos rfl]
theorem kept {W w1 : World} {b : Nat} {o : Obj} (hb : Below W.heap.size W w1) (h : W.heap[b]? = some o) : w1.heap[b]? = some o :=
  (hb.block b (Array.getElem?_eq_some_iff.1 h).1).trans h
theorem cells3 {w1 : World} {b : Nat} {v0 v1 v2 : Value} {t : TypeId} (hh : w1.heap[b]? = some (.cells #[v0, v1, v2] t)) :
    w1.cell? ⟨b, 0, none⟩ = some v0 ∧ w1.cell? ⟨b, 1, none⟩ = some v1 ∧ w1.cell? ⟨b, 2, none⟩ = some v2 ∧ w1.frozen? ⟨b, 0, none⟩ = false ∧ w1.frozen? ⟨b, 1, none⟩ = false ∧ w1.frozen? ⟨b, 2, none⟩ = false := by
  simp [World.cell?, World.frozen?, hh]

theorem begun_1 (w : World) : Calls Try.prog 18 #[.agg #[.int .i64 0, .int .i64 0, .int .i64 0], .int .i64 1] w fun e w' => e = .returned (.tuple #[.agg #[.int .i64 1, .int .i64 1, .int .i64 1], .int .i64 0]) ∧ Below w.heap.size w w' :=
  begun_any 0 0 0 1 w
theorem heard_2 (w : World) : Calls Try.prog 12 #[.agg #[.int .i64 1, .int .i64 1, .int .i64 1], .int .i64 2] w fun e w' => e = .returned (.tuple #[.agg #[.int .i64 3, .int .i64 2, .int .i64 1], .int .i64 0]) ∧ Below w.heap.size w w' :=
  heard_any 1 1 1 2 w
theorem demoted_3 (w : World) : Calls Try.prog 19 #[.agg #[.int .i64 3, .int .i64 2, .int .i64 1], .bool false] w fun e w' => e = .returned (.tuple #[.agg #[.int .i64 2, .int .i64 2, .int .i64 1], .int .i64 0]) ∧ Below w.heap.size w w' :=
  demoted_no 3 2 1 0 w
theorem writes_3 (w : World) : Calls Try.prog 14 #[.agg #[.int .i64 3, .int .i64 2, .int .i64 1]] w fun e w' => e = .returned (.int .i64 32) ∧ Below w.heap.size w w' :=
  writes_any 3 2 1 w

set_option maxHeartbeats 800000 in
theorem wakes_any (w : World) : Calls Try.prog 10 #[] w fun e w' => e = .returned (.bool true) ∧ Below w.heap.size w w' := by
  go_enter Try.func10, Try.ntmps10
  go_wp2_with fail
  refine (begun_1 _).mono ?_
  rintro e w1 ⟨rfl, hb1⟩
  have hz1 := hb1.size
  go_wp2_with fail
  refine (heard_2 _).mono ?_
  rintro e w2 ⟨rfl, hb2⟩
  have hz2 := hb2.size
  simp only [World.size_alloc] at hz2
  have k1 := kept hb2 new_alloc
  obtain ⟨c0, c1, c2, f0, f1, f2⟩ := cells3 k1
  go_wp2_with fail
  refine (demoted_3 _).mono ?_
  rintro e w3 ⟨rfl, hb3⟩
  have hz3 := hb3.size
  simp only [World.size_alloc] at hz3
  have k2 := kept hb3 (old_alloc k1)
  have k3 := kept hb3 new_alloc
  clear c0 c1 c2 f0 f1 f2 k1
  obtain ⟨c0, c1, c2, f0, f1, f2⟩ := cells3 k2
  obtain ⟨d0, d1, d2, g0, g1, g2⟩ := cells3 k3
  have hn1 : w1.heap.size < w3.heap.size := by omega
  have hn2 : w2.heap.size < w3.heap.size := by omega
  clear k2 k3
  go_wp2_with fail
  refine (writes_3 _).mono ?_
  rintro e w4 ⟨rfl, hb4⟩
  go_wp2_with fail
  go_ret
  refine ⟨rfl, ?_⟩
  exact below_of hb4 (Below.alloc (below_of hb3 (Below.alloc (below_of hb2 (Below.alloc hb1 (by omega) _)) (by omega) _)) (by omega) _)
end Go.Proofs.Ytjepdlmdemlkmaa
