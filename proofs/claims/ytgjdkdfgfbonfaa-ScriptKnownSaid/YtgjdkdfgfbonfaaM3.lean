/- The contract of given: a mix, as the document's. Conditions: none. -/
import Derived.Test.YtgjdkdfgfbonfaaM2
namespace Go.Proofs.Ytgjdkdfgfbonfaa
open Go.RowKit

theorem isC_is {C : Array Value} {M : Mx} {vp vv : Value} (hC : IsC C M vp vv) : C = #[.int .i64 (M.W 0), .int .i64 (M.W 1), .int .i64 (M.W 2), .int .i64 (M.W 3), .int .i64 (M.W 4), .int .i64 (M.W 5), .int .i64 (M.W 6), .int .i64 (M.W 7), .int .i64 (M.W 8), .int .i64 (M.W 9), .int .i64 (M.W 10), .int .i64 (M.W 11), .int .i64 (M.W 12), .int .i64 (M.W 13), .int .i64 (M.W 14), .int .i64 (M.W 15), .int .i64 (M.W 16), .int .i64 (M.W 17), .int .i64 M.nd, .int .i64 M.pk, .int .i64 M.tk, vp, vv] := by
  apply Array.ext_getElem?
  intro i
  by_cases h : i < 18
  · rw [hC.w i h]
    have h' : i = 0 ∨ i = 1 ∨ i = 2 ∨ i = 3 ∨ i = 4 ∨ i = 5 ∨ i = 6 ∨ i = 7 ∨ i = 8 ∨ i = 9 ∨ i = 10 ∨ i = 11 ∨ i = 12 ∨ i = 13 ∨ i = 14 ∨ i = 15 ∨ i = 16 ∨ i = 17 := by grind
    rcases h' with rfl | rfl | rfl | rfl | rfl | rfl | rfl | rfl | rfl | rfl | rfl | rfl | rfl | rfl | rfl | rfl | rfl | rfl <;> rfl
  · by_cases h2 : i < 23
    · have h' : i = 18 ∨ i = 19 ∨ i = 20 ∨ i = 21 ∨ i = 22 := by grind
      rcases h' with rfl | rfl | rfl | rfl | rfl
      · exact hC.nd
      · exact hC.pk
      · exact hC.tk
      · exact hC.p
      · exact hC.v
    · rw [Array.getElem?_eq_none (by rw [hC.size]; omega), Array.getElem?_eq_none (by simp; omega)]

theorem built51' (W : Nat → Int) (n p t : Int) (a1 a2 : Option Addr) (n1 c1 n2 c2 : Nat) : Try.prog.built 51 [(0, .agg #[.int .i64 (W 0), .int .i64 (W 1), .int .i64 (W 2), .int .i64 (W 3), .int .i64 (W 4), .int .i64 (W 5), .int .i64 (W 6), .int .i64 (W 7), .int .i64 (W 8), .int .i64 (W 9), .int .i64 (W 10), .int .i64 (W 11), .int .i64 (W 12), .int .i64 (W 13), .int .i64 (W 14), .int .i64 (W 15), .int .i64 (W 16), .int .i64 (W 17)]), (1, .int .i64 n), (2, .int .i64 p), (3, .int .i64 t), (4, .slice a1 n1 c1), (5, .slice a2 n2 c2)] = some #[.int .i64 (W 0), .int .i64 (W 1), .int .i64 (W 2), .int .i64 (W 3), .int .i64 (W 4), .int .i64 (W 5), .int .i64 (W 6), .int .i64 (W 7), .int .i64 (W 8), .int .i64 (W 9), .int .i64 (W 10), .int .i64 (W 11), .int .i64 (W 12), .int .i64 (W 13), .int .i64 (W 14), .int .i64 (W 15), .int .i64 (W 16), .int .i64 (W 17), .int .i64 n, .int .i64 p, .int .i64 t, .slice a1 n1 c1, .slice a2 n2 c2] := by kernel_rfl
theorem ext_is {C : Array Value} {M : Mx} {vp vv : Value} (hC : IsC C M vp vv) : C.extract 0 18 = #[.int .i64 (M.W 0), .int .i64 (M.W 1), .int .i64 (M.W 2), .int .i64 (M.W 3), .int .i64 (M.W 4), .int .i64 (M.W 5), .int .i64 (M.W 6), .int .i64 (M.W 7), .int .i64 (M.W 8), .int .i64 (M.W 9), .int .i64 (M.W 10), .int .i64 (M.W 11), .int .i64 (M.W 12), .int .i64 (M.W 13), .int .i64 (M.W 14), .int .i64 (M.W 15), .int .i64 (M.W 16), .int .i64 (M.W 17)] := by
  apply Array.ext_getElem?
  intro i
  by_cases h : i < 18
  · rw [ext18 hC h]
    have h' : i = 0 ∨ i = 1 ∨ i = 2 ∨ i = 3 ∨ i = 4 ∨ i = 5 ∨ i = 6 ∨ i = 7 ∨ i = 8 ∨ i = 9 ∨ i = 10 ∨ i = 11 ∨ i = 12 ∨ i = 13 ∨ i = 14 ∨ i = 15 ∨ i = 16 ∨ i = 17 := by grind
    rcases h' with rfl | rfl | rfl | rfl | rfl | rfl | rfl | rfl | rfl | rfl | rfl | rfl | rfl | rfl | rfl | rfl | rfl | rfl <;> rfl
  · rw [Array.getElem?_eq_none (by simp; omega), Array.getElem?_eq_none (by simp; omega)]
theorem built51 {C : Array Value} {M : Mx} {a1 a2 : Option Addr} {n1 c1 n2 c2 : Nat} (hC : IsC C M (.slice a1 n1 c1) (.slice a2 n2 c2)) : Try.prog.built 51 [(0, .agg (C.extract 0 18)), (1, .int .i64 M.nd), (2, .int .i64 M.pk), (3, .int .i64 M.tk), (4, .slice a1 n1 c1), (5, .slice a2 n2 c2)] = some C := by
  rw [ext_is hC]
  exact (built51' M.W M.nd M.pk M.tk a1 a2 n1 c1 n2 c2).trans (congrArg some (isC_is hC).symm)
theorem zero51 : (Try.prog.info? 51).bind (·.zero) = some (.agg #[.int .i64 0, .int .i64 0, .int .i64 0, .int .i64 0, .int .i64 0, .int .i64 0, .int .i64 0, .int .i64 0, .int .i64 0, .int .i64 0, .int .i64 0, .int .i64 0, .int .i64 0, .int .i64 0, .int .i64 0, .int .i64 0, .int .i64 0, .int .i64 0, .int .i64 0, .int .i64 0, .int .i64 0, .slice none 0 0, .slice none 0 0]) := by kernel_rfl
theorem isC_one {C : Array Value} {M : Mx} {a1 a2 : Option Addr} {n1 c1 n2 c2 : Nat} (hC : IsC C M (.slice a1 n1 c1) (.slice a2 n2 c2)) : C.all (·.oneCell') = true := by
  rw [isC_is hC]
  simp [Value.oneCell']

theorem below_row {B : Nat} {a w : World} (h : Below B a w) {g : Nat} (hg : B ≤ g) (c : Array Value) : Below B a (w.setRow g c) :=
  ⟨h.os, h.tape, h.output, by simpa using h.size, fun k hk => (setRow_other _ _ _ _ (by omega)).trans (h.block k hk)⟩

/-- Bytes from off on, taken from elsewhere. -/
def spl (f : Nat → UInt8) (off m : Nat) (g : Nat → UInt8) : Nat → UInt8 := fun j => if off ≤ j ∧ j < off + m then g (j - off) else f j

set_option maxHeartbeats 1600000 in
theorem given_any (C : Array Value) (M : Mx) (w : World) (hM : MixAt w C M) : Calls Try.prog 24 #[.agg C] w fun e w' => e = .returned (.agg C) ∧ Below w.heap.size w w' := by
  obtain ⟨vp, vv, hC, ⟨a1, c1, rfl, hm1, hp⟩, ⟨a2, c2, rfl, hm2, hv⟩⟩ := hM.ex
  clear hp hv hm1 hm2
  have hbu := built51 hC
  have hone := isC_one hC
  have h18 : 0 + 18 ≤ C.size := by have := hC.size; omega
  have h23 : (Try.prog.info? 51).map (·.size) = some C.size := by rw [hC.size]; kernel_rfl
  replace h23 := hide h23
  replace hbu := hide hbu
  replace hone := hide hone
  generalize hZ : (#[.int .i64 0, .int .i64 0, .int .i64 0, .int .i64 0, .int .i64 0, .int .i64 0, .int .i64 0, .int .i64 0, .int .i64 0, .int .i64 0, .int .i64 0, .int .i64 0, .int .i64 0, .int .i64 0, .int .i64 0, .int .i64 0, .int .i64 0, .int .i64 0, .int .i64 0, .int .i64 0, .int .i64 0, .slice none 0 0, .slice none 0 0] : Array Value) = Z
  have hz := zero51
  rw [hZ] at hz
  have hZs : Z.size = C.size := by rw [hC.size, ← hZ]; rfl
  replace hz := hide hz
  replace hZs := hide hZs
  clear hZ
  have k1 : ((w.alloc (.cells C 25)).alloc (.cells Z 51)).heap[w.heap.size]? = some (.cells C 25) := old_alloc new_alloc
  have k2 : ((w.alloc (.cells C 25)).alloc (.cells Z 51)).heap[w.heap.size + 1]? = some (.cells Z 51) := by
    have h := new_alloc (w := w.alloc (.cells C 25)) (o := .cells Z 51)
    rw [World.size_alloc] at h
    exact h
  have hbl : Below w.heap.size w ((w.alloc (.cells C 25)).alloc (.cells Z 51)) := ((Below.refl _ _).alloc (Nat.le_refl _) _).alloc (by simp) _
  obtain ⟨c0, c18, c19, c20, c21, c22⟩ := mixCells hC k1
  go_enter Try.func24, Try.ntmps24
  go_wp2_with (first | (with_reducible refine wpList_alloc_row rfl 51 rfl _ hz.out ?_) | (with_reducible refine wpList_load_part rfl 22 _ rfl w.heap.size 0 18 ?_ 25 C (0, 0) _ k1 Try.underlying22 rfl size22 h18 ?_; rotate_left) | (with_reducible refine wpList_build_is rfl 51 _ rfl C ?_ ?_; rotate_left) | (with_reducible refine wpList_store_row rfl 51 _ _ rfl (w.heap.size + 1) C ?_ ?_ 51 _ k2 h23.out hZs.out hone.out ?_; rotate_left; rotate_left))
  all_goals try exact rfl
  all_goals try exact hbu.out
  refine bodyPost_ret (v := .agg C) (results_cell_row rfl _ _ (w.heap.size + 1) 51 _ (0, 0) _ rfl (setRow_heap _ _ _ _ _ _ k2) Try.underlying51 rfl h23.out) rfl ⟨rfl, ?_⟩
  exact below_row hbl (by omega) _

end Go.Proofs.Ytgjdkdfgfbonfaa
