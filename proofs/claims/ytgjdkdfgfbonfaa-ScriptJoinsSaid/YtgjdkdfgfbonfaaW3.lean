/- The contract of within: at each kind. Conditions: none. -/
import Derived.Test.YtgjdkdfgfbonfaaW2
namespace Go.Proofs.Ytgjdkdfgfbonfaa
open Go.RowKit

set_option maxRecDepth 100000 in
set_option maxHeartbeats 4000000 in
theorem within_6 (C : Array Value) (M : Mx) (hF : Fit M) (w : World) (hM : MixAt w C M) (a : Int) (ha : 0 ≤ a ∧ a ≤ M.nd - 1) (ks : Value) (base : Nat) (hks : w.ownsRow base 3 1 ks 0 []) :
    Calls Try.prog 15 #[.agg C, .agg #[.int .u8 6, .int .i64 a, .int .i64 0, .int .i64 0, .string ⟨#[]⟩, .string ⟨#[]⟩, ks]] w fun e w' => e = .returned (.bool true) ∧ Below w.heap.size w w' := by
  obtain ⟨vp, vv, hC, hp, hv⟩ := hM.ex
  obtain ⟨ka, kc, rfl, hkm, hkc⟩ := own_ints hks
  unfold maxLen at hkm
  have hnd := hF.nd
  have hpk := hF.pk
  have htk := hF.tk
  clear hF
  have hK : ((w.alloc (.cells C 25)).alloc (.cells #[.int .u8 6, .int .i64 a, .int .i64 0, .int .i64 0, .string ⟨#[]⟩, .string ⟨#[]⟩, .slice ka 0 kc] 35)).heap[w.heap.size]? = some (.cells C 25) := old_alloc new_alloc
  have hX : ((w.alloc (.cells C 25)).alloc (.cells #[.int .u8 6, .int .i64 a, .int .i64 0, .int .i64 0, .string ⟨#[]⟩, .string ⟨#[]⟩, .slice ka 0 kc] 35)).heap[w.heap.size + 1]? = some (.cells #[.int .u8 6, .int .i64 a, .int .i64 0, .int .i64 0, .string ⟨#[]⟩, .string ⟨#[]⟩, .slice ka 0 kc] 35) := by
    have h := new_alloc (w := w.alloc (.cells C 25)) (o := .cells #[.int .u8 6, .int .i64 a, .int .i64 0, .int .i64 0, .string ⟨#[]⟩, .string ⟨#[]⟩, .slice ka 0 kc] 35)
    rw [World.size_alloc] at h
    exact h
  have gb : Below w.heap.size w ((w.alloc (.cells C 25)).alloc (.cells #[.int .u8 6, .int .i64 a, .int .i64 0, .int .i64 0, .string ⟨#[]⟩, .string ⟨#[]⟩, .slice ka 0 kc] 35)) := ((Below.refl _ _).alloc (Nat.le_refl _) _).alloc (by simp) _
  clear hkc hks hp hv
  obtain ⟨w0, c18, c19, c20, c21, c22⟩ := mixCells hC hK
  obtain ⟨x0, x1, x2, x3, x4, x5, x6⟩ := cellA hX
  clear hK hX
  go_enter Try.func15, Try.ntmps15
  go_wp2_with fail
  go_loopw [9, 10] (fun a9 a10 wr => ∃ j : Nat, j ≤ 0 ∧ a9 = .bool true ∧ a10 = .int .i64 j ∧ wr = ((w.alloc (.cells C 25)).alloc (.cells #[.int .u8 6, .int .i64 a, .int .i64 0, .int .i64 0, .string ⟨#[]⟩, .string ⟨#[]⟩, .slice ka 0 kc] 35))) (fun _ a10 _ => 0 - (intOf a10).toNat)
  case atStart => exact ⟨0, by omega, rfl, rfl, rfl⟩
  case round =>
    obtain ⟨j, hj, rfl, rfl, rfl⟩ := hrel
    obtain rfl : j = 0 := by omega
    go_wp2_with fail
    go_ret
    exact ⟨rfl, gb⟩

set_option maxRecDepth 100000 in
set_option maxHeartbeats 4000000 in
theorem within_7 (C : Array Value) (M : Mx) (hF : Fit M) (w : World) (hM : MixAt w C M) (a : Int) (ha : 0 ≤ a ∧ a ≤ M.nd - 1) (ks : Value) (base : Nat) (hks : w.ownsRow base 3 1 ks 0 []) :
    Calls Try.prog 15 #[.agg C, .agg #[.int .u8 7, .int .i64 a, .int .i64 0, .int .i64 0, .string ⟨#[]⟩, .string ⟨#[]⟩, ks]] w fun e w' => e = .returned (.bool true) ∧ Below w.heap.size w w' := by
  obtain ⟨vp, vv, hC, hp, hv⟩ := hM.ex
  obtain ⟨ka, kc, rfl, hkm, hkc⟩ := own_ints hks
  unfold maxLen at hkm
  have hnd := hF.nd
  have hpk := hF.pk
  have htk := hF.tk
  clear hF
  have hK : ((w.alloc (.cells C 25)).alloc (.cells #[.int .u8 7, .int .i64 a, .int .i64 0, .int .i64 0, .string ⟨#[]⟩, .string ⟨#[]⟩, .slice ka 0 kc] 35)).heap[w.heap.size]? = some (.cells C 25) := old_alloc new_alloc
  have hX : ((w.alloc (.cells C 25)).alloc (.cells #[.int .u8 7, .int .i64 a, .int .i64 0, .int .i64 0, .string ⟨#[]⟩, .string ⟨#[]⟩, .slice ka 0 kc] 35)).heap[w.heap.size + 1]? = some (.cells #[.int .u8 7, .int .i64 a, .int .i64 0, .int .i64 0, .string ⟨#[]⟩, .string ⟨#[]⟩, .slice ka 0 kc] 35) := by
    have h := new_alloc (w := w.alloc (.cells C 25)) (o := .cells #[.int .u8 7, .int .i64 a, .int .i64 0, .int .i64 0, .string ⟨#[]⟩, .string ⟨#[]⟩, .slice ka 0 kc] 35)
    rw [World.size_alloc] at h
    exact h
  have gb : Below w.heap.size w ((w.alloc (.cells C 25)).alloc (.cells #[.int .u8 7, .int .i64 a, .int .i64 0, .int .i64 0, .string ⟨#[]⟩, .string ⟨#[]⟩, .slice ka 0 kc] 35)) := ((Below.refl _ _).alloc (Nat.le_refl _) _).alloc (by simp) _
  clear hkc hks hp hv
  obtain ⟨w0, c18, c19, c20, c21, c22⟩ := mixCells hC hK
  obtain ⟨x0, x1, x2, x3, x4, x5, x6⟩ := cellA hX
  clear hK hX
  go_enter Try.func15, Try.ntmps15
  go_wp2_with fail
  go_loopw [9, 10] (fun a9 a10 wr => ∃ j : Nat, j ≤ 0 ∧ a9 = .bool true ∧ a10 = .int .i64 j ∧ wr = ((w.alloc (.cells C 25)).alloc (.cells #[.int .u8 7, .int .i64 a, .int .i64 0, .int .i64 0, .string ⟨#[]⟩, .string ⟨#[]⟩, .slice ka 0 kc] 35))) (fun _ a10 _ => 0 - (intOf a10).toNat)
  case atStart => exact ⟨0, by omega, rfl, rfl, rfl⟩
  case round =>
    obtain ⟨j, hj, rfl, rfl, rfl⟩ := hrel
    obtain rfl : j = 0 := by omega
    go_wp2_with fail
    go_ret
    exact ⟨rfl, gb⟩

set_option maxRecDepth 100000 in
set_option maxHeartbeats 4000000 in
theorem within_8 (C : Array Value) (M : Mx) (hF : Fit M) (w : World) (hM : MixAt w C M) (a : Int) (ha : 0 ≤ a ∧ a ≤ M.nd - 1) (ks : Value) (base : Nat) (hks : w.ownsRow base 3 1 ks 0 []) :
    Calls Try.prog 15 #[.agg C, .agg #[.int .u8 8, .int .i64 a, .int .i64 0, .int .i64 0, .string ⟨#[]⟩, .string ⟨#[]⟩, ks]] w fun e w' => e = .returned (.bool true) ∧ Below w.heap.size w w' := by
  obtain ⟨vp, vv, hC, hp, hv⟩ := hM.ex
  obtain ⟨ka, kc, rfl, hkm, hkc⟩ := own_ints hks
  unfold maxLen at hkm
  have hnd := hF.nd
  have hpk := hF.pk
  have htk := hF.tk
  clear hF
  have hK : ((w.alloc (.cells C 25)).alloc (.cells #[.int .u8 8, .int .i64 a, .int .i64 0, .int .i64 0, .string ⟨#[]⟩, .string ⟨#[]⟩, .slice ka 0 kc] 35)).heap[w.heap.size]? = some (.cells C 25) := old_alloc new_alloc
  have hX : ((w.alloc (.cells C 25)).alloc (.cells #[.int .u8 8, .int .i64 a, .int .i64 0, .int .i64 0, .string ⟨#[]⟩, .string ⟨#[]⟩, .slice ka 0 kc] 35)).heap[w.heap.size + 1]? = some (.cells #[.int .u8 8, .int .i64 a, .int .i64 0, .int .i64 0, .string ⟨#[]⟩, .string ⟨#[]⟩, .slice ka 0 kc] 35) := by
    have h := new_alloc (w := w.alloc (.cells C 25)) (o := .cells #[.int .u8 8, .int .i64 a, .int .i64 0, .int .i64 0, .string ⟨#[]⟩, .string ⟨#[]⟩, .slice ka 0 kc] 35)
    rw [World.size_alloc] at h
    exact h
  have gb : Below w.heap.size w ((w.alloc (.cells C 25)).alloc (.cells #[.int .u8 8, .int .i64 a, .int .i64 0, .int .i64 0, .string ⟨#[]⟩, .string ⟨#[]⟩, .slice ka 0 kc] 35)) := ((Below.refl _ _).alloc (Nat.le_refl _) _).alloc (by simp) _
  clear hkc hks hp hv
  obtain ⟨w0, c18, c19, c20, c21, c22⟩ := mixCells hC hK
  obtain ⟨x0, x1, x2, x3, x4, x5, x6⟩ := cellA hX
  clear hK hX
  go_enter Try.func15, Try.ntmps15
  go_wp2_with fail
  go_loopw [9, 10] (fun a9 a10 wr => ∃ j : Nat, j ≤ 0 ∧ a9 = .bool true ∧ a10 = .int .i64 j ∧ wr = ((w.alloc (.cells C 25)).alloc (.cells #[.int .u8 8, .int .i64 a, .int .i64 0, .int .i64 0, .string ⟨#[]⟩, .string ⟨#[]⟩, .slice ka 0 kc] 35))) (fun _ a10 _ => 0 - (intOf a10).toNat)
  case atStart => exact ⟨0, by omega, rfl, rfl, rfl⟩
  case round =>
    obtain ⟨j, hj, rfl, rfl, rfl⟩ := hrel
    obtain rfl : j = 0 := by omega
    go_wp2_with fail
    go_ret
    exact ⟨rfl, gb⟩

set_option maxRecDepth 100000 in
set_option maxHeartbeats 4000000 in
theorem within_9 (C : Array Value) (M : Mx) (hF : Fit M) (w : World) (hM : MixAt w C M) (a : Int) (ha : 0 ≤ a ∧ a ≤ M.nd - 1) (ks : Value) (base : Nat) (hks : w.ownsRow base 3 1 ks 0 []) :
    Calls Try.prog 15 #[.agg C, .agg #[.int .u8 9, .int .i64 a, .int .i64 0, .int .i64 0, .string ⟨#[]⟩, .string ⟨#[]⟩, ks]] w fun e w' => e = .returned (.bool true) ∧ Below w.heap.size w w' := by
  obtain ⟨vp, vv, hC, hp, hv⟩ := hM.ex
  obtain ⟨ka, kc, rfl, hkm, hkc⟩ := own_ints hks
  unfold maxLen at hkm
  have hnd := hF.nd
  have hpk := hF.pk
  have htk := hF.tk
  clear hF
  have hK : ((w.alloc (.cells C 25)).alloc (.cells #[.int .u8 9, .int .i64 a, .int .i64 0, .int .i64 0, .string ⟨#[]⟩, .string ⟨#[]⟩, .slice ka 0 kc] 35)).heap[w.heap.size]? = some (.cells C 25) := old_alloc new_alloc
  have hX : ((w.alloc (.cells C 25)).alloc (.cells #[.int .u8 9, .int .i64 a, .int .i64 0, .int .i64 0, .string ⟨#[]⟩, .string ⟨#[]⟩, .slice ka 0 kc] 35)).heap[w.heap.size + 1]? = some (.cells #[.int .u8 9, .int .i64 a, .int .i64 0, .int .i64 0, .string ⟨#[]⟩, .string ⟨#[]⟩, .slice ka 0 kc] 35) := by
    have h := new_alloc (w := w.alloc (.cells C 25)) (o := .cells #[.int .u8 9, .int .i64 a, .int .i64 0, .int .i64 0, .string ⟨#[]⟩, .string ⟨#[]⟩, .slice ka 0 kc] 35)
    rw [World.size_alloc] at h
    exact h
  have gb : Below w.heap.size w ((w.alloc (.cells C 25)).alloc (.cells #[.int .u8 9, .int .i64 a, .int .i64 0, .int .i64 0, .string ⟨#[]⟩, .string ⟨#[]⟩, .slice ka 0 kc] 35)) := ((Below.refl _ _).alloc (Nat.le_refl _) _).alloc (by simp) _
  clear hkc hks hp hv
  obtain ⟨w0, c18, c19, c20, c21, c22⟩ := mixCells hC hK
  obtain ⟨x0, x1, x2, x3, x4, x5, x6⟩ := cellA hX
  clear hK hX
  go_enter Try.func15, Try.ntmps15
  go_wp2_with fail
  go_loopw [9, 10] (fun a9 a10 wr => ∃ j : Nat, j ≤ 0 ∧ a9 = .bool true ∧ a10 = .int .i64 j ∧ wr = ((w.alloc (.cells C 25)).alloc (.cells #[.int .u8 9, .int .i64 a, .int .i64 0, .int .i64 0, .string ⟨#[]⟩, .string ⟨#[]⟩, .slice ka 0 kc] 35))) (fun _ a10 _ => 0 - (intOf a10).toNat)
  case atStart => exact ⟨0, by omega, rfl, rfl, rfl⟩
  case round =>
    obtain ⟨j, hj, rfl, rfl, rfl⟩ := hrel
    obtain rfl : j = 0 := by omega
    go_wp2_with fail
    go_ret
    exact ⟨rfl, gb⟩

set_option maxRecDepth 100000 in
set_option maxHeartbeats 4000000 in
theorem within_10 (C : Array Value) (M : Mx) (hF : Fit M) (w : World) (hM : MixAt w C M) (a : Int) (ha : 0 ≤ a ∧ a ≤ M.nd - 1) (ks : Value) (base : Nat) (hks : w.ownsRow base 3 1 ks 0 []) :
    Calls Try.prog 15 #[.agg C, .agg #[.int .u8 10, .int .i64 a, .int .i64 0, .int .i64 0, .string ⟨#[]⟩, .string ⟨#[]⟩, ks]] w fun e w' => e = .returned (.bool true) ∧ Below w.heap.size w w' := by
  obtain ⟨vp, vv, hC, hp, hv⟩ := hM.ex
  obtain ⟨ka, kc, rfl, hkm, hkc⟩ := own_ints hks
  unfold maxLen at hkm
  have hnd := hF.nd
  have hpk := hF.pk
  have htk := hF.tk
  clear hF
  have hK : ((w.alloc (.cells C 25)).alloc (.cells #[.int .u8 10, .int .i64 a, .int .i64 0, .int .i64 0, .string ⟨#[]⟩, .string ⟨#[]⟩, .slice ka 0 kc] 35)).heap[w.heap.size]? = some (.cells C 25) := old_alloc new_alloc
  have hX : ((w.alloc (.cells C 25)).alloc (.cells #[.int .u8 10, .int .i64 a, .int .i64 0, .int .i64 0, .string ⟨#[]⟩, .string ⟨#[]⟩, .slice ka 0 kc] 35)).heap[w.heap.size + 1]? = some (.cells #[.int .u8 10, .int .i64 a, .int .i64 0, .int .i64 0, .string ⟨#[]⟩, .string ⟨#[]⟩, .slice ka 0 kc] 35) := by
    have h := new_alloc (w := w.alloc (.cells C 25)) (o := .cells #[.int .u8 10, .int .i64 a, .int .i64 0, .int .i64 0, .string ⟨#[]⟩, .string ⟨#[]⟩, .slice ka 0 kc] 35)
    rw [World.size_alloc] at h
    exact h
  have gb : Below w.heap.size w ((w.alloc (.cells C 25)).alloc (.cells #[.int .u8 10, .int .i64 a, .int .i64 0, .int .i64 0, .string ⟨#[]⟩, .string ⟨#[]⟩, .slice ka 0 kc] 35)) := ((Below.refl _ _).alloc (Nat.le_refl _) _).alloc (by simp) _
  clear hkc hks hp hv
  obtain ⟨w0, c18, c19, c20, c21, c22⟩ := mixCells hC hK
  obtain ⟨x0, x1, x2, x3, x4, x5, x6⟩ := cellA hX
  clear hK hX
  go_enter Try.func15, Try.ntmps15
  go_wp2_with fail
  go_loopw [9, 10] (fun a9 a10 wr => ∃ j : Nat, j ≤ 0 ∧ a9 = .bool true ∧ a10 = .int .i64 j ∧ wr = ((w.alloc (.cells C 25)).alloc (.cells #[.int .u8 10, .int .i64 a, .int .i64 0, .int .i64 0, .string ⟨#[]⟩, .string ⟨#[]⟩, .slice ka 0 kc] 35))) (fun _ a10 _ => 0 - (intOf a10).toNat)
  case atStart => exact ⟨0, by omega, rfl, rfl, rfl⟩
  case round =>
    obtain ⟨j, hj, rfl, rfl, rfl⟩ := hrel
    obtain rfl : j = 0 := by omega
    go_wp2_with fail
    go_ret
    exact ⟨rfl, gb⟩

set_option maxRecDepth 100000 in
set_option maxHeartbeats 4000000 in
theorem within_11 (C : Array Value) (M : Mx) (hF : Fit M) (w : World) (hM : MixAt w C M) (a : Int) (ha : 1 ≤ a ∧ a ≤ M.tk) (ks : Value) (base : Nat) (hks : w.ownsRow base 3 1 ks 0 []) :
    Calls Try.prog 15 #[.agg C, .agg #[.int .u8 11, .int .i64 a, .int .i64 0, .int .i64 0, .string ⟨#[]⟩, .string ⟨#[]⟩, ks]] w fun e w' => e = .returned (.bool true) ∧ Below w.heap.size w w' := by
  obtain ⟨vp, vv, hC, hp, hv⟩ := hM.ex
  obtain ⟨ka, kc, rfl, hkm, hkc⟩ := own_ints hks
  unfold maxLen at hkm
  have hnd := hF.nd
  have hpk := hF.pk
  have htk := hF.tk
  clear hF
  have hK : ((w.alloc (.cells C 25)).alloc (.cells #[.int .u8 11, .int .i64 a, .int .i64 0, .int .i64 0, .string ⟨#[]⟩, .string ⟨#[]⟩, .slice ka 0 kc] 35)).heap[w.heap.size]? = some (.cells C 25) := old_alloc new_alloc
  have hX : ((w.alloc (.cells C 25)).alloc (.cells #[.int .u8 11, .int .i64 a, .int .i64 0, .int .i64 0, .string ⟨#[]⟩, .string ⟨#[]⟩, .slice ka 0 kc] 35)).heap[w.heap.size + 1]? = some (.cells #[.int .u8 11, .int .i64 a, .int .i64 0, .int .i64 0, .string ⟨#[]⟩, .string ⟨#[]⟩, .slice ka 0 kc] 35) := by
    have h := new_alloc (w := w.alloc (.cells C 25)) (o := .cells #[.int .u8 11, .int .i64 a, .int .i64 0, .int .i64 0, .string ⟨#[]⟩, .string ⟨#[]⟩, .slice ka 0 kc] 35)
    rw [World.size_alloc] at h
    exact h
  have gb : Below w.heap.size w ((w.alloc (.cells C 25)).alloc (.cells #[.int .u8 11, .int .i64 a, .int .i64 0, .int .i64 0, .string ⟨#[]⟩, .string ⟨#[]⟩, .slice ka 0 kc] 35)) := ((Below.refl _ _).alloc (Nat.le_refl _) _).alloc (by simp) _
  clear hkc hks hp hv
  obtain ⟨w0, c18, c19, c20, c21, c22⟩ := mixCells hC hK
  obtain ⟨x0, x1, x2, x3, x4, x5, x6⟩ := cellA hX
  clear hK hX
  go_enter Try.func15, Try.ntmps15
  go_wp2_with fail
  go_loopw [9, 10] (fun a9 a10 wr => ∃ j : Nat, j ≤ 0 ∧ a9 = .bool true ∧ a10 = .int .i64 j ∧ wr = ((w.alloc (.cells C 25)).alloc (.cells #[.int .u8 11, .int .i64 a, .int .i64 0, .int .i64 0, .string ⟨#[]⟩, .string ⟨#[]⟩, .slice ka 0 kc] 35))) (fun _ a10 _ => 0 - (intOf a10).toNat)
  case atStart => exact ⟨0, by omega, rfl, rfl, rfl⟩
  case round =>
    obtain ⟨j, hj, rfl, rfl, rfl⟩ := hrel
    obtain rfl : j = 0 := by omega
    go_wp2_with fail
    go_ret
    exact ⟨rfl, gb⟩

end Go.Proofs.Ytgjdkdfgfbonfaa
