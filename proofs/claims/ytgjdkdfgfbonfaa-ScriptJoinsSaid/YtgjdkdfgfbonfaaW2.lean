/- The contract of within: at each kind. Conditions: none. -/
import Derived.Test.YtgjdkdfgfbonfaaW1
namespace Go.Proofs.Ytgjdkdfgfbonfaa
open Go.RowKit

theorem own_ints {W : World} {base n : Nat} {v : Value} {xs : List Value} (h : W.ownsRow base 3 1 v n xs) : ∃ a c, v = .slice a n c ∧ n ≤ maxLen ∧ ∀ i u, xs[i]? = some u → ∃ g, a = some ⟨g, 0, none⟩ ∧ W.cell? ⟨g, i, none⟩ = some u := by
  obtain ⟨h1, ⟨rfl, rfl⟩ | ⟨g, cap, cur, rfl, hg, hh, h3, h4, h5, h6⟩⟩ := h
  · refine ⟨none, 0, rfl, by unfold maxLen; omega, fun i u hi => ?_⟩
    have := (List.getElem?_eq_some_iff.1 hi).1
    omega
  · refine ⟨_, cap, rfl, by omega, fun i u hi => ⟨g, rfl, ?_⟩⟩
    rw [← h6, List.getElem?_take] at hi
    split at hi
    · rw [cell_of hh i, ← Array.getElem?_toList]
      exact hi
    · cases hi
theorem cellA {w : World} {b : Nat} {v0 v1 v2 v3 v4 v5 v6 : Value} {t : TypeId} (h : w.heap[b]? = some (.cells #[v0, v1, v2, v3, v4, v5, v6] t)) :
    w.cell? ⟨b, 0, none⟩ = some v0 ∧ w.cell? ⟨b, 1, none⟩ = some v1 ∧ w.cell? ⟨b, 2, none⟩ = some v2 ∧ w.cell? ⟨b, 3, none⟩ = some v3 ∧ w.cell? ⟨b, 4, none⟩ = some v4 ∧ w.cell? ⟨b, 5, none⟩ = some v5 ∧ w.cell? ⟨b, 6, none⟩ = some v6 := by
  simp [World.cell?, h]

set_option maxRecDepth 100000 in
set_option maxHeartbeats 4000000 in
theorem within_0 (C : Array Value) (M : Mx) (hF : Fit M) (w : World) (hM : MixAt w C M) (a : Int) (ha : 0 ≤ a ∧ a ≤ M.nd - 1) (ks : Value) (base : Nat) (hks : w.ownsRow base 3 1 ks 0 []) :
    Calls Try.prog 15 #[.agg C, .agg #[.int .u8 0, .int .i64 a, .int .i64 0, .int .i64 0, .string ⟨#[]⟩, .string ⟨#[]⟩, ks]] w fun e w' => e = .returned (.bool true) ∧ Below w.heap.size w w' := by
  obtain ⟨vp, vv, hC, hp, hv⟩ := hM.ex
  obtain ⟨ka, kc, rfl, hkm, hkc⟩ := own_ints hks
  unfold maxLen at hkm
  have hnd := hF.nd
  have hpk := hF.pk
  have htk := hF.tk
  clear hF
  have hK : ((w.alloc (.cells C 25)).alloc (.cells #[.int .u8 0, .int .i64 a, .int .i64 0, .int .i64 0, .string ⟨#[]⟩, .string ⟨#[]⟩, .slice ka 0 kc] 35)).heap[w.heap.size]? = some (.cells C 25) := old_alloc new_alloc
  have hX : ((w.alloc (.cells C 25)).alloc (.cells #[.int .u8 0, .int .i64 a, .int .i64 0, .int .i64 0, .string ⟨#[]⟩, .string ⟨#[]⟩, .slice ka 0 kc] 35)).heap[w.heap.size + 1]? = some (.cells #[.int .u8 0, .int .i64 a, .int .i64 0, .int .i64 0, .string ⟨#[]⟩, .string ⟨#[]⟩, .slice ka 0 kc] 35) := by
    have h := new_alloc (w := w.alloc (.cells C 25)) (o := .cells #[.int .u8 0, .int .i64 a, .int .i64 0, .int .i64 0, .string ⟨#[]⟩, .string ⟨#[]⟩, .slice ka 0 kc] 35)
    rw [World.size_alloc] at h
    exact h
  have gb : Below w.heap.size w ((w.alloc (.cells C 25)).alloc (.cells #[.int .u8 0, .int .i64 a, .int .i64 0, .int .i64 0, .string ⟨#[]⟩, .string ⟨#[]⟩, .slice ka 0 kc] 35)) := ((Below.refl _ _).alloc (Nat.le_refl _) _).alloc (by simp) _
  clear hkc hks hp hv
  obtain ⟨w0, c18, c19, c20, c21, c22⟩ := mixCells hC hK
  obtain ⟨x0, x1, x2, x3, x4, x5, x6⟩ := cellA hX
  clear hK hX
  go_enter Try.func15, Try.ntmps15
  go_wp2_with fail
  go_loopw [9, 10] (fun a9 a10 wr => ∃ j : Nat, j ≤ 0 ∧ a9 = .bool true ∧ a10 = .int .i64 j ∧ wr = ((w.alloc (.cells C 25)).alloc (.cells #[.int .u8 0, .int .i64 a, .int .i64 0, .int .i64 0, .string ⟨#[]⟩, .string ⟨#[]⟩, .slice ka 0 kc] 35))) (fun _ a10 _ => 0 - (intOf a10).toNat)
  case atStart => exact ⟨0, by omega, rfl, rfl, rfl⟩
  case round =>
    obtain ⟨j, hj, rfl, rfl, rfl⟩ := hrel
    obtain rfl : j = 0 := by omega
    go_wp2_with fail
    go_ret
    exact ⟨rfl, gb⟩

set_option maxRecDepth 100000 in
set_option maxHeartbeats 4000000 in
theorem within_1 (C : Array Value) (M : Mx) (hF : Fit M) (w : World) (hM : MixAt w C M) (a : Int) (p : ByteArray) (v : ByteArray) (ha : 0 ≤ a ∧ a ≤ M.nd - 1) (hpm : p ∈ M.P) (hvm : v ∈ M.V) (ks : Value) (base : Nat) (hks : w.ownsRow base 3 1 ks 0 []) :
    Calls Try.prog 15 #[.agg C, .agg #[.int .u8 1, .int .i64 a, .int .i64 0, .int .i64 0, .string p, .string v, ks]] w fun e w' => e = .returned (.bool true) ∧ Below w.heap.size w w' := by
  obtain ⟨vp, vv, hC, hp, hv⟩ := hM.ex
  obtain ⟨ka, kc, rfl, hkm, hkc⟩ := own_ints hks
  unfold maxLen at hkm
  have hnd := hF.nd
  have hpk := hF.pk
  have htk := hF.tk
  clear hF
  have hK : ((w.alloc (.cells C 25)).alloc (.cells #[.int .u8 1, .int .i64 a, .int .i64 0, .int .i64 0, .string p, .string v, .slice ka 0 kc] 35)).heap[w.heap.size]? = some (.cells C 25) := old_alloc new_alloc
  have hX : ((w.alloc (.cells C 25)).alloc (.cells #[.int .u8 1, .int .i64 a, .int .i64 0, .int .i64 0, .string p, .string v, .slice ka 0 kc] 35)).heap[w.heap.size + 1]? = some (.cells #[.int .u8 1, .int .i64 a, .int .i64 0, .int .i64 0, .string p, .string v, .slice ka 0 kc] 35) := by
    have h := new_alloc (w := w.alloc (.cells C 25)) (o := .cells #[.int .u8 1, .int .i64 a, .int .i64 0, .int .i64 0, .string p, .string v, .slice ka 0 kc] 35)
    rw [World.size_alloc] at h
    exact h
  have gb : Below w.heap.size w ((w.alloc (.cells C 25)).alloc (.cells #[.int .u8 1, .int .i64 a, .int .i64 0, .int .i64 0, .string p, .string v, .slice ka 0 kc] 35)) := ((Below.refl _ _).alloc (Nat.le_refl _) _).alloc (by simp) _
  have hpT := hp.below gb
  have hvT := hv.below gb
  clear hkc hks hp hv
  obtain ⟨w0, c18, c19, c20, c21, c22⟩ := mixCells hC hK
  obtain ⟨x0, x1, x2, x3, x4, x5, x6⟩ := cellA hX
  clear hK hX
  go_enter Try.func15, Try.ntmps15
  go_wp2_with fail
  refine (among_yes _ _ p hpm _ hpT).mono ?_
  rintro e w3 ⟨rfl, rfl⟩
  go_wp2_with fail
  refine (among_yes _ _ v hvm _ hvT).mono ?_
  rintro e w4 ⟨rfl, rfl⟩
  go_wp2_with fail
  go_loopw [9, 10] (fun a9 a10 wr => ∃ j : Nat, j ≤ 0 ∧ a9 = .bool true ∧ a10 = .int .i64 j ∧ wr = ((w.alloc (.cells C 25)).alloc (.cells #[.int .u8 1, .int .i64 a, .int .i64 0, .int .i64 0, .string p, .string v, .slice ka 0 kc] 35))) (fun _ a10 _ => 0 - (intOf a10).toNat)
  case atStart => exact ⟨0, by omega, rfl, rfl, rfl⟩
  case round =>
    obtain ⟨j, hj, rfl, rfl, rfl⟩ := hrel
    obtain rfl : j = 0 := by omega
    go_wp2_with fail
    go_ret
    exact ⟨rfl, gb⟩

set_option maxRecDepth 100000 in
set_option maxHeartbeats 4000000 in
theorem within_2 (C : Array Value) (M : Mx) (hF : Fit M) (w : World) (hM : MixAt w C M) (a : Int) (p : ByteArray) (ha : 0 ≤ a ∧ a ≤ M.nd - 1) (hpm : p ∈ M.P) (ks : Value) (base : Nat) (hks : w.ownsRow base 3 1 ks 0 []) :
    Calls Try.prog 15 #[.agg C, .agg #[.int .u8 2, .int .i64 a, .int .i64 0, .int .i64 0, .string p, .string ⟨#[]⟩, ks]] w fun e w' => e = .returned (.bool true) ∧ Below w.heap.size w w' := by
  obtain ⟨vp, vv, hC, hp, hv⟩ := hM.ex
  obtain ⟨ka, kc, rfl, hkm, hkc⟩ := own_ints hks
  unfold maxLen at hkm
  have hnd := hF.nd
  have hpk := hF.pk
  have htk := hF.tk
  clear hF
  have hK : ((w.alloc (.cells C 25)).alloc (.cells #[.int .u8 2, .int .i64 a, .int .i64 0, .int .i64 0, .string p, .string ⟨#[]⟩, .slice ka 0 kc] 35)).heap[w.heap.size]? = some (.cells C 25) := old_alloc new_alloc
  have hX : ((w.alloc (.cells C 25)).alloc (.cells #[.int .u8 2, .int .i64 a, .int .i64 0, .int .i64 0, .string p, .string ⟨#[]⟩, .slice ka 0 kc] 35)).heap[w.heap.size + 1]? = some (.cells #[.int .u8 2, .int .i64 a, .int .i64 0, .int .i64 0, .string p, .string ⟨#[]⟩, .slice ka 0 kc] 35) := by
    have h := new_alloc (w := w.alloc (.cells C 25)) (o := .cells #[.int .u8 2, .int .i64 a, .int .i64 0, .int .i64 0, .string p, .string ⟨#[]⟩, .slice ka 0 kc] 35)
    rw [World.size_alloc] at h
    exact h
  have gb : Below w.heap.size w ((w.alloc (.cells C 25)).alloc (.cells #[.int .u8 2, .int .i64 a, .int .i64 0, .int .i64 0, .string p, .string ⟨#[]⟩, .slice ka 0 kc] 35)) := ((Below.refl _ _).alloc (Nat.le_refl _) _).alloc (by simp) _
  have hpT := hp.below gb
  clear hkc hks hp hv
  obtain ⟨w0, c18, c19, c20, c21, c22⟩ := mixCells hC hK
  obtain ⟨x0, x1, x2, x3, x4, x5, x6⟩ := cellA hX
  clear hK hX
  go_enter Try.func15, Try.ntmps15
  go_wp2_with fail
  refine (among_yes _ _ p hpm _ hpT).mono ?_
  rintro e w3 ⟨rfl, rfl⟩
  go_wp2_with fail
  go_loopw [9, 10] (fun a9 a10 wr => ∃ j : Nat, j ≤ 0 ∧ a9 = .bool true ∧ a10 = .int .i64 j ∧ wr = ((w.alloc (.cells C 25)).alloc (.cells #[.int .u8 2, .int .i64 a, .int .i64 0, .int .i64 0, .string p, .string ⟨#[]⟩, .slice ka 0 kc] 35))) (fun _ a10 _ => 0 - (intOf a10).toNat)
  case atStart => exact ⟨0, by omega, rfl, rfl, rfl⟩
  case round =>
    obtain ⟨j, hj, rfl, rfl, rfl⟩ := hrel
    obtain rfl : j = 0 := by omega
    go_wp2_with fail
    go_ret
    exact ⟨rfl, gb⟩

set_option maxRecDepth 100000 in
set_option maxHeartbeats 4000000 in
theorem within_3 (C : Array Value) (M : Mx) (hF : Fit M) (w : World) (hM : MixAt w C M) (a : Int) (p : ByteArray) (ha : 0 ≤ a ∧ a ≤ M.nd - 1) (hpm : p ∈ M.P) (ks : Value) (base : Nat) (hks : w.ownsRow base 3 1 ks 0 []) :
    Calls Try.prog 15 #[.agg C, .agg #[.int .u8 3, .int .i64 a, .int .i64 0, .int .i64 0, .string p, .string ⟨#[]⟩, ks]] w fun e w' => e = .returned (.bool true) ∧ Below w.heap.size w w' := by
  obtain ⟨vp, vv, hC, hp, hv⟩ := hM.ex
  obtain ⟨ka, kc, rfl, hkm, hkc⟩ := own_ints hks
  unfold maxLen at hkm
  have hnd := hF.nd
  have hpk := hF.pk
  have htk := hF.tk
  clear hF
  have hK : ((w.alloc (.cells C 25)).alloc (.cells #[.int .u8 3, .int .i64 a, .int .i64 0, .int .i64 0, .string p, .string ⟨#[]⟩, .slice ka 0 kc] 35)).heap[w.heap.size]? = some (.cells C 25) := old_alloc new_alloc
  have hX : ((w.alloc (.cells C 25)).alloc (.cells #[.int .u8 3, .int .i64 a, .int .i64 0, .int .i64 0, .string p, .string ⟨#[]⟩, .slice ka 0 kc] 35)).heap[w.heap.size + 1]? = some (.cells #[.int .u8 3, .int .i64 a, .int .i64 0, .int .i64 0, .string p, .string ⟨#[]⟩, .slice ka 0 kc] 35) := by
    have h := new_alloc (w := w.alloc (.cells C 25)) (o := .cells #[.int .u8 3, .int .i64 a, .int .i64 0, .int .i64 0, .string p, .string ⟨#[]⟩, .slice ka 0 kc] 35)
    rw [World.size_alloc] at h
    exact h
  have gb : Below w.heap.size w ((w.alloc (.cells C 25)).alloc (.cells #[.int .u8 3, .int .i64 a, .int .i64 0, .int .i64 0, .string p, .string ⟨#[]⟩, .slice ka 0 kc] 35)) := ((Below.refl _ _).alloc (Nat.le_refl _) _).alloc (by simp) _
  have hpT := hp.below gb
  clear hkc hks hp hv
  obtain ⟨w0, c18, c19, c20, c21, c22⟩ := mixCells hC hK
  obtain ⟨x0, x1, x2, x3, x4, x5, x6⟩ := cellA hX
  clear hK hX
  go_enter Try.func15, Try.ntmps15
  go_wp2_with fail
  refine (among_yes _ _ p hpm _ hpT).mono ?_
  rintro e w3 ⟨rfl, rfl⟩
  go_wp2_with fail
  go_loopw [9, 10] (fun a9 a10 wr => ∃ j : Nat, j ≤ 0 ∧ a9 = .bool true ∧ a10 = .int .i64 j ∧ wr = ((w.alloc (.cells C 25)).alloc (.cells #[.int .u8 3, .int .i64 a, .int .i64 0, .int .i64 0, .string p, .string ⟨#[]⟩, .slice ka 0 kc] 35))) (fun _ a10 _ => 0 - (intOf a10).toNat)
  case atStart => exact ⟨0, by omega, rfl, rfl, rfl⟩
  case round =>
    obtain ⟨j, hj, rfl, rfl, rfl⟩ := hrel
    obtain rfl : j = 0 := by omega
    go_wp2_with fail
    go_ret
    exact ⟨rfl, gb⟩

set_option maxRecDepth 100000 in
set_option maxHeartbeats 4000000 in
theorem within_4 (C : Array Value) (M : Mx) (hF : Fit M) (w : World) (hM : MixAt w C M) (a : Int) (p : ByteArray) (ha : 0 ≤ a ∧ a ≤ M.nd - 1) (hpm : p ∈ M.P) (ks : Value) (base : Nat) (hks : w.ownsRow base 3 1 ks 0 []) :
    Calls Try.prog 15 #[.agg C, .agg #[.int .u8 4, .int .i64 a, .int .i64 0, .int .i64 0, .string p, .string ⟨#[]⟩, ks]] w fun e w' => e = .returned (.bool true) ∧ Below w.heap.size w w' := by
  obtain ⟨vp, vv, hC, hp, hv⟩ := hM.ex
  obtain ⟨ka, kc, rfl, hkm, hkc⟩ := own_ints hks
  unfold maxLen at hkm
  have hnd := hF.nd
  have hpk := hF.pk
  have htk := hF.tk
  clear hF
  have hK : ((w.alloc (.cells C 25)).alloc (.cells #[.int .u8 4, .int .i64 a, .int .i64 0, .int .i64 0, .string p, .string ⟨#[]⟩, .slice ka 0 kc] 35)).heap[w.heap.size]? = some (.cells C 25) := old_alloc new_alloc
  have hX : ((w.alloc (.cells C 25)).alloc (.cells #[.int .u8 4, .int .i64 a, .int .i64 0, .int .i64 0, .string p, .string ⟨#[]⟩, .slice ka 0 kc] 35)).heap[w.heap.size + 1]? = some (.cells #[.int .u8 4, .int .i64 a, .int .i64 0, .int .i64 0, .string p, .string ⟨#[]⟩, .slice ka 0 kc] 35) := by
    have h := new_alloc (w := w.alloc (.cells C 25)) (o := .cells #[.int .u8 4, .int .i64 a, .int .i64 0, .int .i64 0, .string p, .string ⟨#[]⟩, .slice ka 0 kc] 35)
    rw [World.size_alloc] at h
    exact h
  have gb : Below w.heap.size w ((w.alloc (.cells C 25)).alloc (.cells #[.int .u8 4, .int .i64 a, .int .i64 0, .int .i64 0, .string p, .string ⟨#[]⟩, .slice ka 0 kc] 35)) := ((Below.refl _ _).alloc (Nat.le_refl _) _).alloc (by simp) _
  have hpT := hp.below gb
  clear hkc hks hp hv
  obtain ⟨w0, c18, c19, c20, c21, c22⟩ := mixCells hC hK
  obtain ⟨x0, x1, x2, x3, x4, x5, x6⟩ := cellA hX
  clear hK hX
  go_enter Try.func15, Try.ntmps15
  go_wp2_with fail
  refine (among_yes _ _ p hpm _ hpT).mono ?_
  rintro e w3 ⟨rfl, rfl⟩
  go_wp2_with fail
  go_loopw [9, 10] (fun a9 a10 wr => ∃ j : Nat, j ≤ 0 ∧ a9 = .bool true ∧ a10 = .int .i64 j ∧ wr = ((w.alloc (.cells C 25)).alloc (.cells #[.int .u8 4, .int .i64 a, .int .i64 0, .int .i64 0, .string p, .string ⟨#[]⟩, .slice ka 0 kc] 35))) (fun _ a10 _ => 0 - (intOf a10).toNat)
  case atStart => exact ⟨0, by omega, rfl, rfl, rfl⟩
  case round =>
    obtain ⟨j, hj, rfl, rfl, rfl⟩ := hrel
    obtain rfl : j = 0 := by omega
    go_wp2_with fail
    go_ret
    exact ⟨rfl, gb⟩

set_option maxRecDepth 100000 in
set_option maxHeartbeats 4000000 in
theorem within_5 (C : Array Value) (M : Mx) (hF : Fit M) (w : World) (hM : MixAt w C M) (a : Int) (ha : 0 ≤ a ∧ a ≤ M.nd - 1) (ks : Value) (base : Nat) (hks : w.ownsRow base 3 1 ks 0 []) :
    Calls Try.prog 15 #[.agg C, .agg #[.int .u8 5, .int .i64 a, .int .i64 0, .int .i64 0, .string ⟨#[]⟩, .string ⟨#[]⟩, ks]] w fun e w' => e = .returned (.bool true) ∧ Below w.heap.size w w' := by
  obtain ⟨vp, vv, hC, hp, hv⟩ := hM.ex
  obtain ⟨ka, kc, rfl, hkm, hkc⟩ := own_ints hks
  unfold maxLen at hkm
  have hnd := hF.nd
  have hpk := hF.pk
  have htk := hF.tk
  clear hF
  have hK : ((w.alloc (.cells C 25)).alloc (.cells #[.int .u8 5, .int .i64 a, .int .i64 0, .int .i64 0, .string ⟨#[]⟩, .string ⟨#[]⟩, .slice ka 0 kc] 35)).heap[w.heap.size]? = some (.cells C 25) := old_alloc new_alloc
  have hX : ((w.alloc (.cells C 25)).alloc (.cells #[.int .u8 5, .int .i64 a, .int .i64 0, .int .i64 0, .string ⟨#[]⟩, .string ⟨#[]⟩, .slice ka 0 kc] 35)).heap[w.heap.size + 1]? = some (.cells #[.int .u8 5, .int .i64 a, .int .i64 0, .int .i64 0, .string ⟨#[]⟩, .string ⟨#[]⟩, .slice ka 0 kc] 35) := by
    have h := new_alloc (w := w.alloc (.cells C 25)) (o := .cells #[.int .u8 5, .int .i64 a, .int .i64 0, .int .i64 0, .string ⟨#[]⟩, .string ⟨#[]⟩, .slice ka 0 kc] 35)
    rw [World.size_alloc] at h
    exact h
  have gb : Below w.heap.size w ((w.alloc (.cells C 25)).alloc (.cells #[.int .u8 5, .int .i64 a, .int .i64 0, .int .i64 0, .string ⟨#[]⟩, .string ⟨#[]⟩, .slice ka 0 kc] 35)) := ((Below.refl _ _).alloc (Nat.le_refl _) _).alloc (by simp) _
  clear hkc hks hp hv
  obtain ⟨w0, c18, c19, c20, c21, c22⟩ := mixCells hC hK
  obtain ⟨x0, x1, x2, x3, x4, x5, x6⟩ := cellA hX
  clear hK hX
  go_enter Try.func15, Try.ntmps15
  go_wp2_with fail
  go_loopw [9, 10] (fun a9 a10 wr => ∃ j : Nat, j ≤ 0 ∧ a9 = .bool true ∧ a10 = .int .i64 j ∧ wr = ((w.alloc (.cells C 25)).alloc (.cells #[.int .u8 5, .int .i64 a, .int .i64 0, .int .i64 0, .string ⟨#[]⟩, .string ⟨#[]⟩, .slice ka 0 kc] 35))) (fun _ a10 _ => 0 - (intOf a10).toNat)
  case atStart => exact ⟨0, by omega, rfl, rfl, rfl⟩
  case round =>
    obtain ⟨j, hj, rfl, rfl, rfl⟩ := hrel
    obtain rfl : j = 0 := by omega
    go_wp2_with fail
    go_ret
    exact ⟨rfl, gb⟩

end Go.Proofs.Ytgjdkdfgfbonfaa
