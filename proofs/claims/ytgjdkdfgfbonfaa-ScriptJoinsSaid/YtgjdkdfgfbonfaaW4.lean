/- The contract of within: at each kind. Conditions: none. -/
import Derived.Test.YtgjdkdfgfbonfaaW3
namespace Go.Proofs.Ytgjdkdfgfbonfaa
open Go.RowKit

set_option maxRecDepth 100000 in
set_option maxHeartbeats 4000000 in
theorem within_12 (C : Array Value) (M : Mx) (hF : Fit M) (w : World) (hM : MixAt w C M) (a : Int) (ha : 0 ≤ a ∧ a ≤ M.pk - 1) (ks : Value) (base : Nat) (hks : w.ownsRow base 3 1 ks 0 []) :
    Calls Try.prog 15 #[.agg C, .agg #[.int .u8 12, .int .i64 a, .int .i64 0, .int .i64 0, .string ⟨#[]⟩, .string ⟨#[]⟩, ks]] w fun e w' => e = .returned (.bool true) ∧ Below w.heap.size w w' := by
  obtain ⟨vp, vv, hC, hp, hv⟩ := hM.ex
  obtain ⟨ka, kc, rfl, hkm, hkc⟩ := own_ints hks
  unfold maxLen at hkm
  have hnd := hF.nd
  have hpk := hF.pk
  have htk := hF.tk
  clear hF
  have hK : ((w.alloc (.cells C 25)).alloc (.cells #[.int .u8 12, .int .i64 a, .int .i64 0, .int .i64 0, .string ⟨#[]⟩, .string ⟨#[]⟩, .slice ka 0 kc] 35)).heap[w.heap.size]? = some (.cells C 25) := old_alloc new_alloc
  have hX : ((w.alloc (.cells C 25)).alloc (.cells #[.int .u8 12, .int .i64 a, .int .i64 0, .int .i64 0, .string ⟨#[]⟩, .string ⟨#[]⟩, .slice ka 0 kc] 35)).heap[w.heap.size + 1]? = some (.cells #[.int .u8 12, .int .i64 a, .int .i64 0, .int .i64 0, .string ⟨#[]⟩, .string ⟨#[]⟩, .slice ka 0 kc] 35) := by
    have h := new_alloc (w := w.alloc (.cells C 25)) (o := .cells #[.int .u8 12, .int .i64 a, .int .i64 0, .int .i64 0, .string ⟨#[]⟩, .string ⟨#[]⟩, .slice ka 0 kc] 35)
    rw [World.size_alloc] at h
    exact h
  have gb : Below w.heap.size w ((w.alloc (.cells C 25)).alloc (.cells #[.int .u8 12, .int .i64 a, .int .i64 0, .int .i64 0, .string ⟨#[]⟩, .string ⟨#[]⟩, .slice ka 0 kc] 35)) := ((Below.refl _ _).alloc (Nat.le_refl _) _).alloc (by simp) _
  clear hkc hks hp hv
  obtain ⟨w0, c18, c19, c20, c21, c22⟩ := mixCells hC hK
  obtain ⟨x0, x1, x2, x3, x4, x5, x6⟩ := cellA hX
  clear hK hX
  go_enter Try.func15, Try.ntmps15
  go_wp2_with fail
  go_loopw [9, 10] (fun a9 a10 wr => ∃ j : Nat, j ≤ 0 ∧ a9 = .bool true ∧ a10 = .int .i64 j ∧ wr = ((w.alloc (.cells C 25)).alloc (.cells #[.int .u8 12, .int .i64 a, .int .i64 0, .int .i64 0, .string ⟨#[]⟩, .string ⟨#[]⟩, .slice ka 0 kc] 35))) (fun _ a10 _ => 0 - (intOf a10).toNat)
  case atStart => exact ⟨0, by omega, rfl, rfl, rfl⟩
  case round =>
    obtain ⟨j, hj, rfl, rfl, rfl⟩ := hrel
    obtain rfl : j = 0 := by omega
    go_wp2_with fail
    go_ret
    exact ⟨rfl, gb⟩

set_option maxRecDepth 100000 in
set_option maxHeartbeats 4000000 in
theorem within_13 (C : Array Value) (M : Mx) (hF : Fit M) (w : World) (hM : MixAt w C M) (a : Int) (ha : 0 ≤ a ∧ a ≤ M.pk - 1) (ks : Value) (base : Nat) (hks : w.ownsRow base 3 1 ks 0 []) :
    Calls Try.prog 15 #[.agg C, .agg #[.int .u8 13, .int .i64 a, .int .i64 0, .int .i64 0, .string ⟨#[]⟩, .string ⟨#[]⟩, ks]] w fun e w' => e = .returned (.bool true) ∧ Below w.heap.size w w' := by
  obtain ⟨vp, vv, hC, hp, hv⟩ := hM.ex
  obtain ⟨ka, kc, rfl, hkm, hkc⟩ := own_ints hks
  unfold maxLen at hkm
  have hnd := hF.nd
  have hpk := hF.pk
  have htk := hF.tk
  clear hF
  have hK : ((w.alloc (.cells C 25)).alloc (.cells #[.int .u8 13, .int .i64 a, .int .i64 0, .int .i64 0, .string ⟨#[]⟩, .string ⟨#[]⟩, .slice ka 0 kc] 35)).heap[w.heap.size]? = some (.cells C 25) := old_alloc new_alloc
  have hX : ((w.alloc (.cells C 25)).alloc (.cells #[.int .u8 13, .int .i64 a, .int .i64 0, .int .i64 0, .string ⟨#[]⟩, .string ⟨#[]⟩, .slice ka 0 kc] 35)).heap[w.heap.size + 1]? = some (.cells #[.int .u8 13, .int .i64 a, .int .i64 0, .int .i64 0, .string ⟨#[]⟩, .string ⟨#[]⟩, .slice ka 0 kc] 35) := by
    have h := new_alloc (w := w.alloc (.cells C 25)) (o := .cells #[.int .u8 13, .int .i64 a, .int .i64 0, .int .i64 0, .string ⟨#[]⟩, .string ⟨#[]⟩, .slice ka 0 kc] 35)
    rw [World.size_alloc] at h
    exact h
  have gb : Below w.heap.size w ((w.alloc (.cells C 25)).alloc (.cells #[.int .u8 13, .int .i64 a, .int .i64 0, .int .i64 0, .string ⟨#[]⟩, .string ⟨#[]⟩, .slice ka 0 kc] 35)) := ((Below.refl _ _).alloc (Nat.le_refl _) _).alloc (by simp) _
  clear hkc hks hp hv
  obtain ⟨w0, c18, c19, c20, c21, c22⟩ := mixCells hC hK
  obtain ⟨x0, x1, x2, x3, x4, x5, x6⟩ := cellA hX
  clear hK hX
  go_enter Try.func15, Try.ntmps15
  go_wp2_with fail
  go_loopw [9, 10] (fun a9 a10 wr => ∃ j : Nat, j ≤ 0 ∧ a9 = .bool true ∧ a10 = .int .i64 j ∧ wr = ((w.alloc (.cells C 25)).alloc (.cells #[.int .u8 13, .int .i64 a, .int .i64 0, .int .i64 0, .string ⟨#[]⟩, .string ⟨#[]⟩, .slice ka 0 kc] 35))) (fun _ a10 _ => 0 - (intOf a10).toNat)
  case atStart => exact ⟨0, by omega, rfl, rfl, rfl⟩
  case round =>
    obtain ⟨j, hj, rfl, rfl, rfl⟩ := hrel
    obtain rfl : j = 0 := by omega
    go_wp2_with fail
    go_ret
    exact ⟨rfl, gb⟩

set_option maxRecDepth 100000 in
set_option maxHeartbeats 4000000 in
theorem within_14 (C : Array Value) (M : Mx) (hF : Fit M) (w : World) (hM : MixAt w C M) (a : Int) (ha : 0 ≤ a ∧ a ≤ M.pk - 1) (ks : Value) (base : Nat) (hks : w.ownsRow base 3 1 ks 0 []) :
    Calls Try.prog 15 #[.agg C, .agg #[.int .u8 14, .int .i64 a, .int .i64 0, .int .i64 0, .string ⟨#[]⟩, .string ⟨#[]⟩, ks]] w fun e w' => e = .returned (.bool true) ∧ Below w.heap.size w w' := by
  obtain ⟨vp, vv, hC, hp, hv⟩ := hM.ex
  obtain ⟨ka, kc, rfl, hkm, hkc⟩ := own_ints hks
  unfold maxLen at hkm
  have hnd := hF.nd
  have hpk := hF.pk
  have htk := hF.tk
  clear hF
  have hK : ((w.alloc (.cells C 25)).alloc (.cells #[.int .u8 14, .int .i64 a, .int .i64 0, .int .i64 0, .string ⟨#[]⟩, .string ⟨#[]⟩, .slice ka 0 kc] 35)).heap[w.heap.size]? = some (.cells C 25) := old_alloc new_alloc
  have hX : ((w.alloc (.cells C 25)).alloc (.cells #[.int .u8 14, .int .i64 a, .int .i64 0, .int .i64 0, .string ⟨#[]⟩, .string ⟨#[]⟩, .slice ka 0 kc] 35)).heap[w.heap.size + 1]? = some (.cells #[.int .u8 14, .int .i64 a, .int .i64 0, .int .i64 0, .string ⟨#[]⟩, .string ⟨#[]⟩, .slice ka 0 kc] 35) := by
    have h := new_alloc (w := w.alloc (.cells C 25)) (o := .cells #[.int .u8 14, .int .i64 a, .int .i64 0, .int .i64 0, .string ⟨#[]⟩, .string ⟨#[]⟩, .slice ka 0 kc] 35)
    rw [World.size_alloc] at h
    exact h
  have gb : Below w.heap.size w ((w.alloc (.cells C 25)).alloc (.cells #[.int .u8 14, .int .i64 a, .int .i64 0, .int .i64 0, .string ⟨#[]⟩, .string ⟨#[]⟩, .slice ka 0 kc] 35)) := ((Below.refl _ _).alloc (Nat.le_refl _) _).alloc (by simp) _
  clear hkc hks hp hv
  obtain ⟨w0, c18, c19, c20, c21, c22⟩ := mixCells hC hK
  obtain ⟨x0, x1, x2, x3, x4, x5, x6⟩ := cellA hX
  clear hK hX
  go_enter Try.func15, Try.ntmps15
  go_wp2_with fail
  go_loopw [9, 10] (fun a9 a10 wr => ∃ j : Nat, j ≤ 0 ∧ a9 = .bool true ∧ a10 = .int .i64 j ∧ wr = ((w.alloc (.cells C 25)).alloc (.cells #[.int .u8 14, .int .i64 a, .int .i64 0, .int .i64 0, .string ⟨#[]⟩, .string ⟨#[]⟩, .slice ka 0 kc] 35))) (fun _ a10 _ => 0 - (intOf a10).toNat)
  case atStart => exact ⟨0, by omega, rfl, rfl, rfl⟩
  case round =>
    obtain ⟨j, hj, rfl, rfl, rfl⟩ := hrel
    obtain rfl : j = 0 := by omega
    go_wp2_with fail
    go_ret
    exact ⟨rfl, gb⟩

set_option maxRecDepth 100000 in
set_option maxHeartbeats 4000000 in
theorem within_15 (C : Array Value) (M : Mx) (hF : Fit M) (w : World) (hM : MixAt w C M) (a : Int) (keep : List Int) (ha : 0 ≤ a ∧ a ≤ M.nd - 1) (hk0 : 0 < keep.length) (hkl : keep.length < 5) (hku : ∀ (i : Nat) (u : Int), keep[i]? = some u → 0 ≤ u ∧ u ≤ 2) (ks : Value) (base : Nat) (hks : w.ownsRow base 3 1 ks keep.length (keep.map (.int .i64 ·))) :
    Calls Try.prog 15 #[.agg C, .agg #[.int .u8 15, .int .i64 a, .int .i64 0, .int .i64 0, .string ⟨#[]⟩, .string ⟨#[]⟩, ks]] w fun e w' => e = .returned (.bool true) ∧ Below w.heap.size w w' := by
  obtain ⟨vp, vv, hC, hp, hv⟩ := hM.ex
  obtain ⟨ka, kc, rfl, hkm, hkc⟩ := own_ints hks
  unfold maxLen at hkm
  have hnd := hF.nd
  have hpk := hF.pk
  have htk := hF.tk
  clear hF
  have hK : ((w.alloc (.cells C 25)).alloc (.cells #[.int .u8 15, .int .i64 a, .int .i64 0, .int .i64 0, .string ⟨#[]⟩, .string ⟨#[]⟩, .slice ka keep.length kc] 35)).heap[w.heap.size]? = some (.cells C 25) := old_alloc new_alloc
  have hX : ((w.alloc (.cells C 25)).alloc (.cells #[.int .u8 15, .int .i64 a, .int .i64 0, .int .i64 0, .string ⟨#[]⟩, .string ⟨#[]⟩, .slice ka keep.length kc] 35)).heap[w.heap.size + 1]? = some (.cells #[.int .u8 15, .int .i64 a, .int .i64 0, .int .i64 0, .string ⟨#[]⟩, .string ⟨#[]⟩, .slice ka keep.length kc] 35) := by
    have h := new_alloc (w := w.alloc (.cells C 25)) (o := .cells #[.int .u8 15, .int .i64 a, .int .i64 0, .int .i64 0, .string ⟨#[]⟩, .string ⟨#[]⟩, .slice ka keep.length kc] 35)
    rw [World.size_alloc] at h
    exact h
  have gb : Below w.heap.size w ((w.alloc (.cells C 25)).alloc (.cells #[.int .u8 15, .int .i64 a, .int .i64 0, .int .i64 0, .string ⟨#[]⟩, .string ⟨#[]⟩, .slice ka keep.length kc] 35)) := ((Below.refl _ _).alloc (Nat.le_refl _) _).alloc (by simp) _
  have hkc2 : ∀ i u, keep[i]? = some u → ∃ g, ka = some ⟨g, 0, none⟩ ∧ ((w.alloc (.cells C 25)).alloc (.cells #[.int .u8 15, .int .i64 a, .int .i64 0, .int .i64 0, .string ⟨#[]⟩, .string ⟨#[]⟩, .slice ka keep.length kc] 35)).cell? ⟨g, i, none⟩ = some (.int .i64 u) := fun i u hi => by
    obtain ⟨g, hg, hc⟩ := hkc i (.int .i64 u) (by rw [List.getElem?_map, hi]; rfl)
    have hlt := World.block_lt_of_cell? _ _ hc
    exact ⟨g, hg, by rw [gb.cell (p := ⟨g, i, none⟩) hlt]; exact hc⟩
  replace hkc2 := hide hkc2
  clear hkc hks hp hv
  obtain ⟨w0, c18, c19, c20, c21, c22⟩ := mixCells hC hK
  obtain ⟨x0, x1, x2, x3, x4, x5, x6⟩ := cellA hX
  clear hK hX
  go_enter Try.func15, Try.ntmps15
  have hk1 : ¬ keep = [] := by
    intro e
    rw [e] at hk0
    simp at hk0
  have hk2 : ((keep.length : Int) == 0) = false := by
    simpa using hk1
  have hk3 : (keep.length : Int) < 5 := by omega
  go_wp2_with fail
  go_loopw [9, 10] (fun a9 a10 wr => ∃ j : Nat, j ≤ keep.length ∧ a9 = .bool true ∧ a10 = .int .i64 j ∧ wr = ((w.alloc (.cells C 25)).alloc (.cells #[.int .u8 15, .int .i64 a, .int .i64 0, .int .i64 0, .string ⟨#[]⟩, .string ⟨#[]⟩, .slice ka keep.length kc] 35))) (fun _ a10 _ => keep.length - (intOf a10).toNat)
  case atStart => exact ⟨0, by omega, rfl, rfl, rfl⟩
  case round =>
    obtain ⟨j, hj, rfl, rfl, rfl⟩ := hrel
    by_cases hjl : j < keep.length
    · obtain ⟨u, hu⟩ : ∃ u, keep[j]? = some u := ⟨_, List.getElem?_eq_getElem hjl⟩
      have hu2 := hku j u hu
      obtain ⟨g, hg, hcu⟩ := hkc2.out j u hu
      subst hg
      clear hu hku
      go_wp2_with fail
      go_roundw
      case rel => exact ⟨j + 1, by omega, rfl, by go_num, by trivial⟩
      case measure => simp [intOf]; omega
    · obtain rfl : j = keep.length := by omega
      go_wp2_with fail
      go_ret
      exact ⟨rfl, gb⟩

set_option maxRecDepth 100000 in
set_option maxHeartbeats 4000000 in
theorem within_15z (C : Array Value) (M : Mx) (hF : Fit M) (w : World) (hM : MixAt w C M) (a : Int) (ha : 0 ≤ a ∧ a ≤ M.nd - 1) (ks : Value) (base : Nat) (hks : w.ownsRow base 3 1 ks 0 []) :
    Calls Try.prog 15 #[.agg C, .agg #[.int .u8 15, .int .i64 a, .int .i64 0, .int .i64 0, .string ⟨#[]⟩, .string ⟨#[]⟩, ks]] w fun e w' => e = .returned (.bool true) ∧ Below w.heap.size w w' := by
  obtain ⟨vp, vv, hC, hp, hv⟩ := hM.ex
  obtain ⟨ka, kc, rfl, hkm, hkc⟩ := own_ints hks
  unfold maxLen at hkm
  have hnd := hF.nd
  have hpk := hF.pk
  have htk := hF.tk
  clear hF
  have hK : ((w.alloc (.cells C 25)).alloc (.cells #[.int .u8 15, .int .i64 a, .int .i64 0, .int .i64 0, .string ⟨#[]⟩, .string ⟨#[]⟩, .slice ka 0 kc] 35)).heap[w.heap.size]? = some (.cells C 25) := old_alloc new_alloc
  have hX : ((w.alloc (.cells C 25)).alloc (.cells #[.int .u8 15, .int .i64 a, .int .i64 0, .int .i64 0, .string ⟨#[]⟩, .string ⟨#[]⟩, .slice ka 0 kc] 35)).heap[w.heap.size + 1]? = some (.cells #[.int .u8 15, .int .i64 a, .int .i64 0, .int .i64 0, .string ⟨#[]⟩, .string ⟨#[]⟩, .slice ka 0 kc] 35) := by
    have h := new_alloc (w := w.alloc (.cells C 25)) (o := .cells #[.int .u8 15, .int .i64 a, .int .i64 0, .int .i64 0, .string ⟨#[]⟩, .string ⟨#[]⟩, .slice ka 0 kc] 35)
    rw [World.size_alloc] at h
    exact h
  have gb : Below w.heap.size w ((w.alloc (.cells C 25)).alloc (.cells #[.int .u8 15, .int .i64 a, .int .i64 0, .int .i64 0, .string ⟨#[]⟩, .string ⟨#[]⟩, .slice ka 0 kc] 35)) := ((Below.refl _ _).alloc (Nat.le_refl _) _).alloc (by simp) _
  clear hkc hks hp hv
  obtain ⟨w0, c18, c19, c20, c21, c22⟩ := mixCells hC hK
  obtain ⟨x0, x1, x2, x3, x4, x5, x6⟩ := cellA hX
  clear hK hX
  go_enter Try.func15, Try.ntmps15
  go_wp2_with fail
  go_loopw [9, 10] (fun a9 a10 wr => ∃ j : Nat, j ≤ 0 ∧ a9 = .bool true ∧ a10 = .int .i64 j ∧ wr = ((w.alloc (.cells C 25)).alloc (.cells #[.int .u8 15, .int .i64 a, .int .i64 0, .int .i64 0, .string ⟨#[]⟩, .string ⟨#[]⟩, .slice ka 0 kc] 35))) (fun _ a10 _ => 0 - (intOf a10).toNat)
  case atStart => exact ⟨0, by omega, rfl, rfl, rfl⟩
  case round =>
    obtain ⟨j, hj, rfl, rfl, rfl⟩ := hrel
    obtain rfl : j = 0 := by omega
    go_wp2_with fail
    go_ret
    exact ⟨rfl, gb⟩

set_option maxRecDepth 100000 in
set_option maxHeartbeats 4000000 in
theorem within_16 (C : Array Value) (M : Mx) (hF : Fit M) (w : World) (hM : MixAt w C M) (a : Int) (n : Int) (ha : 0 ≤ a ∧ a ≤ M.nd - 1) (hn : 0 < n ∧ n < 20) (ks : Value) (base : Nat) (hks : w.ownsRow base 3 1 ks 0 []) :
    Calls Try.prog 15 #[.agg C, .agg #[.int .u8 16, .int .i64 a, .int .i64 0, .int .i64 n, .string ⟨#[]⟩, .string ⟨#[]⟩, ks]] w fun e w' => e = .returned (.bool true) ∧ Below w.heap.size w w' := by
  obtain ⟨vp, vv, hC, hp, hv⟩ := hM.ex
  obtain ⟨ka, kc, rfl, hkm, hkc⟩ := own_ints hks
  unfold maxLen at hkm
  have hnd := hF.nd
  have hpk := hF.pk
  have htk := hF.tk
  clear hF
  have hK : ((w.alloc (.cells C 25)).alloc (.cells #[.int .u8 16, .int .i64 a, .int .i64 0, .int .i64 n, .string ⟨#[]⟩, .string ⟨#[]⟩, .slice ka 0 kc] 35)).heap[w.heap.size]? = some (.cells C 25) := old_alloc new_alloc
  have hX : ((w.alloc (.cells C 25)).alloc (.cells #[.int .u8 16, .int .i64 a, .int .i64 0, .int .i64 n, .string ⟨#[]⟩, .string ⟨#[]⟩, .slice ka 0 kc] 35)).heap[w.heap.size + 1]? = some (.cells #[.int .u8 16, .int .i64 a, .int .i64 0, .int .i64 n, .string ⟨#[]⟩, .string ⟨#[]⟩, .slice ka 0 kc] 35) := by
    have h := new_alloc (w := w.alloc (.cells C 25)) (o := .cells #[.int .u8 16, .int .i64 a, .int .i64 0, .int .i64 n, .string ⟨#[]⟩, .string ⟨#[]⟩, .slice ka 0 kc] 35)
    rw [World.size_alloc] at h
    exact h
  have gb : Below w.heap.size w ((w.alloc (.cells C 25)).alloc (.cells #[.int .u8 16, .int .i64 a, .int .i64 0, .int .i64 n, .string ⟨#[]⟩, .string ⟨#[]⟩, .slice ka 0 kc] 35)) := ((Below.refl _ _).alloc (Nat.le_refl _) _).alloc (by simp) _
  clear hkc hks hp hv
  obtain ⟨w0, c18, c19, c20, c21, c22⟩ := mixCells hC hK
  obtain ⟨x0, x1, x2, x3, x4, x5, x6⟩ := cellA hX
  clear hK hX
  go_enter Try.func15, Try.ntmps15
  have hn2 : (n == 0) = false := by
    have := hn.1
    simp
    omega
  go_wp2_with fail
  go_loopw [9, 10] (fun a9 a10 wr => ∃ j : Nat, j ≤ 0 ∧ a9 = .bool true ∧ a10 = .int .i64 j ∧ wr = ((w.alloc (.cells C 25)).alloc (.cells #[.int .u8 16, .int .i64 a, .int .i64 0, .int .i64 n, .string ⟨#[]⟩, .string ⟨#[]⟩, .slice ka 0 kc] 35))) (fun _ a10 _ => 0 - (intOf a10).toNat)
  case atStart => exact ⟨0, by omega, rfl, rfl, rfl⟩
  case round =>
    obtain ⟨j, hj, rfl, rfl, rfl⟩ := hrel
    obtain rfl : j = 0 := by omega
    go_wp2_with fail
    go_ret
    exact ⟨rfl, gb⟩

set_option maxRecDepth 100000 in
set_option maxHeartbeats 4000000 in
theorem within_16z (C : Array Value) (M : Mx) (hF : Fit M) (w : World) (hM : MixAt w C M) (a : Int) (ha : 0 ≤ a ∧ a ≤ M.nd - 1) (ks : Value) (base : Nat) (hks : w.ownsRow base 3 1 ks 0 []) :
    Calls Try.prog 15 #[.agg C, .agg #[.int .u8 16, .int .i64 a, .int .i64 0, .int .i64 0, .string ⟨#[]⟩, .string ⟨#[]⟩, ks]] w fun e w' => e = .returned (.bool true) ∧ Below w.heap.size w w' := by
  obtain ⟨vp, vv, hC, hp, hv⟩ := hM.ex
  obtain ⟨ka, kc, rfl, hkm, hkc⟩ := own_ints hks
  unfold maxLen at hkm
  have hnd := hF.nd
  have hpk := hF.pk
  have htk := hF.tk
  clear hF
  have hK : ((w.alloc (.cells C 25)).alloc (.cells #[.int .u8 16, .int .i64 a, .int .i64 0, .int .i64 0, .string ⟨#[]⟩, .string ⟨#[]⟩, .slice ka 0 kc] 35)).heap[w.heap.size]? = some (.cells C 25) := old_alloc new_alloc
  have hX : ((w.alloc (.cells C 25)).alloc (.cells #[.int .u8 16, .int .i64 a, .int .i64 0, .int .i64 0, .string ⟨#[]⟩, .string ⟨#[]⟩, .slice ka 0 kc] 35)).heap[w.heap.size + 1]? = some (.cells #[.int .u8 16, .int .i64 a, .int .i64 0, .int .i64 0, .string ⟨#[]⟩, .string ⟨#[]⟩, .slice ka 0 kc] 35) := by
    have h := new_alloc (w := w.alloc (.cells C 25)) (o := .cells #[.int .u8 16, .int .i64 a, .int .i64 0, .int .i64 0, .string ⟨#[]⟩, .string ⟨#[]⟩, .slice ka 0 kc] 35)
    rw [World.size_alloc] at h
    exact h
  have gb : Below w.heap.size w ((w.alloc (.cells C 25)).alloc (.cells #[.int .u8 16, .int .i64 a, .int .i64 0, .int .i64 0, .string ⟨#[]⟩, .string ⟨#[]⟩, .slice ka 0 kc] 35)) := ((Below.refl _ _).alloc (Nat.le_refl _) _).alloc (by simp) _
  clear hkc hks hp hv
  obtain ⟨w0, c18, c19, c20, c21, c22⟩ := mixCells hC hK
  obtain ⟨x0, x1, x2, x3, x4, x5, x6⟩ := cellA hX
  clear hK hX
  go_enter Try.func15, Try.ntmps15
  go_wp2_with fail
  go_loopw [9, 10] (fun a9 a10 wr => ∃ j : Nat, j ≤ 0 ∧ a9 = .bool true ∧ a10 = .int .i64 j ∧ wr = ((w.alloc (.cells C 25)).alloc (.cells #[.int .u8 16, .int .i64 a, .int .i64 0, .int .i64 0, .string ⟨#[]⟩, .string ⟨#[]⟩, .slice ka 0 kc] 35))) (fun _ a10 _ => 0 - (intOf a10).toNat)
  case atStart => exact ⟨0, by omega, rfl, rfl, rfl⟩
  case round =>
    obtain ⟨j, hj, rfl, rfl, rfl⟩ := hrel
    obtain rfl : j = 0 := by omega
    go_wp2_with fail
    go_ret
    exact ⟨rfl, gb⟩

set_option maxRecDepth 100000 in
set_option maxHeartbeats 4000000 in
theorem within_17 (C : Array Value) (M : Mx) (hF : Fit M) (w : World) (hM : MixAt w C M) (a : Int) (ha : 0 ≤ a ∧ a ≤ M.nd - 1) (ks : Value) (base : Nat) (hks : w.ownsRow base 3 1 ks 0 []) :
    Calls Try.prog 15 #[.agg C, .agg #[.int .u8 17, .int .i64 a, .int .i64 0, .int .i64 0, .string ⟨#[]⟩, .string ⟨#[]⟩, ks]] w fun e w' => e = .returned (.bool true) ∧ Below w.heap.size w w' := by
  obtain ⟨vp, vv, hC, hp, hv⟩ := hM.ex
  obtain ⟨ka, kc, rfl, hkm, hkc⟩ := own_ints hks
  unfold maxLen at hkm
  have hnd := hF.nd
  have hpk := hF.pk
  have htk := hF.tk
  clear hF
  have hK : ((w.alloc (.cells C 25)).alloc (.cells #[.int .u8 17, .int .i64 a, .int .i64 0, .int .i64 0, .string ⟨#[]⟩, .string ⟨#[]⟩, .slice ka 0 kc] 35)).heap[w.heap.size]? = some (.cells C 25) := old_alloc new_alloc
  have hX : ((w.alloc (.cells C 25)).alloc (.cells #[.int .u8 17, .int .i64 a, .int .i64 0, .int .i64 0, .string ⟨#[]⟩, .string ⟨#[]⟩, .slice ka 0 kc] 35)).heap[w.heap.size + 1]? = some (.cells #[.int .u8 17, .int .i64 a, .int .i64 0, .int .i64 0, .string ⟨#[]⟩, .string ⟨#[]⟩, .slice ka 0 kc] 35) := by
    have h := new_alloc (w := w.alloc (.cells C 25)) (o := .cells #[.int .u8 17, .int .i64 a, .int .i64 0, .int .i64 0, .string ⟨#[]⟩, .string ⟨#[]⟩, .slice ka 0 kc] 35)
    rw [World.size_alloc] at h
    exact h
  have gb : Below w.heap.size w ((w.alloc (.cells C 25)).alloc (.cells #[.int .u8 17, .int .i64 a, .int .i64 0, .int .i64 0, .string ⟨#[]⟩, .string ⟨#[]⟩, .slice ka 0 kc] 35)) := ((Below.refl _ _).alloc (Nat.le_refl _) _).alloc (by simp) _
  clear hkc hks hp hv
  obtain ⟨w0, c18, c19, c20, c21, c22⟩ := mixCells hC hK
  obtain ⟨x0, x1, x2, x3, x4, x5, x6⟩ := cellA hX
  clear hK hX
  go_enter Try.func15, Try.ntmps15
  go_wp2_with fail
  go_loopw [9, 10] (fun a9 a10 wr => ∃ j : Nat, j ≤ 0 ∧ a9 = .bool true ∧ a10 = .int .i64 j ∧ wr = ((w.alloc (.cells C 25)).alloc (.cells #[.int .u8 17, .int .i64 a, .int .i64 0, .int .i64 0, .string ⟨#[]⟩, .string ⟨#[]⟩, .slice ka 0 kc] 35))) (fun _ a10 _ => 0 - (intOf a10).toNat)
  case atStart => exact ⟨0, by omega, rfl, rfl, rfl⟩
  case round =>
    obtain ⟨j, hj, rfl, rfl, rfl⟩ := hrel
    obtain rfl : j = 0 := by omega
    go_wp2_with fail
    go_ret
    exact ⟨rfl, gb⟩

/-- within says yes of every act that is drawn. -/
theorem within_any (C : Array Value) (M : Mx) (hF : Fit M) (w : World) (hM : MixAt w C M) (x : Ac) (hx : Wn M x) (ks : Value) (base : Nat) (hks : w.ownsRow base 3 1 ks x.keep.length (x.keep.map (.int .i64 ·))) :
    Calls Try.prog 15 #[.agg C, acv x ks] w fun e w' => e = .returned (.bool true) ∧ Below w.heap.size w w' := by
  obtain ⟨k, a, n, p, v, keep⟩ := x
  obtain ⟨hk, h11, hpk, hnd, hp, hp0, hv, hv0, hk0, hkp, hn0, hn⟩ := hx
  simp only at hk h11 hpk hnd hp hp0 hv hv0 hk0 hkp hn0 hn hks
  have hc : k = 0 ∨ k = 1 ∨ k = 2 ∨ k = 3 ∨ k = 4 ∨ k = 5 ∨ k = 6 ∨ k = 7 ∨ k = 8 ∨ k = 9 ∨ k = 10 ∨ k = 11 ∨ k = 12 ∨ k = 13 ∨ k = 14 ∨ k = 15 ∨ k = 16 ∨ k = 17 := by omega
  rcases hc with rfl | rfl | rfl | rfl | rfl | rfl | rfl | rfl | rfl | rfl | rfl | rfl | rfl | rfl | rfl | rfl | rfl | rfl
  · obtain rfl := hp0 (by omega)
    obtain rfl := hv0 (by omega)
    obtain rfl := hk0 (by omega)
    obtain rfl := hn0 (by omega)
    exact within_0 C M hF w hM a (hnd (by omega) (by omega) (by omega) (by omega)) ks base hks
  · obtain rfl := hk0 (by omega)
    obtain rfl := hn0 (by omega)
    exact within_1 C M hF w hM a p v (hnd (by omega) (by omega) (by omega) (by omega)) (hp (by omega)) (hv rfl) ks base hks
  · obtain rfl := hv0 (by omega)
    obtain rfl := hk0 (by omega)
    obtain rfl := hn0 (by omega)
    exact within_2 C M hF w hM a p (hnd (by omega) (by omega) (by omega) (by omega)) (hp (by omega)) ks base hks
  · obtain rfl := hv0 (by omega)
    obtain rfl := hk0 (by omega)
    obtain rfl := hn0 (by omega)
    exact within_3 C M hF w hM a p (hnd (by omega) (by omega) (by omega) (by omega)) (hp (by omega)) ks base hks
  · obtain rfl := hv0 (by omega)
    obtain rfl := hk0 (by omega)
    obtain rfl := hn0 (by omega)
    exact within_4 C M hF w hM a p (hnd (by omega) (by omega) (by omega) (by omega)) (hp (by omega)) ks base hks
  · obtain rfl := hp0 (by omega)
    obtain rfl := hv0 (by omega)
    obtain rfl := hk0 (by omega)
    obtain rfl := hn0 (by omega)
    exact within_5 C M hF w hM a (hnd (by omega) (by omega) (by omega) (by omega)) ks base hks
  · obtain rfl := hp0 (by omega)
    obtain rfl := hv0 (by omega)
    obtain rfl := hk0 (by omega)
    obtain rfl := hn0 (by omega)
    exact within_6 C M hF w hM a (hnd (by omega) (by omega) (by omega) (by omega)) ks base hks
  · obtain rfl := hp0 (by omega)
    obtain rfl := hv0 (by omega)
    obtain rfl := hk0 (by omega)
    obtain rfl := hn0 (by omega)
    exact within_7 C M hF w hM a (hnd (by omega) (by omega) (by omega) (by omega)) ks base hks
  · obtain rfl := hp0 (by omega)
    obtain rfl := hv0 (by omega)
    obtain rfl := hk0 (by omega)
    obtain rfl := hn0 (by omega)
    exact within_8 C M hF w hM a (hnd (by omega) (by omega) (by omega) (by omega)) ks base hks
  · obtain rfl := hp0 (by omega)
    obtain rfl := hv0 (by omega)
    obtain rfl := hk0 (by omega)
    obtain rfl := hn0 (by omega)
    exact within_9 C M hF w hM a (hnd (by omega) (by omega) (by omega) (by omega)) ks base hks
  · obtain rfl := hp0 (by omega)
    obtain rfl := hv0 (by omega)
    obtain rfl := hk0 (by omega)
    obtain rfl := hn0 (by omega)
    exact within_10 C M hF w hM a (hnd (by omega) (by omega) (by omega) (by omega)) ks base hks
  · obtain rfl := hp0 (by omega)
    obtain rfl := hv0 (by omega)
    obtain rfl := hk0 (by omega)
    obtain rfl := hn0 (by omega)
    exact within_11 C M hF w hM a (h11 rfl) ks base hks
  · obtain rfl := hp0 (by omega)
    obtain rfl := hv0 (by omega)
    obtain rfl := hk0 (by omega)
    obtain rfl := hn0 (by omega)
    exact within_12 C M hF w hM a (hpk (by omega)) ks base hks
  · obtain rfl := hp0 (by omega)
    obtain rfl := hv0 (by omega)
    obtain rfl := hk0 (by omega)
    obtain rfl := hn0 (by omega)
    exact within_13 C M hF w hM a (hpk (by omega)) ks base hks
  · obtain rfl := hp0 (by omega)
    obtain rfl := hv0 (by omega)
    obtain rfl := hk0 (by omega)
    obtain rfl := hn0 (by omega)
    exact within_14 C M hF w hM a (hpk (by omega)) ks base hks
  · obtain rfl := hp0 (by omega)
    obtain rfl := hv0 (by omega)
    obtain rfl := hn0 (by omega)
    rcases keep with _ | ⟨u, keep⟩
    · exact within_15z C M hF w hM a (hnd (by omega) (by omega) (by omega) (by omega)) ks base hks
    · exact within_15 C M hF w hM a (u :: keep) (hnd (by omega) (by omega) (by omega) (by omega)) (by simp) hkp.1 hkp.2 ks base hks
  · obtain rfl := hp0 (by omega)
    obtain rfl := hv0 (by omega)
    obtain rfl := hk0 (by omega)
    by_cases hz : n = 0
    · subst hz
      exact within_16z C M hF w hM a (hnd (by omega) (by omega) (by omega) (by omega)) ks base hks
    · exact within_16 C M hF w hM a n (hnd (by omega) (by omega) (by omega) (by omega)) (by omega) ks base hks
  · obtain rfl := hp0 (by omega)
    obtain rfl := hv0 (by omega)
    obtain rfl := hk0 (by omega)
    obtain rfl := hn0 (by omega)
    exact within_17 C M hF w hM a (hnd (by omega) (by omega) (by omega) (by omega)) ks base hks

end Go.Proofs.Ytgjdkdfgfbonfaa
