/- The contract of Ahead. Conditions: none. -/
import Derived.Test.YtgjdkdfgfbonfaaN1
import Derived.Test.YtgjdkdfgfbonfaaAh
namespace Go.Proofs.Ytgjdkdfgfbonfaa
open Go.RowKit

theorem size71 : (Try.prog.info? 71).map (·.size) = some 2 := by kernel_rfl

set_option maxRecDepth 100000 in
set_option maxHeartbeats 1600000 in
theorem ahead_any (s : Int) (K : Nat) (h0 : 0 ≤ s) (h1 : s < 18446744073709551616) (hK : K < 18446744073709551616) (w : World) :
    Calls Try.prog 19 #[.int .u64 s, .int .u64 K] w fun e w' => e = .returned (.int .u64 (nxi s K)) ∧ Below w.heap.size w w' := by
  go_enter Try.func19, Try.ntmps19
  go_wp2_with fail
  go_loopw [1] (fun a1 wr => ∃ (k : Nat) (t m t' m' : Int), k ≤ K ∧ a1 = .int .u64 k ∧ wr.heap[w.heap.size]? = some (.cells #[.int .u64 t, .int .u64 m] 71) ∧ wr.heap[w.heap.size + 1]? = some (.cells #[.int .u64 t', .int .u64 m'] 71) ∧ Leads t m t' m' k K ∧ Below w.heap.size w wr) (fun a1 _ => (intOf a1).toNat)
  case atStart =>
    refine ⟨K, 1, 0, 6364136223846793005, 1442695040888963407, by omega, rfl, old_alloc new_alloc, ?_, fun s => rfl, ((Below.refl _ _).alloc (Nat.le_refl _) _).alloc (by simp) _⟩
    have h := new_alloc (w := w.alloc (.cells #[.int .u64 1, .int .u64 0] 71)) (o := .cells #[.int .u64 6364136223846793005, .int .u64 1442695040888963407] 71)
    rw [World.size_alloc] at h
    exact h
  case round =>
    obtain ⟨k, t, m, t', m', hk, rfl, K1, K2, hL, KB⟩ := hrel
    obtain ⟨c0, c1, _, _⟩ := cells2 K1
    obtain ⟨d0, d1, _, _⟩ := cells2 K2
    by_cases hlt : 0 < k
    · by_cases hodd : k % 2 = 1
      · have hodd' : (k : Int) % 2 = 1 := by omega
        go_wp2_with fail
        refine (then_any _ _ _ _ _).mono ?_
        rintro e w1 ⟨rfl, hb1⟩
        have j1 := kept hb1 K1
        have j2 := kept hb1 K2
        have jb := below_of hb1 KB
        clear hb1 K1 K2 KB c0 c1 d0 d1
        obtain ⟨c0, c1, f0, f1⟩ := cells2 j1
        have K1 := set_at (j := 1) (u := .int .u64 (IntKind.u64.wrap (IntKind.u64.wrap (m * t') + m'))) (set_at (j := 0) (u := .int .u64 (IntKind.u64.wrap (t * t'))) j1)
        have K2 := set_ne (j := 1) (u := .int .u64 (IntKind.u64.wrap (IntKind.u64.wrap (m * t') + m'))) (show w.heap.size + 1 ≠ w.heap.size by omega) (set_ne (j := 0) (u := .int .u64 (IntKind.u64.wrap (t * t'))) (show w.heap.size + 1 ≠ w.heap.size by omega) j2)
        have KB := (jb.setCell (Nat.le_refl _) (p := ⟨w.heap.size, 0, none⟩) (.int .u64 (IntKind.u64.wrap (t * t')))).setCell (Nat.le_refl _) (p := ⟨w.heap.size, 1, none⟩) (.int .u64 (IntKind.u64.wrap (IntKind.u64.wrap (m * t') + m')))
        simp at K1
        obtain ⟨d0, d1, _, _⟩ := cells2 K2
        clear j1 j2 jb
        go_wp2_with fail
        refine (then_any _ _ _ _ _).mono ?_
        rintro e w2 ⟨rfl, hb2⟩
        have j1 := kept hb2 K1
        have j2 := kept hb2 K2
        have jb := below_of hb2 KB
        clear hb2
        obtain ⟨d0, d1, f0, f1⟩ := cells2 j2
        have i2 := set_at (j := 1) (u := .int .u64 (IntKind.u64.wrap (IntKind.u64.wrap (m' * t') + m'))) (set_at (j := 0) (u := .int .u64 (IntKind.u64.wrap (t' * t'))) j2)
        have i1 := set_ne (j := 1) (u := .int .u64 (IntKind.u64.wrap (IntKind.u64.wrap (m' * t') + m'))) (show w.heap.size ≠ w.heap.size + 1 by omega) (set_ne (j := 0) (u := .int .u64 (IntKind.u64.wrap (t' * t'))) (show w.heap.size ≠ w.heap.size + 1 by omega) j1)
        have ib := (jb.setCell (show w.heap.size ≤ w.heap.size + 1 by omega) (p := ⟨w.heap.size + 1, 0, none⟩) (.int .u64 (IntKind.u64.wrap (t' * t')))).setCell (show w.heap.size ≤ w.heap.size + 1 by omega) (p := ⟨w.heap.size + 1, 1, none⟩) (.int .u64 (IntKind.u64.wrap (IntKind.u64.wrap (m' * t') + m')))
        simp at i2
        clear K1 K2 KB
        go_wp2_with fail
        go_roundw
        case rel => exact ⟨k / 2, IntKind.u64.wrap (t * t'), IntKind.u64.wrap (IntKind.u64.wrap (m * t') + m'), IntKind.u64.wrap (t' * t'), IntKind.u64.wrap (IntKind.u64.wrap (m' * t') + m'), by omega, by go_num, i1, i2, leads_odd hL hodd, ib⟩
        case measure => simp [intOf]; omega
  
      · have hodd' : (k : Int) % 2 = 0 := by omega
        go_wp2_with fail
        refine (then_any _ _ _ _ _).mono ?_
        rintro e w2 ⟨rfl, hb2⟩
        have j1 := kept hb2 K1
        have j2 := kept hb2 K2
        have jb := below_of hb2 KB
        clear hb2
        obtain ⟨d0, d1, f0, f1⟩ := cells2 j2
        have i2 := set_at (j := 1) (u := .int .u64 (IntKind.u64.wrap (IntKind.u64.wrap (m' * t') + m'))) (set_at (j := 0) (u := .int .u64 (IntKind.u64.wrap (t' * t'))) j2)
        have i1 := set_ne (j := 1) (u := .int .u64 (IntKind.u64.wrap (IntKind.u64.wrap (m' * t') + m'))) (show w.heap.size ≠ w.heap.size + 1 by omega) (set_ne (j := 0) (u := .int .u64 (IntKind.u64.wrap (t' * t'))) (show w.heap.size ≠ w.heap.size + 1 by omega) j1)
        have ib := (jb.setCell (show w.heap.size ≤ w.heap.size + 1 by omega) (p := ⟨w.heap.size + 1, 0, none⟩) (.int .u64 (IntKind.u64.wrap (t' * t')))).setCell (show w.heap.size ≤ w.heap.size + 1 by omega) (p := ⟨w.heap.size + 1, 1, none⟩) (.int .u64 (IntKind.u64.wrap (IntKind.u64.wrap (m' * t') + m')))
        simp at i2
        clear K1 K2 KB
        go_wp2_with fail
        go_roundw
        case rel => exact ⟨k / 2, t, m, IntKind.u64.wrap (t' * t'), IntKind.u64.wrap (IntKind.u64.wrap (m' * t') + m'), by omega, by go_num, i1, i2, leads_even hL (by omega), ib⟩
        case measure => simp [intOf]; omega
  
    · obtain rfl : k = 0 := by omega
      go_wp2_with fail
      go_ret
      exact ⟨ret_int (leads_end hL h0 h1), KB⟩

end Go.Proofs.Ytgjdkdfgfbonfaa
