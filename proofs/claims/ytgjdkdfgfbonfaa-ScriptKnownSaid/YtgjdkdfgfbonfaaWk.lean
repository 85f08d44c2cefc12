/- The contract of wakes. Conditions: none. -/
import Derived.Test.YtgjdkdfgfbonfaaN6
import Derived.Test.YtgjdkdfgfbonfaaN8
import Derived.Test.YtgjdkdfgfbonfaaN9
namespace Go.Proofs.Ytgjdkdfgfbonfaa
open Go.RowKit

theorem ActsIs.slice {w : World} {base n : Nat} {v : Value} {A : Nat → Ac} (h : ActsIs w base v n A) : ∃ a c, v = .slice a n c := by
  obtain ⟨KS, ⟨h1, h2⟩, _⟩ := h
  rcases h2 with ⟨rfl, hx⟩ | ⟨g, cap, cur, rfl, _⟩
  · have := rowOf_length A KS n
    rw [hx] at this
    simp at this
    obtain rfl : n = 0 := by omega
    exact ⟨_, _, rfl⟩
  · exact ⟨_, _, rfl⟩

theorem plain_right : rightB plainM = true := by decide +kernel
theorem plain_cnt : cntN plainM 20 = 20 := by decide +kernel
theorem plain_kind : kindN plainM 0 = 1 := by decide +kernel
theorem plain_end : stN plainM 7 20 = 7 ↔ False := by
  rw [iff_false]
  decide +kernel

set_option maxRecDepth 100000 in
set_option maxHeartbeats 1600000 in
theorem wakes_any (w : World) : Calls Try.prog 12 #[] w fun e w' => e = .returned (.bool true) ∧ Below w.heap.size w w' := by
  have e1 : dr 1 10 = 4 := by decide +kernel
  have e2 : nx 1 = 7806831264735756412 := by decide +kernel
  have e3 : nxi 0 1 = 1442695040888963407 := by decide +kernel
  have e4 := plain_right
  have e5 := plain_cnt
  have e6 := plain_kind
  have e7 : (stN plainM 7 20 == 7) = false := by decide +kernel
  have e8 : (stN plainM 7 20 != 7) = true := by decide +kernel
  have g0 : (w.alloc (.cells #[.int .u64 1] 30)).heap[w.heap.size]? = some (src 1) := new_alloc
  go_enter Try.func12, Try.ntmps12
  go_wp2_with fail
  refine (tell_any _ _ _ _ _ (by omega) (by omega) (cells1 g0).1 (cells1 g0).2).mono ?_
  rintro e w1 ⟨rfl, rfl⟩
  have g1 : ((w.alloc (.cells #[.int .u64 1] 30)).setCell ⟨w.heap.size, 0, none⟩ (.int .u64 (nx 1))).heap[w.heap.size]? = some (src (nx 1)) := by simpa using set_at (j := 0) (u := .int .u64 (nx 1)) g0
  have gb : Below w.heap.size w ((w.alloc (.cells #[.int .u64 1] 30)).setCell ⟨w.heap.size, 0, none⟩ (.int .u64 (nx 1))) := ((Below.refl _ _).alloc (Nat.le_refl _) _).setCell (Nat.le_refl _) _
  generalize ((w.alloc (.cells #[.int .u64 1] 30)).setCell ⟨w.heap.size, 0, none⟩ (.int .u64 (nx 1))) = W at g1 gb ⊢
  clear g0
  rw [e2] at g1
  go_wp2_with fail
  refine (plain_any _).mono ?_
  rintro e w2 ⟨C, rfl, hM, hb2⟩
  replace g1 := kept hb2 g1
  replace gb := below_of hb2 gb
  clear hb2
  go_wp2_with fail
  refine (acts_any C plainM 7 20 _ hM).mono ?_
  rintro e w3 ⟨v, rfl, hA, hb3⟩
  replace g1 := kept hb3 g1
  replace gb := below_of hb3 gb
  clear hb3
  rw [e5] at hA ⊢
  obtain ⟨a, c, rfl⟩ := hA.slice
  obtain ⟨c0, f0⟩ := cells1 g1
  clear hA hM e5
  go_wp2_with fail
  refine (ahead_any 0 1 (by omega) (by omega) (by omega) _).mono ?_
  rintro e w4 ⟨rfl, hb4⟩
  replace gb := below_of hb4 gb
  clear hb4 c0 f0 g1
  go_wp2_with fail
  refine (plain_any _).mono ?_
  rintro e w5 ⟨C1, rfl, hM1, hb5⟩
  replace gb := below_of hb5 gb
  clear hb5
  go_wp2_with fail
  refine (kind_any C1 plainM 0 (by omega) _ hM1).mono ?_
  rintro e w6 ⟨rfl, hb6⟩
  replace gb := below_of hb6 gb
  clear hb6 hM1
  rw [e6]
  go_wp2_with fail
  refine (plain_any _).mono ?_
  rintro e w7 ⟨C2, rfl, hM2, hb7⟩
  replace gb := below_of hb7 gb
  clear hb7
  go_wp2_with fail
  refine (right_any C2 plainM _ hM2).mono ?_
  rintro e w8 ⟨rfl, hb8⟩
  replace gb := below_of hb8 gb
  clear hb8 hM2
  rw [e4]
  go_wp2_with fail
  go_ret
  exact ⟨rfl, gb⟩

end Go.Proofs.Ytgjdkdfgfbonfaa
