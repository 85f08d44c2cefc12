/- ScriptAhead: Ahead of two numbers, one behind the other, is Ahead of both together; the source comes back behind 2^64 Nexts. Conditions: none. -/
import Derived.Test.YtgjdkdfgfbonfaaWk
import Derived.Test.YtgjdkdfgfbonfaaDraw
namespace Go.Proofs.Ytgjdkdfgfbonfaa
open Go.RowKit

theorem u64_add (J K : Nat) : IntKind.u64.wrap ((J : Int) + (K : Int)) = (((J + K) % 18446744073709551616 : Nat) : Int) := by rw [IntKind.wrap_u64]; omega
theorem u64_neg (K : Nat) (h : K < 18446744073709551616) : IntKind.u64.wrap (-(K : Int)) = (((18446744073709551616 - K) % 18446744073709551616 : Nat) : Int) := by rw [IntKind.wrap_u64]; omega
theorem nxi_back (s : Int) (h0 : 0 ≤ s) (h1 : s < 18446744073709551616) (K : Nat) (h : K < 18446744073709551616) : nxi (nxi s K) ((18446744073709551616 - K) % 18446744073709551616) = s := by
  have hr := nxi_range s h0 h1 K
  rw [nxi_mod _ hr.1 hr.2, nxi_add, show K + (18446744073709551616 - K) = 18446744073709551616 from by omega, nxi_round s h0 h1]

set_option maxRecDepth 100000 in
set_option maxHeartbeats 1600000 in
theorem law9_any (s : Int) (J K n : Nat) (h0 : 0 ≤ s) (h1 : s < 18446744073709551616) (hJ : J < 18446744073709551616) (hK : K < 18446744073709551616) (hn : n < 65536) (w : World) :
    Calls Try.prog 9 #[.int .u64 s, .int .u64 J, .int .u64 K, .int .u16 n] w fun e w' => e = .returned (.bool true) ∧ Below w.heap.size w w' := by
  have hJr := nxi_range s h0 h1 J
  have hKr := nxi_range s h0 h1 K
  have hMr := nxi_range s h0 h1 18446744073709551615
  go_enter Try.func9, Try.ntmps9
  go_wp2_with fail
  refine (ahead_any s J h0 h1 hJ _).mono ?_
  rintro e w1 ⟨rfl, hb1⟩
  go_wp2_with fail
  refine (ahead_any _ K hJr.1 hJr.2 hK _).mono ?_
  rintro e w2 ⟨rfl, hb2⟩
  have gb := below_of hb2 hb1
  clear hb1 hb2
  rw [nxi_add]
  go_wp2_with fail
  rw [u64_add]
  refine (ahead_any s _ h0 h1 (Nat.mod_lt _ (by decide)) _).mono ?_
  rintro e w3 ⟨rfl, hb3⟩
  replace gb := below_of hb3 gb
  clear hb3
  rw [nxi_mod s h0 h1]
  go_wp2_with fail
  refine (ahead_any s K h0 h1 hK _).mono ?_
  rintro e w4 ⟨rfl, hb4⟩
  replace gb := below_of hb4 gb
  clear hb4
  go_wp2_with fail
  rw [u64_neg K hK]
  refine (ahead_any _ _ hKr.1 hKr.2 (Nat.mod_lt _ (by decide)) _).mono ?_
  rintro e w5 ⟨rfl, hb5⟩
  replace gb := below_of hb5 gb
  clear hb5
  rw [nxi_back s h0 h1 K hK]
  go_wp2_with fail
  refine (ahead_any s 18446744073709551615 h0 h1 (by decide) _).mono ?_
  rintro e w6 ⟨rfl, hb6⟩
  replace gb := below_of hb6 gb
  clear hb6
  go_wp2_with fail
  refine (ahead_any _ 1 hMr.1 hMr.2 (by decide) _).mono ?_
  rintro e w7 ⟨rfl, hb7⟩
  replace gb := below_of hb7 gb
  clear hb7
  rw [nxi_add, nxi_round s h0 h1]
  have g0 : (w7.alloc (.cells #[.int .u64 s] 30)).heap[w7.heap.size]? = some (src (nxi s 0)) := new_alloc
  have gsz := gb.size
  replace gb := gb.alloc gb.size (.cells #[.int .u64 s] 30)
  go_wp2_with fail
  go_loopw [12] (fun a12 wr => ∃ i : Nat, i ≤ n % 1000 ∧ a12 = .int .u64 i ∧ wr.heap[w7.heap.size]? = some (src (nxi s i)) ∧ Below w.heap.size w wr) (fun a12 _ => n % 1000 - (intOf a12).toNat)
  case atStart => exact ⟨0, by omega, rfl, g0, gb⟩
  case round =>
    clear g0 gb
    obtain ⟨i, hi, rfl, g0, gb⟩ := hrel
    by_cases hlt : i < n % 1000
    · obtain ⟨c0, f0⟩ := cells1 g0
      go_wp2_with fail
      refine (next_any _ _ _ _ c0 f0).mono ?_
      rintro e w8 ⟨rfl, rfl⟩
      have g1 : (wr.setCell ⟨w7.heap.size, 0, none⟩ (.int .u64 (nx (nxi s i)))).heap[w7.heap.size]? = some (src (nx (nxi s i))) := by simpa using set_at (j := 0) (u := .int .u64 (nx (nxi s i))) g0
      go_wp2_with fail
      go_roundw
      case rel => exact ⟨i + 1, by omega, by go_num, g1, gb.setCell gsz _⟩
      case measure => simp [intOf]; omega
    · obtain rfl : i = n % 1000 := by omega
      go_wp2_with fail
      refine Draw.wp_region_pure mixed 9 8 (by kernel_rfl) [.int .u64 s, .int .u64 ((n : Int) % 1000), .int .u64 (nxi s (n % 1000)), .int .u64 (nxi s (n % 1000)), .bool true, .bool true, .bool true, .bool true, .bool true] _ rfl ?_ ?_
      · simp only [Draw.puts, List.take_succ_cons, List.take_zero, if_true, Act.put, List.setIfInBounds_toArray, List.set_cons_zero, List.set_cons_succ, Nat.zero_add, Nat.reduceAdd, List.getD_cons_zero, List.getD_cons_succ]
        refine ⟨?_, ?_, ?_, ?_, ?_, ?_, ?_, ?_, ?_, trivial⟩
        all_goals refine fun w1 hb1 => .inl ⟨rfl, fun K hk => ?_⟩
        all_goals have hg1 := kept hb1 g0
        all_goals obtain ⟨c0, f0⟩ := cells1 hg1
        · go_simp
          exact hk w1 (Below.refl _ _)
        · go_simp
          exact hk w1 (Below.refl _ _)
        · go_simp
          refine (ahead_any s (n % 1000) h0 h1 (by omega) _).mono ?_
          rintro e w2 ⟨rfl, hb2⟩
          exact hk w2 hb2
        · go_simp
          exact hk w1 (Below.refl _ _)
        · go_simp
          exact hk w1 (Below.refl _ _)
        · go_simp
          exact hk w1 (Below.refl _ _)
        · go_simp
          refine (wakes_any _).mono ?_
          rintro e w2 ⟨rfl, hb2⟩
          exact hk w2 hb2
        · go_simp
          exact hk w1 (Below.refl _ _)
        · go_simp
          exact hk w1 (Below.refl _ _)
      · simp only [Draw.puts, List.take_succ_cons, List.take_zero, List.drop_succ_cons, List.drop_nil, if_true, Act.put, List.setIfInBounds_toArray, List.set_cons_zero, List.set_cons_succ, Nat.zero_add, Nat.reduceAdd, List.getD_cons_zero, List.getD_cons_succ]
        intro w1 hb1
        have hbl := below_of hb1 gb
        clear hb1 gb g0
        go_wp2_with fail
        go_ret
        exact ⟨rfl, hbl⟩

end Go.Proofs.Ytgjdkdfgfbonfaa
