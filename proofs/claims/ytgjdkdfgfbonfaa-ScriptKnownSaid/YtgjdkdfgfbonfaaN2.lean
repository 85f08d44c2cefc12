/- The contracts of count, sum, texts and Right. Conditions: none. -/
import Derived.Test.YtgjdkdfgfbonfaaN1
import Derived.Test.YtgjdkdfgfbonfaaMx
import Derived.Test.YtgjdkdfgfbonfaaRun
namespace Go.Proofs.Ytgjdkdfgfbonfaa
open Go.RowKit

theorem count_any (n : Int) (w : World) : Calls Try.prog 31 #[.int .i64 n] w fun e w' => e = .returned (.bool (countB n)) ∧ w = w' := by
  go_enter Try.func31, Try.ntmps31
  go_wp2
  all_goals go_ret
  all_goals refine ⟨ret_bool ?_, rfl⟩
  all_goals unfold countB
  all_goals grind

theorem long_any (s : ByteArray) (w : World) : Calls Try.prog 40 #[.string s] w fun e w' => e = .returned (.bool (decide (80 < s.size))) ∧ w = w' := by
  go_enter Try.func40, Try.ntmps40
  go_wp2
  all_goals go_ret
  all_goals refine ⟨ret_bool ?_, rfl⟩
  all_goals first | grind | (simp; omega)

theorem ext18 {C : Array Value} {M : Mx} {vp vv : Value} (hC : IsC C M vp vv) {k : Nat} (hk : k < 18) : (C.extract 0 18)[k]? = some (.int .i64 (M.W k)) := by
  rw [Array.getElem?_extract, if_pos (by have := hC.size; omega), Nat.zero_add]
  exact hC.w k hk

theorem size22 : (Try.prog.info? 22).map (·.size) = some 18 := by kernel_rfl

theorem index22 {C : Array Value} {M : Mx} {vp vv : Value} (hC : IsC C M vp vv) {k : Nat} (hk : k < 18) (w : World) : (Instr.index 22 (.agg (C.extract 0 18)) (.int .i64 (k : Int))).run Try.prog w = .ok (.int .i64 (M.W k)) w :=
  index_row Try.underlying22 (by kernel_rfl) Try.underlying3 rfl hk (ext18 hC hk) w

set_option maxHeartbeats 400000 in
theorem sum_any (C : Array Value) (M : Mx) (vp vv : Value) (hC : IsC C M vp vv) (hok : okW M.W = true) (w : World) : Calls Try.prog 30 #[.agg C] w fun e w' => e = .returned (.int .i64 (sumW M.W 18)) ∧ Below w.heap.size w w' := by
  have hsz := hC.size
  have hW := (okW_iff _).1 hok
  go_enter Try.func30, Try.ntmps30
  have h18 : 0 + 18 ≤ C.size := by omega
  clear hsz
  have hnew : (w.alloc (.cells C 25)).heap[w.heap.size]? = some (.cells C 25) := new_alloc
  go_wp2_with (with_reducible refine wpList_load_part rfl 22 _ rfl w.heap.size 0 18 ?_ 25 C (0, 0) _ hnew Try.underlying22 rfl size22 h18 ?_; rotate_left)
  rotate_left
  · exact rfl
  go_loopw [3, 8] (fun n i wr => ∃ k : Nat, k ≤ 18 ∧ i = .int .i64 k ∧ n = .int .i64 (sumW M.W k) ∧ wr = w.alloc (.cells C 25)) (fun _ i _ => 18 - (intOf i).toNat)
  case atStart => exact ⟨0, by omega, rfl, rfl, rfl⟩
  case round =>
    obtain ⟨k, hk, rfl, rfl, rfl⟩ := hrel
    by_cases hlt : k < 18
    · have ix := index22 hC hlt
      have hr := sumW_range hW k hk
      have hr1 := hW k hlt
      go_wp2_with fail
      go_roundw
      case rel => exact ⟨k + 1, by omega, by go_num, by go_num, by trivial⟩
      case measure => simp [intOf]; omega
    · obtain rfl : k = 18 := by omega
      go_wp2_with fail
      go_ret
      exact ⟨rfl, (Below.refl _ _).alloc (Nat.le_refl _) _⟩

/-- The first text that is too long: where it lies, or -1. -/
def firstLong (l : List ByteArray) : Int := match l.findIdx? fun (s : ByteArray) => decide (80 < s.size) with | some i => i | none => -1

theorem first_none {l : List ByteArray} (h : ∀ (j : Nat) (s : ByteArray), l[j]? = some s → ¬ 80 < s.size) : firstLong l = -1 := by
  unfold firstLong
  have : l.findIdx? (fun (s : ByteArray) => decide (80 < s.size)) = none := by
    rw [List.findIdx?_eq_none_iff]
    intro s hs
    obtain ⟨j, hj⟩ := List.mem_iff_getElem?.1 hs
    simpa using h j s hj
  rw [this]
theorem first_some {l : List ByteArray} {k : Nat} {s : ByteArray} (h : ∀ (j : Nat) (s : ByteArray), j < k → l[j]? = some s → ¬ 80 < s.size) (hk : l[k]? = some s) (hs : 80 < s.size) : firstLong l = k := by
  unfold firstLong
  have : l.findIdx? (fun (s : ByteArray) => decide (80 < s.size)) = some k := by
    rw [List.findIdx?_eq_some_iff_getElem]
    obtain ⟨hlt, he⟩ := List.getElem?_eq_some_iff.1 hk
    refine ⟨hlt, by rw [he]; simpa using hs, fun j hj => ?_⟩
    simpa using h j _ hj (List.getElem?_eq_getElem (by omega))
  rw [this]


set_option maxHeartbeats 400000 in
theorem idx_any (v : Value) (l : List ByteArray) (w : World) (hl : TextsAt w v l) : Calls Try.prog 41 #[v, .func (.func 40) #[] #[]] w fun e w' => e = .returned (.int .i64 (firstLong l)) ∧ w = w' := by
  obtain ⟨a, cap, rfl, hm, hv⟩ := hl
  unfold maxLen at hm
  have hv' : ∃ b off, 0 < l.length → a = some ⟨b, off, none⟩ ∧ ∀ i s, l[i]? = some s → w.cell? ⟨b, off + i, none⟩ = some (.string s) := by
    rcases hv with rfl | ⟨b, off, rfl, hb, hc⟩
    · exact ⟨0, 0, fun h => by simp at h⟩
    · exact ⟨b, off, fun _ => ⟨rfl, hc⟩⟩
  obtain ⟨b, off, hat⟩ := hv'
  clear hv
  go_enter Try.func41, Try.ntmps41
  go_wp2_with fail
  go_loopw [8] (fun i wr => ∃ k : Nat, k ≤ l.length ∧ i = .int .i64 k ∧ (∀ (j : Nat) (s : ByteArray), j < k → l[j]? = some s → ¬ 80 < s.size) ∧ wr = w) (fun i _ => l.length - (intOf i).toNat)
  case atStart => exact ⟨0, by omega, rfl, fun j s hj => by omega, rfl⟩
  case round =>
    obtain ⟨k, hk, rfl, hno, rfl⟩ := hrel
    by_cases hlt : k < l.length
    · obtain ⟨ha, hc⟩ := hat (by omega)
      subst ha
      obtain ⟨s, hs⟩ : ∃ s, l[k]? = some s := ⟨_, List.getElem?_eq_getElem hlt⟩
      have c0 := hc k s hs
      clear hc hat
      go_wp2_with fail
      refine (long_any _ _).mono ?_
      rintro e w1 ⟨rfl, rfl⟩
      by_cases hb : 80 < s.size
      · rw [decide_eq_true hb]
        go_wp2_with fail
        go_ret
        exact ⟨ret_int (first_some hno hs hb).symm, rfl⟩
      · rw [decide_eq_false hb]
        go_wp2_with fail
        go_roundw
        case rel =>
          refine ⟨k + 1, by omega, by go_num, fun j s' hj hs' => ?_, by trivial⟩
          rcases Nat.lt_succ_iff_lt_or_eq.1 hj with hj | rfl
          · exact hno j s' hj hs'
          · rw [hs] at hs'
            cases hs'
            exact hb
        case measure => simp [intOf]; omega
    · obtain rfl : k = l.length := by omega
      go_wp2_with fail
      go_ret
      refine ⟨ret_int (first_none fun j s hs => hno j s ?_ hs).symm, rfl⟩
      exact (List.getElem?_eq_some_iff.1 hs).1

theorem first_ge (l : List ByteArray) : decide (0 ≤ firstLong l) = longB l := by
  unfold firstLong longB
  cases h : l.findIdx? fun (s : ByteArray) => decide (80 < s.size) with
  | none =>
    rw [List.findIdx?_eq_none_iff] at h
    symm
    simp only [Int.reduceNeg, Int.reduceLE, decide_false, List.any_eq_false]
    intro s hs
    simpa using h s hs
  | some i =>
    rw [List.findIdx?_eq_some_iff_getElem] at h
    obtain ⟨hlt, he, _⟩ := h
    symm
    simp only [Int.natCast_nonneg, decide_true, List.any_eq_true]
    exact ⟨_, List.getElem_mem hlt, he⟩

theorem contains_any (v : Value) (l : List ByteArray) (w : World) (hl : TextsAt w v l) : Calls Try.prog 39 #[v, .func (.func 40) #[] #[]] w fun e w' => e = .returned (.bool (longB l)) ∧ w = w' := by
  go_enter Try.func39, Try.ntmps39
  go_wp2_with fail
  refine (idx_any v l _ hl).mono ?_
  rintro e w1 ⟨rfl, rfl⟩
  go_wp2_with fail
  go_ret
  exact ⟨ret_bool (first_ge l), rfl⟩

theorem texts_any (v : Value) (l : List ByteArray) (w : World) (hl : TextsAt w v l) : Calls Try.prog 32 #[v] w fun e w' => e = .returned (.bool (textsB l)) ∧ w = w' := by
  obtain ⟨a, cap, rfl, hm, hv⟩ := id hl
  unfold maxLen at hm
  clear hv
  go_enter Try.func32, Try.ntmps32
  go_wp2_with fail
  · refine (contains_any _ l _ hl).mono ?_
    rintro e w1 ⟨rfl, rfl⟩
    rcases hb : longB l with _ | _
    all_goals go_wp2_with fail
    all_goals go_ret
    all_goals refine ⟨ret_bool ?_, rfl⟩
    all_goals unfold textsB
    all_goals rw [hb]
    all_goals grind
  all_goals go_ret
  all_goals refine ⟨ret_bool ?_, rfl⟩
  all_goals unfold textsB
  all_goals grind

end Go.Proofs.Ytgjdkdfgfbonfaa
