/- The contracts of the document's texts, Right, Sum and Kind. Conditions: none. -/
import Derived.Test.YtgjdkdfgfbonfaaN4
namespace Go.Proofs.Ytgjdkdfgfbonfaa
open Go.RowKit

theorem texts_few {l : List ByteArray} (h : l.length < 1) : false = textsB l := by
  unfold textsB
  rw [decide_eq_false (by omega)]
  rfl
theorem texts_many {l : List ByteArray} (h : 50 < l.length) : false = textsB l := by
  unfold textsB
  rw [decide_eq_false (p := l.length ≤ 50) (by omega)]
  simp
theorem texts_long {l : List ByteArray} {k : Nat} {s : ByteArray} (hk : l[k]? = some s) (hs : 80 < s.size) : false = textsB l := by
  have : longB l = true := by
    unfold longB
    rw [List.any_eq_true]
    exact ⟨s, List.mem_of_getElem? hk, by simpa using hs⟩
  unfold textsB
  rw [this]
  simp
theorem texts_good {l : List ByteArray} (h1 : ¬ l.length < 1) (h2 : ¬ 50 < l.length) (h : ∀ (j : Nat) (s : ByteArray), l[j]? = some s → ¬ 80 < s.size) : true = textsB l := by
  have : longB l = false := by
    unfold longB
    rw [List.any_eq_false]
    intro s hs
    obtain ⟨j, hj⟩ := List.mem_iff_getElem?.1 hs
    simpa using h j s hj
  unfold textsB
  rw [this, decide_eq_true (by omega), decide_eq_true (by omega)]
  rfl

set_option maxHeartbeats 800000 in
theorem refTexts_any (v : Value) (l : List ByteArray) (w : World) (hl : TextsAt w v l) : Calls Try.prog 36 #[v] w fun e w' => e = .returned (.bool (textsB l)) ∧ w = w' := by
  obtain ⟨a, cap, rfl, hm, hv⟩ := hl
  unfold maxLen at hm
  have hv' : ∃ b off, 0 < l.length → a = some ⟨b, off, none⟩ ∧ ∀ i s, l[i]? = some s → w.cell? ⟨b, off + i, none⟩ = some (.string s) := by
    rcases hv with rfl | ⟨b, off, rfl, hb, hc⟩
    · exact ⟨0, 0, fun h => by simp at h⟩
    · exact ⟨b, off, fun _ => ⟨rfl, hc⟩⟩
  obtain ⟨b, off, hat⟩ := hv'
  clear hv
  by_cases h1 : l.length < 1
  · have h1' : (l.length : Int) < 1 := by omega
    go_enter Try.func36, Try.ntmps36
    go_wp2_with fail
    go_ret
    exact ⟨ret_bool (texts_few h1), rfl⟩
  have h1' : 1 ≤ (l.length : Int) := by omega
  by_cases h2 : 50 < l.length
  · have h2' : 50 < (l.length : Int) := by omega
    go_enter Try.func36, Try.ntmps36
    go_wp2_with fail
    go_ret
    exact ⟨ret_bool (texts_many h2), rfl⟩
  have h2' : (l.length : Int) ≤ 50 := by omega
  go_enter Try.func36, Try.ntmps36
  go_wp2_with fail
  go_loopw [3] (fun i wr => ∃ k : Nat, k ≤ l.length ∧ i = .int .i64 k ∧ (∀ (j : Nat) (s : ByteArray), j < k → l[j]? = some s → ¬ 80 < s.size) ∧ wr = w) (fun i _ => l.length - (intOf i).toNat)
  case atStart => exact ⟨0, by omega, rfl, fun j s hj => by omega, rfl⟩
  case round =>
    obtain ⟨k, hk, rfl, hno, rfl⟩ := hrel
    by_cases hlt : k < l.length
    · obtain ⟨ha, hc⟩ := hat (by omega)
      subst ha
      obtain ⟨s, hs⟩ : ∃ s, l[k]? = some s := ⟨_, List.getElem?_eq_getElem hlt⟩
      have c0 := hc k s hs
      clear hc hat
      by_cases hb : 80 < s.size
      · go_wp2_with fail
        go_ret
        exact ⟨ret_bool (texts_long hs hb), rfl⟩
      · go_wp2_with fail
        go_roundw
        case rel =>
          refine ⟨k + 1, by omega, by go_num, fun j s' hj hs' => ?_, by trivial⟩
          rcases Nat.lt_succ_iff_lt_or_eq.1 hj with hj | rfl
          · exact hno j s' hj hs'
          · rw [hs] at hs'
            cases hs'
            exact hb
        case measure => simp [intOf]; omega
    · obtain rfl : k = l.length := by omega
      go_wp2_with fail
      go_ret
      refine ⟨ret_bool (texts_good h1 h2 fun j s hs => hno j s ?_ hs), rfl⟩
      exact (List.getElem?_eq_some_iff.1 hs).1

/-- Is one of the first weights above 0? -/
def anyW (W : Nat → Int) : Nat → Bool
  | 0 => false
  | k + 1 => anyW W k || decide (0 < W k)
theorem any_sum {W : Nat → Int} (h : ∀ k, k < 18 → 0 ≤ W k ∧ W k ≤ 1000) : ∀ k, k ≤ 18 → (anyW W k = true ↔ 0 < sumW W k)
  | 0, _ => by simp [anyW, sumW]
  | k + 1, hk => by
    have h1 := sumW_range h k (by omega)
    have h2 := h k (by omega)
    have ih := any_sum h k (by omega)
    simp only [anyW, sumW, Bool.or_eq_true, decide_eq_true_eq, ih]
    omega

theorem mixCells51 {w : World} {b : Nat} {C : Array Value} {M : Mx} {vp vv : Value} {t : TypeId} (hC : IsC C M vp vv) (h : w.heap[b]? = some (.cells C t)) :
    w.cell? ⟨b, 0, none⟩ = some (.int .i64 (M.W 0)) ∧ w.cell? ⟨b, 18, none⟩ = some (.int .i64 M.nd) ∧ w.cell? ⟨b, 19, none⟩ = some (.int .i64 M.pk) ∧ w.cell? ⟨b, 20, none⟩ = some (.int .i64 M.tk) ∧ w.cell? ⟨b, 21, none⟩ = some vp ∧ w.cell? ⟨b, 22, none⟩ = some vv :=
  ⟨(cell_of h 0).trans (hC.w 0 (by omega)), (cell_of h 18).trans hC.nd, (cell_of h 19).trans hC.pk, (cell_of h 20).trans hC.tk, (cell_of h 21).trans hC.p, (cell_of h 22).trans hC.v⟩

theorem count_low {n : Int} (h : n < 1) : countB n = false := by unfold countB; rw [decide_eq_false (by omega)]; rfl
theorem count_high {n : Int} (h : 1000 < n) : countB n = false := by unfold countB; rw [decide_eq_false (p := n ≤ 1000) (by omega)]; simp
theorem count_good {n : Int} (h : ¬ n < 1) (h' : ¬ 1000 < n) : countB n = true := by unfold countB; rw [decide_eq_true (by omega), decide_eq_true (by omega)]; rfl

set_option maxHeartbeats 1600000 in
theorem refRight_any (C : Array Value) (M : Mx) (w : World) (hM : MixAt w C M) : Calls Try.prog 23 #[.agg C] w fun e w' => e = .returned (.bool (rightB M)) ∧ Below w.heap.size w w' := by
  obtain ⟨vp, vv, hC, hp, hv⟩ := hM.ex
  have hnew : (w.alloc (.cells C 51)).heap[w.heap.size]? = some (.cells C 51) := new_alloc
  have hbl : Below w.heap.size w (w.alloc (.cells C 51)) := (Below.refl _ _).alloc (Nat.le_refl _) _
  go_enter Try.func23, Try.ntmps23
  go_wp2_with fail
  go_loopw [3, 4] (fun a3 a4 wr => ∃ k : Nat, k ≤ 18 ∧ a4 = .int .i64 k ∧ a3 = .bool (anyW M.W k) ∧ (∀ j, j < k → 0 ≤ M.W j ∧ M.W j ≤ 1000) ∧ wr = w.alloc (.cells C 51)) (fun _ a4 _ => 18 - (intOf a4).toNat)
  case atStart => exact ⟨0, by omega, rfl, rfl, fun j hj => by omega, rfl⟩
  case round =>
    obtain ⟨k, hk, rfl, rfl, hok, rfl⟩ := hrel
    by_cases hlt : k < 18
    · have c0 : (w.alloc (.cells C 51)).cell? ⟨w.heap.size, k, none⟩ = some (.int .i64 (M.W k)) := (cell_of hnew k).trans (hC.w k hlt)
      by_cases hlow : M.W k < 0
      · go_wp2_with fail
        go_ret
        exact ⟨ret_bool (right_bad hlt (by omega)).symm, hbl⟩
      by_cases hhi : 1000 < M.W k
      · go_wp2_with fail
        go_ret
        exact ⟨ret_bool (right_bad hlt (by omega)).symm, hbl⟩
      have hstep : ∀ j, j < k + 1 → 0 ≤ M.W j ∧ M.W j ≤ 1000 := fun j hj => by
        rcases Nat.lt_succ_iff_lt_or_eq.1 hj with hj | rfl
        · exact hok j hj
        · omega
      replace hstep := hide hstep
      have ha : anyW M.W (k + 1) = (anyW M.W k || decide (0 < M.W k)) := rfl
      replace ha := hide ha
      rcases hs : anyW M.W k with _ | _
      · rw [hs] at ha
        by_cases hpos : 0 < M.W k
        · go_wp2_with fail
          go_roundw
          case rel => exact ⟨k + 1, by omega, by go_num, by rw [ha.out, decide_eq_true hpos]; rfl, hstep.out, by trivial⟩
          case measure => simp [intOf]; omega
        · go_wp2_with fail
          go_roundw
          case rel => exact ⟨k + 1, by omega, by go_num, by rw [ha.out, decide_eq_false hpos]; rfl, hstep.out, by trivial⟩
          case measure => simp [intOf]; omega
      · rw [hs] at ha
        go_wp2_with fail
        go_roundw
        case rel => exact ⟨k + 1, by omega, by go_num, by rw [ha.out]; rfl, hstep.out, by trivial⟩
        case measure => simp [intOf]; omega
    · obtain rfl : k = 18 := by omega
      have hokW : okW M.W = true := (okW_iff _).2 hok
      have hsum := any_sum hok 18 (by omega)
      have h0k := (hok 0 (by omega)).1
      obtain ⟨c0, c18, c19, c20, c21, c22⟩ := mixCells51 hC hnew
      have hp1 := hp.below hbl
      have hv1 := hv.below hbl
      clear hok
      rcases hs : anyW M.W 18 with _ | _
      · rw [hs] at hsum
        go_wp2_with fail
        go_ret
        exact ⟨ret_bool (by rw [rightB, decide_eq_false (fun h => by simpa using hsum.2 h)]; simp), hbl⟩
      have hsp := hsum.1 hs
      clear hsum
      by_cases h0 : 0 < M.W 0
      · go_wp2_with fail
        go_ret
        exact ⟨ret_bool (by rw [rightB, show (M.W 0 == 0) = false from by rw [beq_eq_false_iff_ne]; omega]; simp), hbl⟩
      have h00 : (M.W 0 == 0) = true := by rw [beq_iff_eq]; omega
      by_cases n1 : M.nd < 1
      · clear h00
        go_wp2_with fail
        go_ret
        exact ⟨ret_bool (by simp [rightB, count_low n1]), hbl⟩
      by_cases n2 : 1000 < M.nd
      · clear h00
        go_wp2_with fail
        go_ret
        exact ⟨ret_bool (by simp [rightB, count_high n2]), hbl⟩
      by_cases p1 : M.pk < 1
      · clear h00
        go_wp2_with fail
        go_ret
        exact ⟨ret_bool (by simp [rightB, count_low p1]), hbl⟩
      by_cases p2 : 1000 < M.pk
      · clear h00
        go_wp2_with fail
        go_ret
        exact ⟨ret_bool (by simp [rightB, count_high p2]), hbl⟩
      by_cases t1 : M.tk < 1
      · clear h00
        go_wp2_with fail
        go_ret
        exact ⟨ret_bool (by simp [rightB, count_low t1]), hbl⟩
      by_cases t2 : 1000 < M.tk
      · clear h00
        go_wp2_with fail
        go_ret
        exact ⟨ret_bool (by simp [rightB, count_high t2]), hbl⟩
      have hrt : rightB M = (textsB M.P && textsB M.V) := by
        rw [rightB, hokW, h00, decide_eq_true hsp, count_good n1 n2, count_good p1 p2, count_good t1 t2]
        simp
      replace hrt := hide hrt
      clear h00 hokW hsp
      go_wp2_with fail
      refine (refTexts_any _ _ _ hp1).mono ?_
      rintro e u5 ⟨rfl, rfl⟩
      rcases h5 : textsB M.P with _ | _
      · go_wp2_with fail
        go_ret
        exact ⟨ret_bool (by rw [hrt.out, h5]; rfl), hbl⟩
      go_wp2_with fail
      refine (refTexts_any _ _ _ hv1).mono ?_
      rintro e u6 ⟨rfl, rfl⟩
      go_wp2_with fail
      go_ret
      exact ⟨ret_bool (by rw [hrt.out, h5]; rfl), hbl⟩

end Go.Proofs.Ytgjdkdfgfbonfaa
