/- The contract of same, of two acts that are alike. Conditions: none. -/
import Derived.Test.YtgjdkdfgfbonfaaN6
namespace Go.Proofs.Ytgjdkdfgfbonfaa
open Go.RowKit

theorem keep_open {w : World} {base : Nat} {v : Value} {l : List Int} (h : KeepIs w base v l) : ∃ a c, v = .slice a l.length c ∧ l.length ≤ maxLen ∧ (0 < l.length → ∃ g, a = some ⟨g, 0, none⟩ ∧ g < w.heap.size ∧ ∀ i z, l[i]? = some z → w.cell? ⟨g, i, none⟩ = some (.int .i64 z)) := by
  obtain ⟨h1, ⟨hv, h0⟩ | ⟨g, cap, cur, rfl, hg, hh, h3, h4, h5, h6⟩⟩ := h
  · rw [hv, h0]
    exact ⟨none, 0, rfl, by unfold maxLen; omega, fun hp => by omega⟩
  · refine ⟨_, cap, rfl, by omega, fun _ => ⟨g, rfl, lt_of_heap hh, fun i z hi => ?_⟩⟩
    have hlt := (List.getElem?_eq_some_iff.1 hi).1
    have h7 : (cur.toList.take (l.length * 1))[i]? = (l.map (.int .i64 ·))[i]? := by rw [h6]
    rw [List.getElem?_take, if_pos (by omega), Array.getElem?_toList, List.getElem?_map, hi] at h7
    exact (cell_of hh i).trans h7
theorem cellsAc {w : World} {b : Nat} {x : Ac} {ks : Value} {t : TypeId} (h : w.heap[b]? = some (.cells #[.int .u8 x.k, .int .i64 x.a, .int .i64 0, .int .i64 x.n, .string x.p, .string x.v, ks] t)) :
    w.cell? ⟨b, 0, none⟩ = some (.int .u8 x.k) ∧ w.cell? ⟨b, 1, none⟩ = some (.int .i64 x.a) ∧ w.cell? ⟨b, 2, none⟩ = some (.int .i64 0) ∧ w.cell? ⟨b, 3, none⟩ = some (.int .i64 x.n) ∧ w.cell? ⟨b, 4, none⟩ = some (.string x.p) ∧ w.cell? ⟨b, 5, none⟩ = some (.string x.v) ∧ w.cell? ⟨b, 6, none⟩ = some ks := by
  simp [World.cell?, h]

set_option maxRecDepth 100000 in
set_option maxHeartbeats 4000000 in
theorem same_any (x : Ac) (ks ks' : Value) (b b' : Nat) (w : World) (hk : KeepIs w b ks x.keep) (hk' : KeepIs w b' ks' x.keep) :
    Calls Try.prog 26 #[acv x ks, acv x ks'] w fun e w' => e = .returned (.bool true) ∧ Below w.heap.size w w' := by
  obtain ⟨a, c, rfl, hm, hcl⟩ := keep_open hk
  obtain ⟨a', c', rfl, _, hcl'⟩ := keep_open hk'
  unfold maxLen at hm
  clear hk hk'
  have hopen : ∃ g g', 0 < x.keep.length → a = some ⟨g, 0, none⟩ ∧ a' = some ⟨g', 0, none⟩ ∧ g < w.heap.size ∧ g' < w.heap.size ∧ ∀ i z, x.keep[i]? = some z → w.cell? ⟨g, i, none⟩ = some (.int .i64 z) ∧ w.cell? ⟨g', i, none⟩ = some (.int .i64 z) := by
    rcases Nat.eq_zero_or_pos x.keep.length with h0 | hpos
    · exact ⟨0, 0, fun h => by omega⟩
    · obtain ⟨g, hg, hl, hc⟩ := hcl hpos
      obtain ⟨g', hg', hl', hc'⟩ := hcl' hpos
      exact ⟨g, g', fun _ => ⟨hg, hg', hl, hl', fun i z hi => ⟨hc i z hi, hc' i z hi⟩⟩⟩
  obtain ⟨g, g', hopen⟩ := hopen
  clear hcl hcl'
  unfold acv
  have h1 := old_alloc (o' := .cells #[.int .u8 x.k, .int .i64 x.a, .int .i64 0, .int .i64 x.n, .string x.p, .string x.v, .slice a' x.keep.length c'] 35) (new_alloc (w := w) (o := .cells #[.int .u8 x.k, .int .i64 x.a, .int .i64 0, .int .i64 x.n, .string x.p, .string x.v, .slice a x.keep.length c] 35))
  have h2 := new_alloc (w := w.alloc (.cells #[.int .u8 x.k, .int .i64 x.a, .int .i64 0, .int .i64 x.n, .string x.p, .string x.v, .slice a x.keep.length c] 35)) (o := .cells #[.int .u8 x.k, .int .i64 x.a, .int .i64 0, .int .i64 x.n, .string x.p, .string x.v, .slice a' x.keep.length c'] 35)
  rw [World.size_alloc] at h2
  have gb : Below w.heap.size w ((w.alloc (.cells #[.int .u8 x.k, .int .i64 x.a, .int .i64 0, .int .i64 x.n, .string x.p, .string x.v, .slice a x.keep.length c] 35)).alloc (.cells #[.int .u8 x.k, .int .i64 x.a, .int .i64 0, .int .i64 x.n, .string x.p, .string x.v, .slice a' x.keep.length c'] 35)) := ((Below.refl _ _).alloc (Nat.le_refl _) _).alloc (by simp) _
  obtain ⟨p0, p1, p2, p3, p4, p5, p6⟩ := cellsAc h1
  obtain ⟨q0, q1, q2, q3, q4, q5, q6⟩ := cellsAc h2
  go_enter Try.func26, Try.ntmps26
  go_wp2_with fail
  generalize ((w.alloc (.cells #[.int .u8 x.k, .int .i64 x.a, .int .i64 0, .int .i64 x.n, .string x.p, .string x.v, .slice a x.keep.length c] 35)).alloc (.cells #[.int .u8 x.k, .int .i64 x.a, .int .i64 0, .int .i64 x.n, .string x.p, .string x.v, .slice a' x.keep.length c'] 35)) = W0 at h1 h2 gb ⊢
  clear p0 p1 p2 p3 p4 p5 p6 q0 q1 q2 q3 q4 q5 q6
  go_loopw [5] (fun a5 wr => ∃ i : Nat, i ≤ x.keep.length ∧ a5 = .int .i64 i ∧ Below W0.heap.size W0 wr) (fun a5 _ => x.keep.length - (intOf a5).toNat)
  case atStart => exact ⟨0, by omega, rfl, Below.refl _ _⟩
  case round =>
    obtain ⟨i, hi, rfl, hb⟩ := hrel
    obtain ⟨p0, p1, p2, p3, p4, p5, p6⟩ := cellsAc (kept hb h1)
    obtain ⟨q0, q1, q2, q3, q4, q5, q6⟩ := cellsAc (kept hb h2)
    by_cases hlt : i < x.keep.length
    · obtain ⟨rfl, rfl, hgl, hgl', hc⟩ := hopen (by omega)
      obtain ⟨z, hz⟩ : ∃ z, x.keep[i]? = some z := ⟨_, List.getElem?_eq_getElem hlt⟩
      have hb2 := below_of hb gb
      have hc1 := hc i z hz
      have r0 : wr.cell? ⟨g, i, none⟩ = some (.int .i64 z) := (hb2.cell hgl).trans hc1.1
      have r1 : wr.cell? ⟨g', i, none⟩ = some (.int .i64 z) := (hb2.cell hgl').trans hc1.2
      have hi' : (i : Int) < (x.keep.length : Int) := by omega
      clear hc1 hc hz hopen
      go_wp2_with fail
      go_quiet (fail)
      go_wp2_with fail
      go_roundw
      case rel => exact ⟨i + 1, by omega, by go_num, hb.trans ⟨rfl, rfl, rfl, Nat.le_refl _, fun _ _ => rfl⟩⟩
      case measure => simp [intOf]; omega
    · obtain rfl : i = x.keep.length := by omega
      go_wp2_with fail
      go_ret
      exact ⟨rfl, below_of hb gb⟩

end Go.Proofs.Ytgjdkdfgfbonfaa
