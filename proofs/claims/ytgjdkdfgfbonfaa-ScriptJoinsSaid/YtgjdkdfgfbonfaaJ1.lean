/- What becomes of acts whose keeps are written over; acts drawn in two goes. Conditions: none. -/
import Derived.Test.YtgjdkdfgfbonfaaSa
import Derived.Test.YtgjdkdfgfbonfaaAr
namespace Go.Proofs.Ytgjdkdfgfbonfaa
open Go.RowKit

theorem stN_add (M : Mx) (s : Int) (a : Nat) : ∀ b, stN M (stN M s a) b = stN M s (a + b)
  | 0 => rfl
  | b + 1 => by
    show actNext M (stN M (stN M s a) b) = actNext M (stN M s (a + b))
    rw [stN_add M s a b]
theorem acN_add (M : Mx) (s : Int) (a j : Nat) : acN M (stN M s a) j = acN M s (a + j) := by
  unfold acN
  rw [stN_add]

theorem own_from {w w' : World} {base : Nat} {e : TypeId} {size n : Nat} {v : Value} {xs : List Value} (h : w.ownsRow base e size v n xs) (hm : ∀ k, base ≤ k → k < w.heap.size → w'.heap[k]? = w.heap[k]?) : w'.ownsRow base e size v n xs :=
  own_keep h fun b _ hk hh => hm b (h.lt b hk).1 (lt_of_heap hh)
theorem ActsIs.from_ {w w' : World} {base n : Nat} {v : Value} {A : Nat → Ac} (h : ActsIs w base v n A) (hm : ∀ k, base ≤ k → k < w.heap.size → w'.heap[k]? = w.heap[k]?) : ActsIs w' base v n A := by
  obtain ⟨KS, h1, h2⟩ := h
  exact ⟨KS, own_from h1 hm, fun i hi => own_from (h2 i hi) hm⟩

/-- The world in which the keeps of some acts are written over. -/
structure Mut (w2 w4 : World) (hi g : Nat) (cur : Array Value) (KS : Nat → Value) (n : Nat) (L : Nat → Nat) (w : World) : Prop where
  lo : Below w2.heap.size w2 w
  mid : ∀ k, hi ≤ k → k < w4.heap.size → w.heap[k]? = w4.heap[k]?
  sz : w4.heap.size ≤ w.heap.size
  row : 0 < n → w.heap[g]? = some (.cells cur 35)
  ks : ∀ i, i < n → cur[i * 7 + 6]? = some (KS i)
  each : ∀ i, i < n → ∃ a c, KS i = .slice a (L i) c ∧ L i ≤ maxLen ∧ (0 < L i → ∃ h cc, a = some ⟨h, 0, none⟩ ∧ w2.heap.size ≤ h ∧ h < hi ∧ w.heap[h]? = some (.cells cc 3) ∧ ∀ j, j < L i → ∃ z, cc[j]? = some (.int .i64 z))

theorem Mut.drew {w2 w4 : World} {hi g n : Nat} {cur : Array Value} {KS : Nat → Value} {L : Nat → Nat} {w : World} (h : Mut w2 w4 hi g cur KS n L w) : Mut w2 w4 hi g cur KS n L w.drew :=
  ⟨h.lo.drew, h.mid, h.sz, h.row, h.ks, h.each⟩
theorem Mut.store {w2 w4 : World} {hi g n : Nat} {cur : Array Value} {KS : Nat → Value} {L : Nat → Nat} {w : World} (h : Mut w2 w4 hi g cur KS n L w) {b : Nat} {cb : Array Value} (hl : w2.heap.size ≤ b) (hh : b < hi) (hb : w.heap[b]? = some (.cells cb 3)) (j : Nat) (z : Int) : Mut w2 w4 hi g cur KS n L (w.setCell ⟨b, j, none⟩ (.int .i64 z)) := by
  refine ⟨h.lo.setCell hl _, fun k hk hk4 => (Below.heap_setCell w _ _ k (by show k ≠ b; omega)).trans (h.mid k hk hk4), by simpa using h.sz, fun hn => ?_, h.ks, fun i hin => ?_⟩
  · have hg := h.row hn
    have hne : g ≠ b := by
      rintro rfl
      rw [hb] at hg
      simp at hg
    exact set_ne hne hg
  · obtain ⟨a, c, e, hm, hx⟩ := h.each i hin
    refine ⟨a, c, e, hm, fun hp => ?_⟩
    obtain ⟨b', cc, ha, hl', hh', hb', hz⟩ := hx hp
    by_cases hbb : b' = b
    · subst hbb
      rw [hb] at hb'
      obtain rfl : cb = cc := by simpa using hb'
      refine ⟨b', cb.setIfInBounds j (.int .i64 z), ha, hl', hh', set_at hb, fun j' hj' => ?_⟩
      obtain ⟨z', hz'⟩ := hz j' hj'
      have hlt := (Array.getElem?_eq_some_iff.1 hz').1
      rw [Array.getElem?_setIfInBounds]
      by_cases hjj : j = j'
      · subst hjj
        rw [if_pos rfl, if_pos hlt]
        exact ⟨z, rfl⟩
      · rw [if_neg hjj]
        exact ⟨z', hz'⟩
    · exact ⟨b', cc, ha, hl', hh', set_ne hbb hb', hz⟩
theorem mut_start {w2 w3 w4 : World} {v : Value} {n : Nat} {A : Nat → Ac} (hA : ActsIs w3 w2.heap.size v n A) (hb3 : Below w2.heap.size w2 w3) (hb4 : Below w3.heap.size w3 w4) :
    ∃ va vc g cur KS, v = .slice va n vc ∧ (0 < n → va = some ⟨g, 0, none⟩) ∧ Mut w2 w4 w3.heap.size g cur KS n (fun i => (A i).keep.length) w4 := by
  have hlo : Below w2.heap.size w2 w4 := below_of hb4 hb3
  rcases Nat.eq_zero_or_pos n with h0 | hpos
  · subst h0
    obtain ⟨va, vc, rfl⟩ := hA.slice
    exact ⟨va, vc, 0, #[], fun _ => undef, rfl, fun h => by omega, hlo, fun _ _ _ => rfl, Nat.le_refl _, fun h => by omega, fun i hi => by omega, fun i hi => by omega⟩
  · obtain ⟨g, cap, cur, KS, rfl, hR⟩ := hA.row hpos
    refine ⟨_, cap, g, cur, KS, rfl, fun _ => rfl, hlo, fun _ _ _ => rfl, Nat.le_refl _, fun _ => kept hb4 hR.hg, fun i hi => hR.at_ i 6 hi (by omega), fun i hi => ?_⟩
    obtain ⟨h1, ⟨hv, h0⟩ | ⟨b, cp, cc, hv, hg, hh, h3, h4, h5, h6⟩⟩ := hR.keep i hi
    · refine ⟨none, 0, by rw [hv]; simp only [h0], by simp only [h0]; unfold maxLen; omega, fun hp => by simp only [h0] at hp; omega⟩
    · refine ⟨_, cp, hv, by omega, fun hp => ⟨b, cc, rfl, hg, lt_of_heap hh, kept hb4 hh, fun j hj => ?_⟩⟩
      have h7 : (cc.toList.take ((A i).keep.length * 1))[j]? = ((A i).keep.map (.int .i64 ·))[j]? := by rw [h6]
      rw [List.getElem?_take, if_pos (by omega), Array.getElem?_toList, List.getElem?_map, List.getElem?_eq_getElem hj] at h7
      exact ⟨_, h7⟩

/-- An act's cells, read as a whole. -/
theorem wpList_load_act {ops : Array Oper} {rest : List Oper} {o : Oper} {a : Act} {w : World} {Q : Exit → Act → World → Prop} {base g n i : Nat} {cur : Array Value} {KS : Nat → Value} {A : Nat → Ac} (hgd : o.guard = none) (x : Operand) (ho : o.op = .load 35 x)
    (hx : a.eval x = .pointer (some ⟨g, i * 7, none⟩)) (hR : ActsRow w base g cur KS n A) (hi : i < n)
    (h : wpList Try.prog ops Q rest (a.put o.dst (acv (A i) (KS i))) w) : wpList Try.prog ops Q (o :: rest) a w := by
  have hszi : i * 7 + 7 ≤ cur.size := by
    have h := hR.sz
    have := Nat.mul_le_mul_right 7 (show i + 1 ≤ n by omega)
    omega
  refine wpList_load_part hgd 35 x ho g (i * 7) 7 hx 35 cur (0, 0) _ hR.hg Try.underlying35 rfl size35 hszi ?_
  rw [hR.part hi, acv_cells]
  exact h

end Go.Proofs.Ytgjdkdfgfbonfaa
