/- The contract of the document's all. Conditions: none. -/
import Derived.Test.YtgmnigobappjbaaR1
import Derived.Test.YtgmnigobappjbaaB8
namespace Go.Proofs.Ytgmnigobappjbaa
open Go.RowKit

/-- n bytes, as values. -/
def bl (n : Nat) (f : Nat → UInt8) : List Value := (List.range n).map fun j => byt (f j)
theorem bl_succ (n : Nat) (f : Nat → UInt8) : bl (n + 1) f = bl n f ++ [byt (f n)] := by simp [bl, List.range_succ]
theorem bl_len (n : Nat) (f : Nat → UInt8) : (bl n f).length = n := by simp [bl]
theorem bl_at {n j : Nat} {f : Nat → UInt8} (h : j < n) : (bl n f)[j]? = some (byt (f j)) := by simp [bl, h]

/-- Bytes in a block, from its head on. -/
structure BytesAt (w : World) (g n : Nat) (f : Nat → UInt8) : Prop where
  ex : ∃ cur, w.heap[g]? = some (.cells cur 5) ∧ n ≤ cur.size ∧ ∀ j, j < n → cur[j]? = some (byt (f j))
theorem BytesAt.cell {w : World} {g n : Nat} {f : Nat → UInt8} (h : BytesAt w g n f) {j : Nat} (hj : j < n) : w.cell? ⟨g, j, none⟩ = some (byt (f j)) := by
  obtain ⟨cur, hg, _, hc⟩ := h.ex
  exact (cell_of hg j).trans (hc j hj)
theorem BytesAt.free {w : World} {g n : Nat} {f : Nat → UInt8} (h : BytesAt w g n f) (j : Nat) : w.frozen? ⟨g, j, none⟩ = false := by
  obtain ⟨cur, hg, _, _⟩ := h.ex
  exact free_of hg j
theorem BytesAt.lt {w : World} {g n : Nat} {f : Nat → UInt8} (h : BytesAt w g n f) : g < w.heap.size := by
  obtain ⟨cur, hg, _, _⟩ := h.ex
  exact lt_of_heap hg
theorem BytesAt.same {w w' : World} {g n : Nat} {f : Nat → UInt8} (h : BytesAt w g n f) (hb : w'.heap[g]? = w.heap[g]?) : BytesAt w' g n f := by
  obtain ⟨cur, hg, hn, hc⟩ := h.ex
  exact ⟨cur, hb.trans hg, hn, hc⟩
theorem BytesAt.below {w w' : World} {g n : Nat} {f : Nat → UInt8} (h : BytesAt w g n f) (hb : Below w.heap.size w w') : BytesAt w' g n f := h.same (hb.block g h.lt)
theorem BytesAt.set {w : World} {g n i : Nat} {f : Nat → UInt8} (h : BytesAt w g n f) (v : UInt8) : BytesAt (w.setCell ⟨g, i, none⟩ (byt v)) g n (upd8 f i v) := by
  obtain ⟨cur, hg, hn, hc⟩ := h.ex
  refine ⟨cur.setIfInBounds i (byt v), set_at hg, by simpa using hn, fun j hj => ?_⟩
  rw [Array.getElem?_setIfInBounds]
  unfold upd8
  by_cases e : i = j
  · subst e
    rw [if_pos rfl, if_pos (by omega), if_pos rfl]
  · rw [if_neg e, if_neg (Ne.symm e)]
    exact hc j hj
theorem BytesAt.ext {w : World} {g n : Nat} {f f' : Nat → UInt8} (h : BytesAt w g n f) (hf : ∀ j, j < n → f j = f' j) : BytesAt w g n f' := by
  obtain ⟨cur, hg, hn, hc⟩ := h.ex
  exact ⟨cur, hg, hn, fun j hj => by rw [← hf j hj]; exact hc j hj⟩
theorem own_bytes {w : World} {base n : Nat} {v : Value} {f : Nat → UInt8} (h : w.ownsRow base 5 1 v n (bl n f)) (hn : 0 < n) : ∃ g cap, v = .slice (some ⟨g, 0, none⟩) n cap ∧ base ≤ g ∧ n ≤ cap ∧ BytesAt w g n f := by
  obtain ⟨h1, ⟨_, h0⟩ | ⟨g, cap, cur, rfl, hg, hh, h3, h4, h5, h6⟩⟩ := h
  · omega
  · refine ⟨g, cap, rfl, hg, h3, cur, hh, by omega, fun j hj => ?_⟩
    have h7 : (cur.toList.take (n * 1))[j]? = (bl n f)[j]? := by rw [h6]
    rw [List.getElem?_take, if_pos (by omega), Array.getElem?_toList, bl_at hj] at h7
    exact h7

set_option maxRecDepth 100000 in
set_option maxHeartbeats 1600000 in
theorem all_any (w : World) : Calls Try.prog 19 #[] w fun e w' => ∃ g cap, e = .returned (.slice (some ⟨g, 0, none⟩) 256 cap) ∧ w.heap.size ≤ g ∧ BytesAt w' g 256 sN ∧ Below w.heap.size w w' := by
  go_enter Try.func19, Try.ntmps19
  go_wp2_with fail
  go_loopw [1, 2] (fun a1 a2 wr => ∃ k : Nat, k ≤ 256 ∧ a2 = .int .i64 k ∧ wr.ownsRow w.heap.size 5 1 a1 k (bl k sN) ∧ Below w.heap.size w wr) (fun _ a2 _ => 256 - (intOf a2).toNat)
  case atStart => exact ⟨0, by omega, rfl, World.ownsRow_nil _ _ _ _, Below.refl _ _⟩
  case round =>
    obtain ⟨k, hk, rfl, ho, hb⟩ := hrel
    by_cases hlt : k < 256
    · have hv : Value.int .u8 (k : Int) = byt (by8 k) := congrArg (Value.int .u8) (w_nat hlt)
      have hsx : sx (by8 k) = sN k := by rw [sx, by8_toNat hlt]
      replace hv := hide hv
      have hsz := hb.size
      obtain ⟨i0, hi, hz0, hz1, hz2⟩ := info5'
      go_wp2_with fail
      rw [hv.out]
      refine (S_any _ _).mono ?_
      rintro e w1 ⟨rfl, rfl⟩
      rw [hsx]
      clear hsx hv
      have hnw := new_alloc (w := wr) (o := .cells #[byt (sN k)] 5)
      have hA := ho.alloc (.cells #[byt (sN k)] 5)
      have hA2 := hb.alloc hsz (.cells #[byt (sN k)] 5)
      go_wp2_with (at_builtin; refine wpList_append_own _ rfl _ _ 30 rfl w.heap.size 5 i0 _ 1 1 Try.underlying30 hi hz0 hz1 hz2 rfl (by decide) _ _ _ rfl hA ⟨wr.heap.size, 0, none⟩ 1 1 [byt (sN k)] rfl rfl ?c1 ?c2 ?c3 ?c4 ?c5 ?_)
      case c1 =>
        intro j u hj
        have hadd : (⟨wr.heap.size, 0, none⟩ : Addr).add j = ⟨wr.heap.size, j, none⟩ := by unfold Addr.add; split <;> simp_all
        rw [hadd, cell_of hnw j]
        simpa using hj
      case c2 =>
        intro u hu
        simp at hu
        subst hu
        rfl
      case c3 => unfold maxLen; omega
      case c4 => omega
      case c5 => exact hA2.size
      intro v' W3 hrow hgr _
      have hb3 := hA2.grown hgr hA2.size (fun j hj => (hA.lt j hj).1)
      rw [← bl_succ] at hrow
      clear hnw hA hA2 hgr ho hb
      go_wp2_with fail
      go_roundw
      case rel => exact ⟨k + 1, by omega, by go_num, hrow, hb3⟩
      case measure => simp [intOf]; omega
    · obtain rfl : k = 256 := by omega
      obtain ⟨g, cap, rfl, hg, _, hB⟩ := own_bytes ho (by omega)
      clear ho
      go_wp2_with fail
      go_ret
      exact ⟨g, cap, rfl, hg, hB, hb⟩

end Go.Proofs.Ytgmnigobappjbaa
