/- The contract of xor. Conditions: none. -/
import Derived.Test.YtgmnigobappjbaaC1
namespace Go.Proofs.Ytgmnigobappjbaa
open Go.RowKit

def xorT (a b : ByteArray) : ByteArray := txt (min a.size b.size) fun j => xr (sF a j) (sF b j)

theorem sF_get (s : ByteArray) (k : Nat) (h : k < s.size) : sF s k = s[k] := by
  unfold sF
  have hl : k < s.data.toList.length := h
  rw [List.getD_eq_getElem?_getD, List.getElem?_eq_getElem hl]
  rfl

set_option maxRecDepth 100000 in
set_option maxHeartbeats 1600000 in
theorem xor_any (a b : ByteArray) (ha : a.size ≤ 100000) (hb : b.size ≤ 100000) (w : World) :
    Calls Try.prog 15 #[.string a, .string b] w fun e w' => e = .returned (.string (xorT a b)) ∧ Below w.heap.size w w' := by
  by_cases hab : a.size ≤ b.size
  · have hmk : (Instr.makeSlice 30 (.int .i64 (a.size : Int)) (.int .i64 (a.size : Int))).run Try.prog w = .ok (.slice (some ⟨w.heap.size, 0, none⟩) a.size a.size) (w.alloc (.cells (arr a.size fun _ => 0) 5)) := by
      rw [← made_arr]
      exact run_make_row' (P := Try.prog) 30 5 (.int .u8 0) 1 Try.underlying30 info5c rfl .i64 .i64 a.size (by omega) (by omega) w
    have g0 : (w.alloc (.cells (arr a.size fun _ => 0) 5)).heap[w.heap.size]? = some (.cells (arr a.size (upTo (fun j => xr (sF a j) (sF b j)) 0)) 5) := new_alloc
    have gb : Below w.heap.size w (w.alloc (.cells (arr a.size fun _ => 0) 5)) := (Below.refl _ _).alloc (Nat.le_refl _) _
    go_enter Try.func15, Try.ntmps15
    go_wp2_with fail
    clear hmk
    go_loopw [7] (fun a7 wr => ∃ k : Nat, k ≤ a.size ∧ a7 = .int .i64 k ∧ wr.heap[w.heap.size]? = some (.cells (arr a.size (upTo (fun j => xr (sF a j) (sF b j)) k)) 5) ∧ Below w.heap.size w wr) (fun a7 _ => a.size - (intOf a7).toNat)
    case atStart => exact ⟨0, by omega, rfl, g0, gb⟩
    case round =>
      clear g0 gb
      obtain ⟨k, hk, rfl, g0, gb⟩ := hrel
      by_cases hlt : k < a.size
      · have m1 : k < a.size := by omega
        have m2 : k < b.size := by omega
        have hx := w_xor
        have ea := hide (sF_get a k m1)
        have eb := hide (sF_get b k m2)
        go_wp2_with fail
        go_still_tail 10, mixed
        change wpList _ _ _ _ _ wr.drew
        have c0 : wr.drew.cell? ⟨w.heap.size, k, none⟩ = some (byt (upTo (fun j => xr (sF a j) (sF b j)) k k)) := (cell_of g0 _).trans (arr_at hlt)
        have f0 : wr.drew.frozen? ⟨w.heap.size, k, none⟩ = false := free_of g0 _
        clear hx
        go_wp2_with fail
        go_roundw
        case rel =>
          refine ⟨k + 1, by omega, by go_num, ?_, (gb.setCell (Nat.le_refl _) _).drew⟩
          have h := set_at (j := k) (u := byt (xr (sF a k) (sF b k))) g0
          rw [arr_set, upTo_step] at h
          rw [ea.out, eb.out] at h
          exact h
        case measure => simp [intOf]; omega
      · obtain rfl : k = a.size := by omega
        rw [upTo_end] at g0
        have hc0 : ∀ j, j < a.size → wr.cell? ⟨w.heap.size, 0 + j, none⟩ = some (byt (xr (sF a j) (sF b j))) := fun j hj => by
          rw [Nat.zero_add]
          exact (cell_of g0 _).trans (arr_at hj)
        replace hc0 := hide hc0
        go_wp2_with (with_reducible refine wpList_text rfl 30 9 5 _ rfl Try.underlying30 Try.underlying5 Try.underlying9 w.heap.size 0 a.size a.size ?_ (fun j => xr (sF a j) (sF b j)) hc0.out ?_; rotate_left)
        all_goals try exact rfl
        go_ret
        refine ⟨?_, gb⟩
        unfold xorT
        rw [show min a.size b.size = a.size from by omega]
        rfl
  · have hmk : (Instr.makeSlice 30 (.int .i64 (b.size : Int)) (.int .i64 (b.size : Int))).run Try.prog w = .ok (.slice (some ⟨w.heap.size, 0, none⟩) b.size b.size) (w.alloc (.cells (arr b.size fun _ => 0) 5)) := by
      rw [← made_arr]
      exact run_make_row' (P := Try.prog) 30 5 (.int .u8 0) 1 Try.underlying30 info5c rfl .i64 .i64 b.size (by omega) (by omega) w
    have g0 : (w.alloc (.cells (arr b.size fun _ => 0) 5)).heap[w.heap.size]? = some (.cells (arr b.size (upTo (fun j => xr (sF a j) (sF b j)) 0)) 5) := new_alloc
    have gb : Below w.heap.size w (w.alloc (.cells (arr b.size fun _ => 0) 5)) := (Below.refl _ _).alloc (Nat.le_refl _) _
    go_enter Try.func15, Try.ntmps15
    go_wp2_with fail
    clear hmk
    go_loopw [7] (fun a7 wr => ∃ k : Nat, k ≤ b.size ∧ a7 = .int .i64 k ∧ wr.heap[w.heap.size]? = some (.cells (arr b.size (upTo (fun j => xr (sF a j) (sF b j)) k)) 5) ∧ Below w.heap.size w wr) (fun a7 _ => b.size - (intOf a7).toNat)
    case atStart => exact ⟨0, by omega, rfl, g0, gb⟩
    case round =>
      clear g0 gb
      obtain ⟨k, hk, rfl, g0, gb⟩ := hrel
      by_cases hlt : k < b.size
      · have m1 : k < a.size := by omega
        have m2 : k < b.size := by omega
        have hx := w_xor
        have ea := hide (sF_get a k m1)
        have eb := hide (sF_get b k m2)
        go_wp2_with fail
        go_still_tail 10, mixed
        change wpList _ _ _ _ _ wr.drew
        have c0 : wr.drew.cell? ⟨w.heap.size, k, none⟩ = some (byt (upTo (fun j => xr (sF a j) (sF b j)) k k)) := (cell_of g0 _).trans (arr_at hlt)
        have f0 : wr.drew.frozen? ⟨w.heap.size, k, none⟩ = false := free_of g0 _
        clear hx
        go_wp2_with fail
        go_roundw
        case rel =>
          refine ⟨k + 1, by omega, by go_num, ?_, (gb.setCell (Nat.le_refl _) _).drew⟩
          have h := set_at (j := k) (u := byt (xr (sF a k) (sF b k))) g0
          rw [arr_set, upTo_step] at h
          rw [ea.out, eb.out] at h
          exact h
        case measure => simp [intOf]; omega
      · obtain rfl : k = b.size := by omega
        rw [upTo_end] at g0
        have hc0 : ∀ j, j < b.size → wr.cell? ⟨w.heap.size, 0 + j, none⟩ = some (byt (xr (sF a j) (sF b j))) := fun j hj => by
          rw [Nat.zero_add]
          exact (cell_of g0 _).trans (arr_at hj)
        replace hc0 := hide hc0
        go_wp2_with (with_reducible refine wpList_text rfl 30 9 5 _ rfl Try.underlying30 Try.underlying5 Try.underlying9 w.heap.size 0 b.size b.size ?_ (fun j => xr (sF a j) (sF b j)) hc0.out ?_; rotate_left)
        all_goals try exact rfl
        go_ret
        refine ⟨?_, gb⟩
        unfold xorT
        rw [show min a.size b.size = b.size from by omega]
        rfl

end Go.Proofs.Ytgmnigobappjbaa
