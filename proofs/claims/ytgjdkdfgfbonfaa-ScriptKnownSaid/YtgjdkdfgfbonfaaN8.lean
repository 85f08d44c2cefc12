/- The contract of plain. Conditions: none. -/
import Derived.Test.YtgjdkdfgfbonfaaN3
import Derived.Test.YtgjdkdfgfbonfaaBut
namespace Go.Proofs.Ytgjdkdfgfbonfaa
open Go.RowKit

def plainM : Mx := { W := fun k => (k : Int), nd := 6, pk := 9, tk := 3, P := [⟨#[97]⟩, ⟨#[97, 112, 112, 47, 98]⟩, ⟨#[99]⟩], V := [⟨#[49]⟩, ⟨#[50]⟩] }

/-- The cells of plain's mix when the weights below k are laid. -/
def pc (vp vv : Value) (k : Nat) : Array Value :=
  #[.int .i64 0, .int .i64 (if 1 < k then 1 else 0), .int .i64 (if 2 < k then 2 else 0), .int .i64 (if 3 < k then 3 else 0), .int .i64 (if 4 < k then 4 else 0), .int .i64 (if 5 < k then 5 else 0), .int .i64 (if 6 < k then 6 else 0), .int .i64 (if 7 < k then 7 else 0), .int .i64 (if 8 < k then 8 else 0), .int .i64 (if 9 < k then 9 else 0), .int .i64 (if 10 < k then 10 else 0), .int .i64 (if 11 < k then 11 else 0), .int .i64 (if 12 < k then 12 else 0), .int .i64 (if 13 < k then 13 else 0), .int .i64 (if 14 < k then 14 else 0), .int .i64 (if 15 < k then 15 else 0), .int .i64 (if 16 < k then 16 else 0), .int .i64 (if 17 < k then 17 else 0), .int .i64 6, .int .i64 9, .int .i64 3, vp, vv]

theorem Below.setRow {B : Nat} {a w : World} (h : Below B a w) {g : Nat} (hg : B ≤ g) (c : Array Value) : Below B a (w.setRow g c) :=
  ⟨h.os, h.tape, h.output, by simpa using h.size, fun k hk => (setRow_other _ _ _ _ (by omega)).trans (h.block k hk)⟩

theorem pc_set (vp vv : Value) (k : Nat) (h1 : 1 ≤ k) (h : k < 18) : (pc vp vv k).setIfInBounds k (.int .i64 (k : Int)) = pc vp vv (k + 1) := by
  have hk : k = 1 ∨ k = 2 ∨ k = 3 ∨ k = 4 ∨ k = 5 ∨ k = 6 ∨ k = 7 ∨ k = 8 ∨ k = 9 ∨ k = 10 ∨ k = 11 ∨ k = 12 ∨ k = 13 ∨ k = 14 ∨ k = 15 ∨ k = 16 ∨ k = 17 := by omega
  rcases hk with rfl | rfl | rfl | rfl | rfl | rfl | rfl | rfl | rfl | rfl | rfl | rfl | rfl | rfl | rfl | rfl | rfl <;> rfl
theorem pc_size (vp vv : Value) (k : Nat) : (pc vp vv k).size = 23 := rfl
theorem pc_at (vp vv : Value) (k : Nat) (h : k < 18) : ∃ v, (pc vp vv k)[k]? = some v := ⟨_, Array.getElem?_eq_getElem (by rw [pc_size]; omega)⟩

theorem plain_isC (vp vv : Value) : IsC (pc vp vv 18) plainM vp vv := by
  refine ⟨rfl, fun k h => ?_, rfl, rfl, rfl, rfl, rfl⟩
  have hk : k = 0 ∨ k = 1 ∨ k = 2 ∨ k = 3 ∨ k = 4 ∨ k = 5 ∨ k = 6 ∨ k = 7 ∨ k = 8 ∨ k = 9 ∨ k = 10 ∨ k = 11 ∨ k = 12 ∨ k = 13 ∨ k = 14 ∨ k = 15 ∨ k = 16 ∨ k = 17 := by omega
  rcases hk with rfl | rfl | rfl | rfl | rfl | rfl | rfl | rfl | rfl | rfl | rfl | rfl | rfl | rfl | rfl | rfl | rfl | rfl <;> rfl
theorem texts_at {w : World} {b n : Nat} {l : List ByteArray} {cs : Array Value} {t : TypeId} (h : w.heap[b]? = some (.cells cs t)) (hc : cs = (l.map Value.string).toArray) (hn : l.length = n) (hm : l.length ≤ maxLen) : TextsAt w (.slice (some ⟨b, 0, none⟩) n n) l := by
  subst hn
  refine ⟨_, _, rfl, hm, .inr ⟨b, 0, rfl, lt_of_heap h, fun i s hi => ?_⟩⟩
  rw [Nat.zero_add, cell_of h i, hc]
  simp [hi]

set_option maxHeartbeats 800000 in
set_option maxRecDepth 100000 in
theorem plain_any (w : World) : Calls Try.prog 28 #[] w fun e w' => ∃ C, e = .returned (.agg C) ∧ MixAt w' C plainM ∧ Below w.heap.size w w' := by
  go_enter Try.func28, Try.ntmps28
  have e1 : (w.alloc (.cells #[.int .i64 0, .int .i64 0, .int .i64 0, .int .i64 0, .int .i64 0, .int .i64 0, .int .i64 0, .int .i64 0, .int .i64 0, .int .i64 0, .int .i64 0, .int .i64 0, .int .i64 0, .int .i64 0, .int .i64 0, .int .i64 0, .int .i64 0, .int .i64 0, .int .i64 0, .int .i64 0, .int .i64 0, .slice none 0 0, .slice none 0 0] 25)).heap.size = w.heap.size + 1 := by simp
  have e2 : ((w.alloc (.cells #[.int .i64 0, .int .i64 0, .int .i64 0, .int .i64 0, .int .i64 0, .int .i64 0, .int .i64 0, .int .i64 0, .int .i64 0, .int .i64 0, .int .i64 0, .int .i64 0, .int .i64 0, .int .i64 0, .int .i64 0, .int .i64 0, .int .i64 0, .int .i64 0, .int .i64 0, .int .i64 0, .int .i64 0, .slice none 0 0, .slice none 0 0] 25)).alloc (.cells #[.string ⟨#[97]⟩, .string ⟨#[97, 112, 112, 47, 98]⟩, .string ⟨#[99]⟩] 9)).heap.size = w.heap.size + 2 := by simp
  have e3 : (((w.alloc (.cells #[.int .i64 0, .int .i64 0, .int .i64 0, .int .i64 0, .int .i64 0, .int .i64 0, .int .i64 0, .int .i64 0, .int .i64 0, .int .i64 0, .int .i64 0, .int .i64 0, .int .i64 0, .int .i64 0, .int .i64 0, .int .i64 0, .int .i64 0, .int .i64 0, .int .i64 0, .int .i64 0, .int .i64 0, .slice none 0 0, .slice none 0 0] 25)).alloc (.cells #[.string ⟨#[97]⟩, .string ⟨#[97, 112, 112, 47, 98]⟩, .string ⟨#[99]⟩] 9)).alloc (.cells #[.string ⟨#[49]⟩, .string ⟨#[50]⟩] 9)).heap.size = w.heap.size + 3 := by simp
  have k0 : ((((w.alloc (.cells #[.int .i64 0, .int .i64 0, .int .i64 0, .int .i64 0, .int .i64 0, .int .i64 0, .int .i64 0, .int .i64 0, .int .i64 0, .int .i64 0, .int .i64 0, .int .i64 0, .int .i64 0, .int .i64 0, .int .i64 0, .int .i64 0, .int .i64 0, .int .i64 0, .int .i64 0, .int .i64 0, .int .i64 0, .slice none 0 0, .slice none 0 0] 25)).alloc (.cells #[.string ⟨#[97]⟩, .string ⟨#[97, 112, 112, 47, 98]⟩, .string ⟨#[99]⟩] 9)).alloc (.cells #[.string ⟨#[49]⟩, .string ⟨#[50]⟩] 9)).alloc (.cells #[.int .i64 0, .int .i64 0, .int .i64 0, .int .i64 0, .int .i64 0, .int .i64 0, .int .i64 0, .int .i64 0, .int .i64 0, .int .i64 0, .int .i64 0, .int .i64 0, .int .i64 0, .int .i64 0, .int .i64 0, .int .i64 0, .int .i64 0, .int .i64 0, .int .i64 0, .int .i64 0, .int .i64 0, .slice none 0 0, .slice none 0 0] 25)).heap[w.heap.size]? = some (.cells #[.int .i64 0, .int .i64 0, .int .i64 0, .int .i64 0, .int .i64 0, .int .i64 0, .int .i64 0, .int .i64 0, .int .i64 0, .int .i64 0, .int .i64 0, .int .i64 0, .int .i64 0, .int .i64 0, .int .i64 0, .int .i64 0, .int .i64 0, .int .i64 0, .int .i64 0, .int .i64 0, .int .i64 0, .slice none 0 0, .slice none 0 0] 25) := old_alloc (old_alloc (old_alloc new_alloc))
  have k1 : ((((w.alloc (.cells #[.int .i64 0, .int .i64 0, .int .i64 0, .int .i64 0, .int .i64 0, .int .i64 0, .int .i64 0, .int .i64 0, .int .i64 0, .int .i64 0, .int .i64 0, .int .i64 0, .int .i64 0, .int .i64 0, .int .i64 0, .int .i64 0, .int .i64 0, .int .i64 0, .int .i64 0, .int .i64 0, .int .i64 0, .slice none 0 0, .slice none 0 0] 25)).alloc (.cells #[.string ⟨#[97]⟩, .string ⟨#[97, 112, 112, 47, 98]⟩, .string ⟨#[99]⟩] 9)).alloc (.cells #[.string ⟨#[49]⟩, .string ⟨#[50]⟩] 9)).alloc (.cells #[.int .i64 0, .int .i64 0, .int .i64 0, .int .i64 0, .int .i64 0, .int .i64 0, .int .i64 0, .int .i64 0, .int .i64 0, .int .i64 0, .int .i64 0, .int .i64 0, .int .i64 0, .int .i64 0, .int .i64 0, .int .i64 0, .int .i64 0, .int .i64 0, .int .i64 0, .int .i64 0, .int .i64 0, .slice none 0 0, .slice none 0 0] 25)).heap[w.heap.size + 1]? = some (.cells #[.string ⟨#[97]⟩, .string ⟨#[97, 112, 112, 47, 98]⟩, .string ⟨#[99]⟩] 9) := old_alloc (old_alloc (e1 ▸ new_alloc))
  have k2 : ((((w.alloc (.cells #[.int .i64 0, .int .i64 0, .int .i64 0, .int .i64 0, .int .i64 0, .int .i64 0, .int .i64 0, .int .i64 0, .int .i64 0, .int .i64 0, .int .i64 0, .int .i64 0, .int .i64 0, .int .i64 0, .int .i64 0, .int .i64 0, .int .i64 0, .int .i64 0, .int .i64 0, .int .i64 0, .int .i64 0, .slice none 0 0, .slice none 0 0] 25)).alloc (.cells #[.string ⟨#[97]⟩, .string ⟨#[97, 112, 112, 47, 98]⟩, .string ⟨#[99]⟩] 9)).alloc (.cells #[.string ⟨#[49]⟩, .string ⟨#[50]⟩] 9)).alloc (.cells #[.int .i64 0, .int .i64 0, .int .i64 0, .int .i64 0, .int .i64 0, .int .i64 0, .int .i64 0, .int .i64 0, .int .i64 0, .int .i64 0, .int .i64 0, .int .i64 0, .int .i64 0, .int .i64 0, .int .i64 0, .int .i64 0, .int .i64 0, .int .i64 0, .int .i64 0, .int .i64 0, .int .i64 0, .slice none 0 0, .slice none 0 0] 25)).heap[w.heap.size + 2]? = some (.cells #[.string ⟨#[49]⟩, .string ⟨#[50]⟩] 9) := old_alloc (e2 ▸ new_alloc)
  have k3 : ((((w.alloc (.cells #[.int .i64 0, .int .i64 0, .int .i64 0, .int .i64 0, .int .i64 0, .int .i64 0, .int .i64 0, .int .i64 0, .int .i64 0, .int .i64 0, .int .i64 0, .int .i64 0, .int .i64 0, .int .i64 0, .int .i64 0, .int .i64 0, .int .i64 0, .int .i64 0, .int .i64 0, .int .i64 0, .int .i64 0, .slice none 0 0, .slice none 0 0] 25)).alloc (.cells #[.string ⟨#[97]⟩, .string ⟨#[97, 112, 112, 47, 98]⟩, .string ⟨#[99]⟩] 9)).alloc (.cells #[.string ⟨#[49]⟩, .string ⟨#[50]⟩] 9)).alloc (.cells #[.int .i64 0, .int .i64 0, .int .i64 0, .int .i64 0, .int .i64 0, .int .i64 0, .int .i64 0, .int .i64 0, .int .i64 0, .int .i64 0, .int .i64 0, .int .i64 0, .int .i64 0, .int .i64 0, .int .i64 0, .int .i64 0, .int .i64 0, .int .i64 0, .int .i64 0, .int .i64 0, .int .i64 0, .slice none 0 0, .slice none 0 0] 25)).heap[w.heap.size + 3]? = some (.cells #[.int .i64 0, .int .i64 0, .int .i64 0, .int .i64 0, .int .i64 0, .int .i64 0, .int .i64 0, .int .i64 0, .int .i64 0, .int .i64 0, .int .i64 0, .int .i64 0, .int .i64 0, .int .i64 0, .int .i64 0, .int .i64 0, .int .i64 0, .int .i64 0, .int .i64 0, .int .i64 0, .int .i64 0, .slice none 0 0, .slice none 0 0] 25) := e3 ▸ new_alloc
  have kb : Below w.heap.size w ((((w.alloc (.cells #[.int .i64 0, .int .i64 0, .int .i64 0, .int .i64 0, .int .i64 0, .int .i64 0, .int .i64 0, .int .i64 0, .int .i64 0, .int .i64 0, .int .i64 0, .int .i64 0, .int .i64 0, .int .i64 0, .int .i64 0, .int .i64 0, .int .i64 0, .int .i64 0, .int .i64 0, .int .i64 0, .int .i64 0, .slice none 0 0, .slice none 0 0] 25)).alloc (.cells #[.string ⟨#[97]⟩, .string ⟨#[97, 112, 112, 47, 98]⟩, .string ⟨#[99]⟩] 9)).alloc (.cells #[.string ⟨#[49]⟩, .string ⟨#[50]⟩] 9)).alloc (.cells #[.int .i64 0, .int .i64 0, .int .i64 0, .int .i64 0, .int .i64 0, .int .i64 0, .int .i64 0, .int .i64 0, .int .i64 0, .int .i64 0, .int .i64 0, .int .i64 0, .int .i64 0, .int .i64 0, .int .i64 0, .int .i64 0, .int .i64 0, .int .i64 0, .int .i64 0, .int .i64 0, .int .i64 0, .slice none 0 0, .slice none 0 0] 25)) := ((((Below.refl _ _).alloc (Nat.le_refl _) _).alloc (by omega) _).alloc (by omega) _).alloc (by omega) _
  have hz : (Try.prog.info? 25).map (·.size) = some (pc (.slice (some ⟨w.heap.size + 1, 0, none⟩) 3 3) (.slice (some ⟨w.heap.size + 2, 0, none⟩) 2 2) 1).size := size25
  clear e1 e2 e3
  go_wp2_with (with_reducible refine wpList_store_row rfl 25 _ _ rfl (w.heap.size + 3) (pc (.slice (some ⟨w.heap.size + 1, 0, none⟩) 3 3) (.slice (some ⟨w.heap.size + 2, 0, none⟩) 2 2) 1) ?_ ?_ 25 _ k3 hz ?_ ?_ ?_; rotate_left; rotate_left; rotate_left; rotate_left)
  rotate_left
  · exact rfl
  · exact rfl
  · exact rfl
  · simp [pc, Value.oneCell']
  have j0 := (setRow_other _ (w.heap.size + 3) _ (pc (.slice (some ⟨w.heap.size + 1, 0, none⟩) 3 3) (.slice (some ⟨w.heap.size + 2, 0, none⟩) 2 2) 1) (by omega)).trans k0
  have j1 := (setRow_other _ (w.heap.size + 3) _ (pc (.slice (some ⟨w.heap.size + 1, 0, none⟩) 3 3) (.slice (some ⟨w.heap.size + 2, 0, none⟩) 2 2) 1) (by omega)).trans k1
  have j2 := (setRow_other _ (w.heap.size + 3) _ (pc (.slice (some ⟨w.heap.size + 1, 0, none⟩) 3 3) (.slice (some ⟨w.heap.size + 2, 0, none⟩) 2 2) 1) (by omega)).trans k2
  have j3 := setRow_heap _ (w.heap.size + 3) _ (pc (.slice (some ⟨w.heap.size + 1, 0, none⟩) 3 3) (.slice (some ⟨w.heap.size + 2, 0, none⟩) 2 2) 1) _ _ k3
  have jb := Ytgjdkdfgfbonfaa.Below.setRow kb (g := w.heap.size + 3) (by omega) (pc (.slice (some ⟨w.heap.size + 1, 0, none⟩) 3 3) (.slice (some ⟨w.heap.size + 2, 0, none⟩) 2 2) 1)
  clear k0 k1 k2 k3 kb hz
  generalize (World.setRow _ (w.heap.size + 3) (pc (.slice (some ⟨w.heap.size + 1, 0, none⟩) 3 3) (.slice (some ⟨w.heap.size + 2, 0, none⟩) 2 2) 1)) = W at j0 j1 j2 j3 jb ⊢
  go_loopw [2] (fun i wr => ∃ k : Nat, 1 ≤ k ∧ k ≤ 18 ∧ i = .int .i64 k ∧ wr.heap[w.heap.size]? = some (.cells #[.int .i64 0, .int .i64 0, .int .i64 0, .int .i64 0, .int .i64 0, .int .i64 0, .int .i64 0, .int .i64 0, .int .i64 0, .int .i64 0, .int .i64 0, .int .i64 0, .int .i64 0, .int .i64 0, .int .i64 0, .int .i64 0, .int .i64 0, .int .i64 0, .int .i64 0, .int .i64 0, .int .i64 0, .slice none 0 0, .slice none 0 0] 25) ∧ wr.heap[w.heap.size + 1]? = some (.cells #[.string ⟨#[97]⟩, .string ⟨#[97, 112, 112, 47, 98]⟩, .string ⟨#[99]⟩] 9) ∧ wr.heap[w.heap.size + 2]? = some (.cells #[.string ⟨#[49]⟩, .string ⟨#[50]⟩] 9) ∧ wr.heap[w.heap.size + 3]? = some (.cells (pc (.slice (some ⟨w.heap.size + 1, 0, none⟩) 3 3) (.slice (some ⟨w.heap.size + 2, 0, none⟩) 2 2) k) 25) ∧ Below w.heap.size w wr) (fun i _ => 18 - (intOf i).toNat)
  case atStart => exact ⟨1, by omega, by omega, rfl, j0, j1, j2, j3, jb⟩
  case round =>
    clear j0 j1 j2 j3 jb
    obtain ⟨k, hk1, hk, rfl, j0, j1, j2, j3, jb⟩ := hrel
    by_cases hlt : k < 18
    · obtain ⟨v, hv⟩ := pc_at (.slice (some ⟨w.heap.size + 1, 0, none⟩) 3 3) (.slice (some ⟨w.heap.size + 2, 0, none⟩) 2 2) k hlt
      have c0 : wr.cell? ⟨w.heap.size + 1 + 1 + 1, k, none⟩ = some v := (cell_of j3 k).trans hv
      have f0 : wr.frozen? ⟨w.heap.size + 1 + 1 + 1, k, none⟩ = false := free_of j3 k
      go_wp2_with fail
      go_roundw
      case rel =>
        refine ⟨k + 1, by omega, by omega, by go_num, set_ne (by omega) j0, set_ne (by omega) j1, set_ne (by omega) j2, ?_, jb.setCell (by show w.heap.size ≤ w.heap.size + 1 + 1 + 1; omega) _⟩
        have h := set_at (j := k) (u := .int .i64 (k : Int)) j3
        rw [pc_set _ _ k hk1 hlt] at h
        exact h
      case measure => simp [intOf]; omega
    · obtain rfl : k = 18 := by omega
      have hz : (Try.prog.info? 25).map (·.size) = some (pc (.slice (some ⟨w.heap.size + 1, 0, none⟩) 3 3) (.slice (some ⟨w.heap.size + 2, 0, none⟩) 2 2) 18).size := size25
      go_wp2_with (first | (with_reducible refine wpList_load_row rfl 25 _ rfl (w.heap.size + 3) ?_ 25 (pc (.slice (some ⟨w.heap.size + 1, 0, none⟩) 3 3) (.slice (some ⟨w.heap.size + 2, 0, none⟩) 2 2) 18) (0, 0) _ j3 Try.underlying25 rfl hz ?_; rotate_left) | (with_reducible refine wpList_store_row rfl 25 _ _ rfl w.heap.size (pc (.slice (some ⟨w.heap.size + 1, 0, none⟩) 3 3) (.slice (some ⟨w.heap.size + 2, 0, none⟩) 2 2) 18) ?_ ?_ 25 _ j0 hz ?_ ?_ ?_; rotate_left; rotate_left; rotate_left; rotate_left))
      · refine bodyPost_ret (v := .agg (pc (.slice (some ⟨w.heap.size + 1, 0, none⟩) 3 3) (.slice (some ⟨w.heap.size + 2, 0, none⟩) 2 2) 18)) (results_cell_row rfl _ _ w.heap.size 25 _ (0, 0) _ rfl (setRow_heap _ _ _ _ _ _ j0) Try.underlying25 rfl hz) rfl ?_
        refine ⟨_, rfl, ⟨_, _, plain_isC _ _, ?_, ?_⟩, Ytgjdkdfgfbonfaa.Below.setRow jb (Nat.le_refl _) _⟩
        · exact texts_at (l := plainM.P) ((setRow_other _ _ _ _ (by omega)).trans j1) rfl rfl (by unfold maxLen; decide)
        · exact texts_at (l := plainM.V) ((setRow_other _ _ _ _ (by omega)).trans j2) rfl rfl (by unfold maxLen; decide)
      all_goals first | exact rfl | simp [pc, Value.oneCell']

end Go.Proofs.Ytgjdkdfgfbonfaa
