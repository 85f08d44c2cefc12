/- What is streamed twice is the text. Conditions: none. -/
import Derived.Test.YtgmnigobappjbaaB9
namespace Go.Proofs.Ytgmnigobappjbaa
open Go.RowKit

def stream (key nonce : Nat → UInt8) (s : ByteArray) : ByteArray := txt s.size (strN (sF s) (ksN key nonce) s.size)
theorem stream_size (key nonce : Nat → UInt8) (s : ByteArray) : (stream key nonce s).size = s.size := txt_size _ _
theorem sF_txt {n : Nat} {f : Nat → UInt8} {j : Nat} (h : j < n) : sF (txt n f) j = f j := by
  unfold sF
  rw [txt_list, List.getD_eq_getElem?_getD, List.getElem?_map, List.getElem?_range h]
  rfl
theorem stream_at (key nonce : Nat → UInt8) (s : ByteArray) {j : Nat} (h : j < s.size) : sF (stream key nonce s) j = xr (sF s j) (ksN key nonce j) := by
  unfold stream
  rw [sF_txt h, strN, if_pos h]
theorem text_ext {s t : ByteArray} (hn : s.size = t.size) (h : ∀ j, j < s.size → sF s j = sF t j) : s = t := by
  rw [← txt_self s, ← txt_self t, ← hn]
  exact txt_ext h
theorem stream_back (key nonce : Nat → UInt8) (s : ByteArray) : stream key nonce (stream key nonce s) = s := by
  refine text_ext (by rw [stream_size, stream_size]) fun j hj => ?_
  rw [stream_size, stream_size] at hj
  rw [stream_at _ _ _ (by rw [stream_size]; exact hj), stream_at _ _ _ hj, xr_assoc, xr_self, xr_zero]
theorem stream_any (key nonce : Nat → UInt8) (s : ByteArray) (hmx : s.size ≤ 100000) (w : World) :
    Calls Try.prog 13 #[.agg (arr 32 key), .agg (arr 12 nonce), .string s] w fun e w' => e = .returned (.string (stream key nonce s)) ∧ Below w.heap.size w w' :=
  Stream_any key nonce s hmx w

theorem size32 : (Try.prog.info? 32).map (·.size) = some 12 := by kernel_rfl

set_option maxRecDepth 100000 in
set_option maxHeartbeats 1600000 in
theorem back_any (key nonce : Nat → UInt8) (s : ByteArray) (w : World) :
    Calls Try.prog 7 #[.agg (arr 32 key), .agg (arr 12 nonce), .string s] w fun e w' => e = .returned (.bool true) ∧ Below w.heap.size w w' := by
  have hz2 : ∀ f : Nat → UInt8, (Try.prog.info? 32).map (·.size) = some (arr 12 f).size := fun f => by rw [arr_size]; exact size32
  have hz3 : ∀ f : Nat → UInt8, (Try.prog.info? 23).map (·.size) = some (arr 32 f).size := fun f => by rw [arr_size]; exact size23
  replace hz2 := hide hz2
  replace hz3 := hide hz3
  have h1 : ((w.alloc (.cells (arr 32 key) 23)).alloc (.cells (arr 12 nonce) 32)).heap[w.heap.size]? = some (.cells (arr 32 key) 23) := old_alloc new_alloc
  have h2 : ((w.alloc (.cells (arr 32 key) 23)).alloc (.cells (arr 12 nonce) 32)).heap[w.heap.size + 1]? = some (.cells (arr 12 nonce) 32) := by
    have h := new_alloc (w := w.alloc (.cells (arr 32 key) 23)) (o := .cells (arr 12 nonce) 32)
    rw [World.size_alloc] at h
    exact h
  have hb0 : Below w.heap.size w ((w.alloc (.cells (arr 32 key) 23)).alloc (.cells (arr 12 nonce) 32)) := ((Below.refl _ _).alloc (Nat.le_refl _) _).alloc (by simp) _
  go_enter Try.func7, Try.ntmps7
  go_wp2_with fail
  generalize ((w.alloc (.cells (arr 32 key) 23)).alloc (.cells (arr 12 nonce) 32)) = W0 at h1 h2 hb0 ⊢
  refine (awake_any _).mono ?_
  rintro e W ⟨rfl, hb⟩
  replace h1 := kept hb h1
  replace h2 := kept hb h2
  replace hb0 := below_of hb hb0
  clear hb
  by_cases hlen : 10000 < s.size
  · go_wp2_with fail
    go_ret
    exact ⟨rfl, hb0⟩
  go_wp2_with (first | (with_reducible refine wpList_load_row rfl 23 _ rfl w.heap.size ?_ 23 (arr 32 key) (0, 0) _ h1 Try.underlying23 rfl (hz3.out _) ?_; rotate_left) | (with_reducible refine wpList_load_row rfl 32 _ rfl (w.heap.size + 1) ?_ 32 (arr 12 nonce) (0, 0) _ h2 Try.underlying32 rfl (hz2.out _) ?_; rotate_left))
  all_goals try exact rfl
  refine (stream_any key nonce s (by omega) _).mono ?_
  rintro e w1 ⟨rfl, hb1⟩
  have k1 := kept hb1 h1
  have k2 := kept hb1 h2
  have kb := below_of hb1 hb0
  clear h1 h2 hb0 hb1
  have hsz := stream_size key nonce s
  have hle : (stream key nonce s).size ≤ 100000 := by omega
  replace hle := hide hle
  go_wp2_with (first | (with_reducible refine wpList_load_row_w ?_ 23 _ rfl w.heap.size ?_ 23 (arr 32 key) (0, 0) _ k1 Try.underlying23 rfl (hz3.out _) ?_; rotate_left; rotate_left) | (with_reducible refine wpList_load_row_w ?_ 32 _ rfl (w.heap.size + 1) ?_ 32 (arr 12 nonce) (0, 0) _ k2 Try.underlying32 rfl (hz2.out _) ?_; rotate_left; rotate_left))
  all_goals try exact rfl
  refine (stream_any key nonce _ hle.out _).mono ?_
  rintro e w2 ⟨rfl, hb2⟩
  rw [stream_back]
  have jb := below_of hb2 kb
  clear k1 k2 kb hb2
  go_wp2_with fail
  go_ret
  exact ⟨rfl, jb⟩

end Go.Proofs.Ytgmnigobappjbaa
