/- The contract of putBig, of four bytes. Conditions: none. -/
import Derived.Test.YtgmnigobappjbaaB7
import Derived.Test.YtgmnigobappjbaaKs
namespace Go.Proofs.Ytgmnigobappjbaa
open Go.RowKit

theorem own_below {W W' : World} {base : Nat} {e : TypeId} {size : Nat} {v : Value} {n : Nat} {xs : List Value} (h : W.ownsRow base e size v n xs) (hb : Below W.heap.size W W') : W'.ownsRow base e size v n xs := by
  obtain ⟨h1, h2⟩ := h
  refine ⟨h1, ?_⟩
  rcases h2 with h2 | ⟨g, cap, cur, rfl, hg, hh, h3⟩
  · exact .inl h2
  · exact .inr ⟨g, cap, cur, rfl, hg, (hb.block g (lt_of_heap hh)).trans hh, h3⟩
theorem own_base {W : World} {base base' : Nat} {e : TypeId} {size : Nat} {v : Value} {n : Nat} {xs : List Value} (h : W.ownsRow base e size v n xs) (hb : base' ≤ base) : W.ownsRow base' e size v n xs := by
  obtain ⟨h1, h2 | ⟨g, cap, cur, rfl, hg, h3⟩⟩ := h
  · exact ⟨h1, .inl h2⟩
  · exact ⟨h1, .inr ⟨g, cap, cur, rfl, Nat.le_trans hb hg, h3⟩⟩
theorem info5' : ∃ i, Try.prog.info? 5 = some i ∧ i.zero = some (.int .u8 0) ∧ i.size = 1 ∧ i.bytes = 1 := ⟨_, rfl, rfl, rfl, rfl⟩
def bigs (X k : Nat) : List Value := (List.range k).map fun j => byt (bigN X j)
theorem bigs_succ (X k : Nat) : bigs X (k + 1) = bigs X k ++ [byt (bigN X k)] := by simp [bigs, List.range_succ]
theorem bigs_len (X k : Nat) : (bigs X k).length = k := by simp [bigs]

theorem big_0 (X : Nat) : Value.int .u8 ((X : Int) / 16777216 % 256) = byt (bigN X 0) := by
  have h : (X : Int) / 16777216 % 256 = ((X / 16777216 % 256 : Nat) : Int) := by omega
  rw [h, bigN, byt, by8_toNat (Nat.mod_lt _ (by decide))]
theorem big_1 (X : Nat) : Value.int .u8 ((X : Int) / 65536 % 256) = byt (bigN X 1) := by
  have h : (X : Int) / 65536 % 256 = ((X / 65536 % 256 : Nat) : Int) := by omega
  rw [h, bigN, byt, by8_toNat (Nat.mod_lt _ (by decide))]
theorem big_2 (X : Nat) : Value.int .u8 ((X : Int) / 256 % 256) = byt (bigN X 2) := by
  have h : (X : Int) / 256 % 256 = ((X / 256 % 256 : Nat) : Int) := by omega
  rw [h, bigN, byt, by8_toNat (Nat.mod_lt _ (by decide))]
theorem big_3 (X : Nat) : Value.int .u8 ((X : Int) % 256) = byt (bigN X 3) := by
  have h : (X : Int) % 256 = ((X / 1 % 256 : Nat) : Int) := by omega
  rw [h, bigN, byt, by8_toNat (Nat.mod_lt _ (by decide))]

/-- Four bytes that were put: where they lie. -/
theorem own_bigs {W : World} {base X : Nat} {v : Value} (h : W.ownsRow base 5 1 v 4 (bigs X 4)) : ∃ g cap, v = .slice (some ⟨g, 0, none⟩) 4 cap ∧ base ≤ g ∧ ∀ j, j < 4 → W.cell? ⟨g, 0 + j, none⟩ = some (byt (bigN X j)) := by
  obtain ⟨h1, ⟨_, hx⟩ | ⟨g, cap, cur, rfl, hg, hh, h3, h4, h5, h6⟩⟩ := h
  · cases hx
  · refine ⟨g, cap, rfl, hg, fun j hj => ?_⟩
    have h7 : (cur.toList.take (4 * 1))[j]? = (bigs X 4)[j]? := by rw [h6]
    rw [List.getElem?_take, if_pos (by omega), Array.getElem?_toList] at h7
    rw [Nat.zero_add, cell_of hh j, h7]
    simp [bigs, hj]

set_option maxRecDepth 100000 in
set_option maxHeartbeats 1600000 in
theorem putBig_any (X : Nat) (w : World) :
    Calls Try.prog 22 #[.slice none 0 0, .int .u64 X, .int .i64 4] w fun e w' => ∃ v, e = .returned v ∧ w'.ownsRow w.heap.size 5 1 v 4 (bigs X 4) ∧ Below w.heap.size w w' := by
  go_enter Try.func22, Try.ntmps22
  go_wp2_with fail
  go_loopw [0, 7] (fun a0 a7 wr => ∃ k : Nat, k ≤ 4 ∧ a7 = .int .i64 (3 - (k : Int)) ∧ wr.ownsRow w.heap.size 5 1 a0 k (bigs X k) ∧ Below w.heap.size w wr) (fun _ a7 _ => (intOf a7 + 1).toNat)
  case atStart => exact ⟨0, by omega, rfl, World.ownsRow_nil _ _ _ _, Below.refl _ _⟩
  case round =>
    obtain ⟨k, hk, rfl, ho, hb⟩ := hrel
    by_cases hlt : k < 4
    · have hsz := hb.size
      obtain ⟨i0, hi, hz0, hz1, hz2⟩ := info5'
      have hk4 : k = 0 ∨ k = 1 ∨ k = 2 ∨ k = 3 := by omega
      rcases hk4 with rfl | rfl | rfl | rfl
      · have hnw := new_alloc (w := wr) (o := .cells #[.int .u8 ((X : Int) / 16777216 % 256)] 5)
        have hA := ho.alloc (.cells #[.int .u8 ((X : Int) / 16777216 % 256)] 5)
        have hA2 := hb.alloc hsz (.cells #[.int .u8 ((X : Int) / 16777216 % 256)] 5)
        have hv : Value.int .u8 ((X : Int) / 16777216 % 256) = byt (bigN X 0) := big_0 X
        replace hv := hide hv
        go_wp2_with (at_builtin; refine wpList_append_own _ rfl _ _ 30 rfl w.heap.size 5 i0 _ 1 1 Try.underlying30 hi hz0 hz1 hz2 rfl (by decide) _ _ _ rfl hA ⟨wr.heap.size, 0, none⟩ 1 1 [.int .u8 ((X : Int) / 16777216 % 256)] rfl rfl ?c1 ?c2 ?c3 ?c4 ?c5 ?_)
        case c1 =>
          intro j u hj
          have hadd : (⟨wr.heap.size, 0, none⟩ : Addr).add j = ⟨wr.heap.size, j, none⟩ := by unfold Addr.add; split <;> simp_all
          rw [hadd, cell_of hnw j]
          simpa using hj
        case c2 =>
          intro u hu
          simp at hu
          subst hu
          rfl
        case c3 => unfold maxLen; omega
        case c4 => omega
        case c5 => exact hA2.size
        intro v' W3 hrow hgr _
        have hb3 := hA2.grown hgr hA2.size (fun j hj => (hA.lt j hj).1)
        rw [hv.out, ← bigs_succ] at hrow
        clear hnw hA hA2 hgr ho hb
        go_wp2_with fail
        go_roundw
        case rel => exact ⟨1, by omega, by go_num, hrow, hb3⟩
        case measure => simp [intOf]
      · have hnw := new_alloc (w := wr) (o := .cells #[.int .u8 ((X : Int) / 65536 % 256)] 5)
        have hA := ho.alloc (.cells #[.int .u8 ((X : Int) / 65536 % 256)] 5)
        have hA2 := hb.alloc hsz (.cells #[.int .u8 ((X : Int) / 65536 % 256)] 5)
        have hv : Value.int .u8 ((X : Int) / 65536 % 256) = byt (bigN X 1) := big_1 X
        replace hv := hide hv
        go_wp2_with (at_builtin; refine wpList_append_own _ rfl _ _ 30 rfl w.heap.size 5 i0 _ 1 1 Try.underlying30 hi hz0 hz1 hz2 rfl (by decide) _ _ _ rfl hA ⟨wr.heap.size, 0, none⟩ 1 1 [.int .u8 ((X : Int) / 65536 % 256)] rfl rfl ?c1 ?c2 ?c3 ?c4 ?c5 ?_)
        case c1 =>
          intro j u hj
          have hadd : (⟨wr.heap.size, 0, none⟩ : Addr).add j = ⟨wr.heap.size, j, none⟩ := by unfold Addr.add; split <;> simp_all
          rw [hadd, cell_of hnw j]
          simpa using hj
        case c2 =>
          intro u hu
          simp at hu
          subst hu
          rfl
        case c3 => unfold maxLen; omega
        case c4 => omega
        case c5 => exact hA2.size
        intro v' W3 hrow hgr _
        have hb3 := hA2.grown hgr hA2.size (fun j hj => (hA.lt j hj).1)
        rw [hv.out, ← bigs_succ] at hrow
        clear hnw hA hA2 hgr ho hb
        go_wp2_with fail
        go_roundw
        case rel => exact ⟨2, by omega, by go_num, hrow, hb3⟩
        case measure => simp [intOf]
      · have hnw := new_alloc (w := wr) (o := .cells #[.int .u8 ((X : Int) / 256 % 256)] 5)
        have hA := ho.alloc (.cells #[.int .u8 ((X : Int) / 256 % 256)] 5)
        have hA2 := hb.alloc hsz (.cells #[.int .u8 ((X : Int) / 256 % 256)] 5)
        have hv : Value.int .u8 ((X : Int) / 256 % 256) = byt (bigN X 2) := big_2 X
        replace hv := hide hv
        go_wp2_with (at_builtin; refine wpList_append_own _ rfl _ _ 30 rfl w.heap.size 5 i0 _ 1 1 Try.underlying30 hi hz0 hz1 hz2 rfl (by decide) _ _ _ rfl hA ⟨wr.heap.size, 0, none⟩ 1 1 [.int .u8 ((X : Int) / 256 % 256)] rfl rfl ?c1 ?c2 ?c3 ?c4 ?c5 ?_)
        case c1 =>
          intro j u hj
          have hadd : (⟨wr.heap.size, 0, none⟩ : Addr).add j = ⟨wr.heap.size, j, none⟩ := by unfold Addr.add; split <;> simp_all
          rw [hadd, cell_of hnw j]
          simpa using hj
        case c2 =>
          intro u hu
          simp at hu
          subst hu
          rfl
        case c3 => unfold maxLen; omega
        case c4 => omega
        case c5 => exact hA2.size
        intro v' W3 hrow hgr _
        have hb3 := hA2.grown hgr hA2.size (fun j hj => (hA.lt j hj).1)
        rw [hv.out, ← bigs_succ] at hrow
        clear hnw hA hA2 hgr ho hb
        go_wp2_with fail
        go_roundw
        case rel => exact ⟨3, by omega, by go_num, hrow, hb3⟩
        case measure => simp [intOf]
      · have hnw := new_alloc (w := wr) (o := .cells #[.int .u8 ((X : Int) % 256)] 5)
        have hA := ho.alloc (.cells #[.int .u8 ((X : Int) % 256)] 5)
        have hA2 := hb.alloc hsz (.cells #[.int .u8 ((X : Int) % 256)] 5)
        have hv : Value.int .u8 ((X : Int) % 256) = byt (bigN X 3) := big_3 X
        replace hv := hide hv
        go_wp2_with (at_builtin; refine wpList_append_own _ rfl _ _ 30 rfl w.heap.size 5 i0 _ 1 1 Try.underlying30 hi hz0 hz1 hz2 rfl (by decide) _ _ _ rfl hA ⟨wr.heap.size, 0, none⟩ 1 1 [.int .u8 ((X : Int) % 256)] rfl rfl ?c1 ?c2 ?c3 ?c4 ?c5 ?_)
        case c1 =>
          intro j u hj
          have hadd : (⟨wr.heap.size, 0, none⟩ : Addr).add j = ⟨wr.heap.size, j, none⟩ := by unfold Addr.add; split <;> simp_all
          rw [hadd, cell_of hnw j]
          simpa using hj
        case c2 =>
          intro u hu
          simp at hu
          subst hu
          rfl
        case c3 => unfold maxLen; omega
        case c4 => omega
        case c5 => exact hA2.size
        intro v' W3 hrow hgr _
        have hb3 := hA2.grown hgr hA2.size (fun j hj => (hA.lt j hj).1)
        rw [hv.out, ← bigs_succ] at hrow
        clear hnw hA hA2 hgr ho hb
        go_wp2_with fail
        go_roundw
        case rel => exact ⟨4, by omega, by go_num, hrow, hb3⟩
        case measure => simp [intOf]
    · obtain rfl : k = 4 := by omega
      go_wp2_with fail
      go_ret
      exact ⟨_, rfl, ho, hb⟩

end Go.Proofs.Ytgmnigobappjbaa
