/- The contract of the document's with. Conditions: none. -/
import Derived.Test.YtgmnigobappjbaaR2
namespace Go.Proofs.Ytgmnigobappjbaa
open Go.RowKit

/-- Words in memory: a row of slices, four bytes each. -/
structure WordsAt (w : World) (gw n : Nat) (H K : Nat → Nat) (W : Nat → UInt8) : Prop where
  row : ∃ cur, w.heap[gw]? = some (.cells cur 30) ∧ n ≤ cur.size ∧ ∀ i, i < n → cur[i]? = some (.slice (some ⟨H i, 0, none⟩) 4 (K i))
  at_ : ∀ i, i < n → BytesAt w (H i) 4 (fun j => W (4 * i + j))
theorem WordsAt.cell {w : World} {gw n : Nat} {H K : Nat → Nat} {W : Nat → UInt8} (h : WordsAt w gw n H K W) {i : Nat} (hi : i < n) : w.cell? ⟨gw, i, none⟩ = some (.slice (some ⟨H i, 0, none⟩) 4 (K i)) := by
  obtain ⟨cur, hg, _, hc⟩ := h.row
  exact (cell_of hg i).trans (hc i hi)
theorem WordsAt.lt {w : World} {gw n : Nat} {H K : Nat → Nat} {W : Nat → UInt8} (h : WordsAt w gw n H K W) : gw < w.heap.size := by
  obtain ⟨cur, hg, _, _⟩ := h.row
  exact lt_of_heap hg
theorem WordsAt.below {w w' : World} {gw n : Nat} {H K : Nat → Nat} {W : Nat → UInt8} (h : WordsAt w gw n H K W) (hb : Below w.heap.size w w') : WordsAt w' gw n H K W := by
  obtain ⟨cur, hg, hn, hc⟩ := h.row
  exact ⟨⟨cur, kept hb hg, hn, hc⟩, fun i hi => (h.at_ i hi).below hb⟩

/-- Bytes in a block of any type, from its head on. -/
structure BytesIn (w : World) (g n : Nat) (f : Nat → UInt8) : Prop where
  ex : ∃ cur ty, w.heap[g]? = some (.cells cur ty) ∧ ∀ j, j < n → cur[j]? = some (byt (f j))
theorem BytesIn.cell {w : World} {g n : Nat} {f : Nat → UInt8} (h : BytesIn w g n f) {j : Nat} (hj : j < n) : w.cell? ⟨g, j, none⟩ = some (byt (f j)) := by
  obtain ⟨cur, ty, hg, hc⟩ := h.ex
  exact (cell_of hg j).trans (hc j hj)
theorem BytesIn.below {w w' : World} {g n : Nat} {f : Nat → UInt8} (h : BytesIn w g n f) (hb : Below w.heap.size w w') : BytesIn w' g n f := by
  obtain ⟨cur, ty, hg, hc⟩ := h.ex
  exact ⟨cur, ty, kept hb hg, hc⟩
theorem BytesAt.in_ {w : World} {g n : Nat} {f : Nat → UInt8} (h : BytesAt w g n f) : BytesIn w g n f := by
  obtain ⟨cur, hg, _, hc⟩ := h.ex
  exact ⟨cur, 5, hg, hc⟩
theorem arr_in {w : World} {g n : Nat} {ty : TypeId} {f : Nat → UInt8} (h : w.heap[g]? = some (.cells (arr n f) ty)) : BytesIn w g n f := ⟨_, _, h, fun _ hj => arr_at hj⟩

/-- The numbers of one step. -/
structure WithQ (r k : Nat) : Prop where
  n3 : (4 * (r : Int) + (k : Int) / 4).toNat = 4 * r + k / 4
  n4 : ((k : Int) % 4).toNat = k % 4
  m0 : (k : Int) < 16
  m1 : 0 ≤ 4 * (r : Int) + (k : Int) / 4
  m2 : 4 * (r : Int) + (k : Int) / 4 < 60
  m3 : 0 ≤ (k : Int) % 4
  m4 : (k : Int) % 4 < 4
  v1 : IntKind.i64.wrap (4 * (r : Int)) = 4 * (r : Int)
  v2 : IntKind.i64.wrap ((k : Int) / 4) = (k : Int) / 4
  v3 : IntKind.i64.wrap (4 * (r : Int) + (k : Int) / 4) = 4 * (r : Int) + (k : Int) / 4
  v4 : (k : Int).tmod 4 = (k : Int) % 4
theorem withQ (r k : Nat) (hr : r ≤ 14) (hk : k < 16) : WithQ r k :=
  ⟨by omega, by omega, by omega, by omega, by omega, by omega, by omega, IntWalk.i64_in _ (by omega), IntWalk.i64_in _ (by omega), IntWalk.i64_in _ (by omega), Int.tmod_eq_emod_of_nonneg (by omega)⟩

set_option maxRecDepth 100000 in
set_option maxHeartbeats 4000000 in
theorem with_any (gb cb gw cw r : Nat) (H K : Nat → Nat) (W x : Nat → UInt8) (hr : r ≤ 14) (w : World) (hx : BytesIn w gb 16 x) (hw : WordsAt w gw 60 H K W) :
    Calls Try.prog 28 #[.slice (some ⟨gb, 0, none⟩) 16 cb, .slice (some ⟨gw, 0, none⟩) 60 cw, .int .i64 r] w fun e w' => ∃ g cap, e = .returned (.slice (some ⟨g, 0, none⟩) 16 cap) ∧ w.heap.size ≤ g ∧ BytesAt w' g 16 (addN W x r 16) ∧ Below w.heap.size w w' := by
  go_enter Try.func28, Try.ntmps28
  go_wp2_with fail
  go_loopw [7, 8] (fun a7 a8 wr => ∃ k : Nat, k ≤ 16 ∧ a8 = .int .i64 k ∧ wr.ownsRow w.heap.size 5 1 a7 k (bl k (fun i => xr (x i) (W (16 * r + i)))) ∧ Below w.heap.size w wr) (fun _ a8 _ => 16 - (intOf a8).toNat)
  case atStart => exact ⟨0, by omega, rfl, World.ownsRow_nil _ _ _ _, Below.refl _ _⟩
  case round =>
    obtain ⟨k, hk, rfl, ho, hb⟩ := hrel
    by_cases hlt : k < 16
    · have hsz := hb.size
      obtain ⟨i0, hi, hz0, hz1, hz2⟩ := info5'
      have q := withQ r k hr hlt
      go_wp2_with fail
      rw [show decide ((k : Int) < 16) = true from decide_eq_true (by omega)]
      refine Draw.wp_region_ghosts mixed 19 24 (by kernel_rfl) (0 : Nat)
        (fun g i => ([u7, .slice (some ⟨gb, 0, none⟩) 16 cb, .int .i64 (k : Int), .pointer (some ⟨gb, k, none⟩), byt (x k), .slice (some ⟨gw, 0, none⟩) 60 cw, .int .i64 (r : Int), .int .i64 (4 * (r : Int)), .int .i64 (k : Int), .int .i64 ((k : Int) / 4), .int .i64 (4 * (r : Int) + (k : Int) / 4), .pointer (some ⟨gw, 4 * r + k / 4, none⟩), .slice (some ⟨H (4 * r + k / 4), 0, none⟩) 4 (K (4 * r + k / 4)), .int .i64 (k : Int), .int .i64 ((k : Int) % 4), .pointer (some ⟨H (4 * r + k / 4), k % 4, none⟩), byt (W (16 * r + k)), byt (xr (x k) (W (16 * r + k))), .slice (some ⟨g, 0, none⟩) 1 1] : List Value).getD i undef)
        _ (fun _ => rfl)
        (fun D g w' => Below wr.heap.size wr w' ∧ (D 18 = true → w'.heap[g]? = some (.cells #[byt (xr (x k) (W (16 * r + k)))] 5)))
        ⟨(Below.refl _ _).drew, fun h => absurd h Bool.false_ne_true⟩ ?_ ?_
      · simp only [Draw.puts, List.take_succ_cons, List.take_zero, if_true, Act.put, List.setIfInBounds_toArray, List.set_cons_zero, List.set_cons_succ, Nat.zero_add, Nat.reduceAdd, List.getD_cons_zero, List.getD_cons_succ]
        refine ⟨?_, ?_, ?_, ?_, ?_, ?_, ?_, ?_, ?_, ?_, ?_, ?_, ?_, ?_, ?_, ?_, ?_, ?_, ?_, trivial⟩
        all_goals rintro D γ w2 hD hpre ⟨hb2, hg⟩
        all_goals refine .inl ⟨rfl, fun K' hk => ?_⟩
        · go_simp
          exact hk γ w2 (fun _ _ => rfl) ⟨hb2, by simpa [Draw.upd] using hg⟩
        · go_simp
          exact hk γ w2 (fun _ _ => rfl) ⟨hb2, by simpa [Draw.upd] using hg⟩
        · go_simp
          exact hk γ w2 (fun _ _ => rfl) ⟨hb2, by simpa [Draw.upd] using hg⟩
        · have m0 := q.m0
          go_simp
          exact hk γ w2 (fun _ _ => rfl) ⟨hb2, by simpa [Draw.upd] using hg⟩
        · have c0 := (hx.below (below_of hb2 hb)).cell hlt
          go_simp
          exact hk γ w2 (fun _ _ => rfl) ⟨hb2, by simpa [Draw.upd] using hg⟩
        · go_simp
          exact hk γ w2 (fun _ _ => rfl) ⟨hb2, by simpa [Draw.upd] using hg⟩
        · go_simp
          exact hk γ w2 (fun _ _ => rfl) ⟨hb2, by simpa [Draw.upd] using hg⟩
        · go_simp
          rw [q.v1]
          exact hk γ w2 (fun _ _ => rfl) ⟨hb2, by simpa [Draw.upd] using hg⟩
        · go_simp
          exact hk γ w2 (fun _ _ => rfl) ⟨hb2, by simpa [Draw.upd] using hg⟩
        · go_simp
          rw [q.v2]
          exact hk γ w2 (fun _ _ => rfl) ⟨hb2, by simpa [Draw.upd] using hg⟩
        · go_simp
          rw [q.v3]
          exact hk γ w2 (fun _ _ => rfl) ⟨hb2, by simpa [Draw.upd] using hg⟩
        · have n3 := q.n3
          have m1 := q.m1
          have m2 := q.m2
          go_simp
          exact hk γ w2 (fun _ _ => rfl) ⟨hb2, by simpa [Draw.upd] using hg⟩
        · have c1 := (hw.below (below_of hb2 hb)).cell (i := 4 * r + k / 4) (by omega)
          go_simp
          exact hk γ w2 (fun _ _ => rfl) ⟨hb2, by simpa [Draw.upd] using hg⟩
        · go_simp
          exact hk γ w2 (fun _ _ => rfl) ⟨hb2, by simpa [Draw.upd] using hg⟩
        · go_simp
          rw [q.v4]
          exact hk γ w2 (fun _ _ => rfl) ⟨hb2, by simpa [Draw.upd] using hg⟩
        · have n4 := q.n4
          have m3 := q.m3
          have m4 := q.m4
          go_simp
          exact hk γ w2 (fun _ _ => rfl) ⟨hb2, by simpa [Draw.upd] using hg⟩
        · have c2 := ((hw.below (below_of hb2 hb)).at_ (4 * r + k / 4) (by omega)).cell (j := k % 4) (by omega)
          rw [show 4 * (4 * r + k / 4) + k % 4 = 16 * r + k from by omega] at c2
          go_simp
          exact hk γ w2 (fun _ _ => rfl) ⟨hb2, by simpa [Draw.upd] using hg⟩
        · have hX := w_xor
          go_simp
          exact hk γ w2 (fun _ _ => rfl) ⟨hb2, by simpa [Draw.upd] using hg⟩
        · go_simp
          exact hk w2.heap.size _ (fun j hj => by rcases j with _|_|_|_|_|_|_|_|_|_|_|_|_|_|_|_|_|_|_|j <;> first | rfl | (rw [hD] at hj; cases hj)) ⟨hb2.alloc hb2.size _, fun _ => new_alloc⟩
      · simp only [Draw.puts, List.take_succ_cons, List.take_zero, List.drop_succ_cons, List.drop_zero, List.drop_nil, if_true, Act.put, List.setIfInBounds_toArray, List.set_cons_zero, List.set_cons_succ, Nat.zero_add, Nat.reduceAdd, List.getD_cons_zero, List.getD_cons_succ]
        rintro g w2 ⟨hb2, hg⟩
        replace hg := hg (by decide)
        have hA := own_below ho hb2
        have hbb := below_of hb2 hb
        refine wpList_append_own _ rfl _ _ 30 rfl w.heap.size 5 i0 _ 1 1 Try.underlying30 hi hz0 hz1 hz2 rfl (by decide) _ _ _ rfl hA ⟨g, 0, none⟩ 1 1 [byt (xr (x k) (W (16 * r + k)))] rfl rfl ?c1 ?c2 ?c3 ?c4 ?c5 ?_
        case c1 =>
          intro j u hj
          have hadd : (⟨g, 0, none⟩ : Addr).add j = ⟨g, j, none⟩ := by unfold Addr.add; split <;> simp_all
          rw [hadd, cell_of hg j]
          simpa using hj
        case c2 =>
          intro u hu
          simp at hu
          subst hu
          rfl
        case c3 => unfold maxLen; omega
        case c4 => omega
        case c5 => exact hbb.size
        intro v' W3 hrow hgr _
        have hb3 := hbb.grown hgr hbb.size (fun j hj => (hA.lt j hj).1)
        rw [← bl_succ] at hrow
        clear hA hgr ho hb hb2 hg hbb
        go_wp2_with fail
        go_roundw
        case rel => exact ⟨k + 1, by omega, by go_num, hrow, hb3⟩
        case measure => simp [intOf]; omega
    · obtain rfl : k = 16 := by omega
      obtain ⟨g, cap, rfl, hg, _, hB⟩ := own_bytes ho (by omega)
      clear ho
      go_wp2_with fail
      go_ret
      exact ⟨g, cap, rfl, hg, hB.ext fun j hj => by simp [addN, hj], hb⟩

end Go.Proofs.Ytgmnigobappjbaa
