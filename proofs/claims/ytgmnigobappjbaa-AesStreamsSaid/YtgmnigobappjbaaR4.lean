/- The contract of the document's schedule. Conditions: none. -/
import Derived.Test.YtgmnigobappjbaaSw
namespace Go.Proofs.Ytgmnigobappjbaa
open Go.RowKit

/-- The numbers of a key's word. -/
structure KeyQ (k : Nat) : Prop where
  v0 : IntKind.i64.wrap (4 * (k : Int)) = 4 * (k : Int)
  v1 : IntKind.i64.wrap (4 * (k : Int) + 1) = 4 * (k : Int) + 1
  v2 : IntKind.i64.wrap (4 * (k : Int) + 2) = 4 * (k : Int) + 2
  v3 : IntKind.i64.wrap (4 * (k : Int) + 3) = 4 * (k : Int) + 3
  n0 : (4 * (k : Int)).toNat = 4 * k
  a0 : 0 ≤ 4 * (k : Int)
  b0 : 4 * (k : Int) < 32
  n1 : (4 * (k : Int) + 1).toNat = 4 * k + 1
  a1 : 0 ≤ 4 * (k : Int) + 1
  b1 : 4 * (k : Int) + 1 < 32
  n2 : (4 * (k : Int) + 2).toNat = 4 * k + 2
  a2 : 0 ≤ 4 * (k : Int) + 2
  b2 : 4 * (k : Int) + 2 < 32
  n3 : (4 * (k : Int) + 3).toNat = 4 * k + 3
  a3 : 0 ≤ 4 * (k : Int) + 3
  b3 : 4 * (k : Int) + 3 < 32
theorem keyQ (k : Nat) (hk : k < 8) : KeyQ k :=
  ⟨IntWalk.i64_in _ (by omega), IntWalk.i64_in _ (by omega), IntWalk.i64_in _ (by omega), IntWalk.i64_in _ (by omega), by omega, by omega, by omega, by omega, by omega, by omega, by omega, by omega, by omega, by omega, by omega, by omega⟩
theorem key_cell {w : World} {b k : Nat} {key : Nat → UInt8} (h : w.heap[b]? = some (.cells (arr 32 key) 22)) (hk : k < 8) (j : Nat) (hj : j < 4) : w.cell? ⟨b, 4 * k + j, none⟩ = some (byt (wK key (4 * k + j))) := by
  rw [wK_key key (by omega)]
  exact (cell_of h _).trans (arr_at (by omega))

set_option maxRecDepth 100000 in
set_option maxHeartbeats 8000000 in
theorem sched_any (key : Nat → UInt8) (gs cs : Nat) (w : World) (hS : BytesAt w gs 256 sN) :
    Calls Try.prog 21 #[.agg (arr 32 key), .slice (some ⟨gs, 0, none⟩) 256 cs] w fun e w' => ∃ v, e = .returned v ∧ Words w' w.heap.size v 60 (wK key) ∧ Below w.heap.size w w' := by
  have h1 : (w.alloc (.cells (arr 32 key) 22)).heap[w.heap.size]? = some (.cells (arr 32 key) 22) := new_alloc
  have hb0 : Below w.heap.size w (w.alloc (.cells (arr 32 key) 22)) := (Below.refl _ _).alloc (Nat.le_refl _) _
  go_enter Try.func21, Try.ntmps21
  go_wp2_with fail
  go_loopw [5, 6] (fun a5 a6 wr => ∃ k : Nat, k ≤ 8 ∧ a6 = .int .i64 k ∧ wr.heap[w.heap.size]? = some (.cells (arr 32 key) 22) ∧ Words wr w.heap.size a5 k (wK key) ∧ Below w.heap.size w wr) (fun _ a6 _ => 8 - (intOf a6).toNat)
  case atStart => exact ⟨0, by omega, rfl, h1, ⟨fun _ => 0, fun _ => 0, World.ownsRow_nil _ _ _ _, fun i hi => by omega⟩, hb0⟩
  case round =>
    clear h1 hb0
    obtain ⟨k, hk, rfl, hK, hW, hb⟩ := hrel
    by_cases hlt : k < 8
    · go_wp2_with fail
      rw [show decide ((k : Int) < 8) = true from decide_eq_true (by omega)]
      have q := keyQ k hlt
      refine Draw.wp_region_ghosts mixed 22 26 (by kernel_rfl) ((0, 0) : Nat × Nat)
        (fun γ i => ([u5, .int .i64 (k : Int), .int .i64 (4 * (k : Int)), .pointer (some ⟨w.heap.size, 4 * k, none⟩), byt (wK key (4 * k + 0)), .int .i64 (k : Int), .int .i64 (4 * (k : Int)), .int .i64 (4 * (k : Int) + 1), .pointer (some ⟨w.heap.size, 4 * k + 1, none⟩), byt (wK key (4 * k + 1)), .int .i64 (k : Int), .int .i64 (4 * (k : Int)), .int .i64 (4 * (k : Int) + 2), .pointer (some ⟨w.heap.size, 4 * k + 2, none⟩), byt (wK key (4 * k + 2)), .int .i64 (k : Int), .int .i64 (4 * (k : Int)), .int .i64 (4 * (k : Int) + 3), .pointer (some ⟨w.heap.size, 4 * k + 3, none⟩), byt (wK key (4 * k + 3)), .slice (some ⟨γ.1, 0, none⟩) 4 4, .slice (some ⟨γ.2, 0, none⟩) 1 1] : List Value).getD i undef)
        _ (fun _ => rfl)
        (fun D γ w' => Below wr.heap.size wr w' ∧ (D 20 = true → w'.heap[γ.1]? = some (.cells #[byt (wK key (4 * k + 0)), byt (wK key (4 * k + 1)), byt (wK key (4 * k + 2)), byt (wK key (4 * k + 3))] 5)) ∧ (D 21 = true → D 20 = true ∧ w'.heap[γ.2]? = some (.cells #[.slice (some ⟨γ.1, 0, none⟩) 4 4] 30)))
        ⟨(Below.refl _ _).drew, fun h => absurd h Bool.false_ne_true, fun h => absurd h Bool.false_ne_true⟩ ?_ ?_
      · simp only [Draw.puts, List.take_succ_cons, List.take_zero, if_true, Act.put, List.setIfInBounds_toArray, List.set_cons_zero, List.set_cons_succ, Nat.zero_add, Nat.reduceAdd, List.getD_cons_zero, List.getD_cons_succ]
        refine ⟨?_, ?_, ?_, ?_, ?_, ?_, ?_, ?_, ?_, ?_, ?_, ?_, ?_, ?_, ?_, ?_, ?_, ?_, ?_, ?_, ?_, ?_, trivial⟩
        all_goals rintro D γ w2 hD hpre ⟨hb2, hg1, hg2⟩
        all_goals refine .inl ⟨rfl, fun K' hk => ?_⟩
        · go_simp
          exact hk γ w2 (fun _ _ => rfl) ⟨hb2, by simpa [Draw.upd] using hg1, by simpa [Draw.upd] using hg2⟩
        · go_simp
          exact hk γ w2 (fun _ _ => rfl) ⟨hb2, by simpa [Draw.upd] using hg1, by simpa [Draw.upd] using hg2⟩
        · go_simp
          rw [q.v0]
          exact hk γ w2 (fun _ _ => rfl) ⟨hb2, by simpa [Draw.upd] using hg1, by simpa [Draw.upd] using hg2⟩
        · have n3 := q.n0
          have m1 := q.a0
          have m2 := q.b0
          go_simp
          exact hk γ w2 (fun _ _ => rfl) ⟨hb2, by simpa [Draw.upd] using hg1, by simpa [Draw.upd] using hg2⟩
        · have c0 := key_cell (kept hb2 hK) hlt 0 (by omega)
          rw [Nat.add_zero] at c0
          go_simp
          exact hk γ w2 (fun _ _ => rfl) ⟨hb2, by simpa [Draw.upd] using hg1, by simpa [Draw.upd] using hg2⟩
        · go_simp
          exact hk γ w2 (fun _ _ => rfl) ⟨hb2, by simpa [Draw.upd] using hg1, by simpa [Draw.upd] using hg2⟩
        · go_simp
          rw [q.v0]
          exact hk γ w2 (fun _ _ => rfl) ⟨hb2, by simpa [Draw.upd] using hg1, by simpa [Draw.upd] using hg2⟩
        · go_simp
          rw [q.v1]
          exact hk γ w2 (fun _ _ => rfl) ⟨hb2, by simpa [Draw.upd] using hg1, by simpa [Draw.upd] using hg2⟩
        · have n3 := q.n1
          have m1 := q.a1
          have m2 := q.b1
          go_simp
          exact hk γ w2 (fun _ _ => rfl) ⟨hb2, by simpa [Draw.upd] using hg1, by simpa [Draw.upd] using hg2⟩
        · have c0 := key_cell (kept hb2 hK) hlt 1 (by omega)
          go_simp
          exact hk γ w2 (fun _ _ => rfl) ⟨hb2, by simpa [Draw.upd] using hg1, by simpa [Draw.upd] using hg2⟩
        · go_simp
          exact hk γ w2 (fun _ _ => rfl) ⟨hb2, by simpa [Draw.upd] using hg1, by simpa [Draw.upd] using hg2⟩
        · go_simp
          rw [q.v0]
          exact hk γ w2 (fun _ _ => rfl) ⟨hb2, by simpa [Draw.upd] using hg1, by simpa [Draw.upd] using hg2⟩
        · go_simp
          rw [q.v2]
          exact hk γ w2 (fun _ _ => rfl) ⟨hb2, by simpa [Draw.upd] using hg1, by simpa [Draw.upd] using hg2⟩
        · have n3 := q.n2
          have m1 := q.a2
          have m2 := q.b2
          go_simp
          exact hk γ w2 (fun _ _ => rfl) ⟨hb2, by simpa [Draw.upd] using hg1, by simpa [Draw.upd] using hg2⟩
        · have c0 := key_cell (kept hb2 hK) hlt 2 (by omega)
          go_simp
          exact hk γ w2 (fun _ _ => rfl) ⟨hb2, by simpa [Draw.upd] using hg1, by simpa [Draw.upd] using hg2⟩
        · go_simp
          exact hk γ w2 (fun _ _ => rfl) ⟨hb2, by simpa [Draw.upd] using hg1, by simpa [Draw.upd] using hg2⟩
        · go_simp
          rw [q.v0]
          exact hk γ w2 (fun _ _ => rfl) ⟨hb2, by simpa [Draw.upd] using hg1, by simpa [Draw.upd] using hg2⟩
        · go_simp
          rw [q.v3]
          exact hk γ w2 (fun _ _ => rfl) ⟨hb2, by simpa [Draw.upd] using hg1, by simpa [Draw.upd] using hg2⟩
        · have n3 := q.n3
          have m1 := q.a3
          have m2 := q.b3
          go_simp
          exact hk γ w2 (fun _ _ => rfl) ⟨hb2, by simpa [Draw.upd] using hg1, by simpa [Draw.upd] using hg2⟩
        · have c0 := key_cell (kept hb2 hK) hlt 3 (by omega)
          go_simp
          exact hk γ w2 (fun _ _ => rfl) ⟨hb2, by simpa [Draw.upd] using hg1, by simpa [Draw.upd] using hg2⟩
        · go_simp
          exact hk (w2.heap.size, γ.2) _ (fun j hj => by rcases j with _|_|_|_|_|_|_|_|_|_|_|_|_|_|_|_|_|_|_|_|_|_|j <;> first | rfl | (rw [hD] at hj; cases hj)) ⟨hb2.alloc hb2.size _, fun _ => new_alloc, fun h => absurd (hg2 (by simpa [Draw.upd] using h)).1 (by rw [hD]; exact Bool.false_ne_true)⟩
        · have hD20 := hpre 20 (by decide +kernel)
          go_simp
          exact hk (γ.1, w2.heap.size) _ (fun j hj => by rcases j with _|_|_|_|_|_|_|_|_|_|_|_|_|_|_|_|_|_|_|_|_|_|j <;> first | rfl | (rw [hD] at hj; cases hj)) ⟨hb2.alloc hb2.size _, fun _ => old_alloc (hg1 hD20), fun _ => ⟨by simpa [Draw.upd] using hD20, new_alloc⟩⟩
      · simp only [Draw.puts, List.take_succ_cons, List.take_zero, List.drop_succ_cons, List.drop_zero, if_true, Act.put, List.setIfInBounds_toArray, List.set_cons_zero, List.set_cons_succ, Nat.zero_add, Nat.reduceAdd, List.getD_cons_zero, List.getD_cons_succ]
        rintro γ w2 ⟨hb2, hg1, hg2⟩
        replace hg1 := hg1 (by decide)
        replace hg2 := (hg2 (by decide)).2
        have hbb := below_of hb2 hb
        have hW2 := hW.below hb2
        have hK2 := kept hb2 hK
        obtain ⟨g1, g2⟩ := γ
        simp only at hg1 hg2
        have hB1 : BytesAt w2 g1 4 (fun j => wK key (4 * k + j)) := ⟨_, hg1, by simp, fun j hj => by
          have h4 : j = 0 ∨ j = 1 ∨ j = 2 ∨ j = 3 := by omega
          rcases h4 with rfl | rfl | rfl | rfl <;> rfl⟩
        obtain ⟨H, K, ho, hBs⟩ := hW2.ex
        obtain ⟨i0, hi, hz0, hz1, hz2⟩ := info30
        refine wpList_append_own _ rfl _ _ 46 rfl w.heap.size 30 i0 _ 1 24 Try.underlying46 hi hz0 hz1 hz2 rfl (by decide) _ _ _ rfl ho ⟨g2, 0, none⟩ 1 1 [.slice (some ⟨g1, 0, none⟩) 4 4] rfl rfl ?c1 ?c2 ?c3 ?c4 ?c5 ?_
        case c1 =>
          intro j u hj
          have hadd : (⟨g2, 0, none⟩ : Addr).add j = ⟨g2, j, none⟩ := by unfold Addr.add; split <;> simp_all
          rw [hadd, cell_of hg2 j]
          simpa using hj
        case c2 =>
          intro u hu
          simp at hu
          subst hu
          rfl
        case c3 => unfold maxLen; omega
        case c4 => omega
        case c5 => exact hbb.size
        intro v' W3 hrow hgr _
        have hb3 := hbb.grown hgr hbb.size (fun j hj => (ho.lt j hj).1)
        have hK3 := (hgr.block _ (lt_of_heap hK2) (own_ne' ho hK2 (by decide))).trans hK2
        have hW3 := Words.more ho hBs hB1 hgr hrow
        clear ho hBs hB1 hgr hrow hg1 hg2 hW2 hK2 hb2 hbb
        go_wp2_with fail
        go_roundw
        case rel => exact ⟨k + 1, by omega, by go_num, hK3, hW3, hb3⟩
        case measure => simp [intOf]; omega
    · obtain rfl : k = 8 := by omega
      clear hK
      go_wp2_with fail
      go_loopw [5, 7, 8, 9, 10, 11, 12] (fun a5 a7 a8 a9 a10 a11 a12 wr => ∃ i : Nat, 8 ≤ i ∧ i ≤ 60 ∧ a7 = .int .i64 i ∧ Words wr w.heap.size a5 i (wK key) ∧ Below w.heap.size w wr) (fun _ a7 _ _ _ _ _ _ => 60 - (intOf a7).toNat)
      case atStart => exact ⟨8, by omega, by omega, rfl, hW, hb⟩
      case round =>
        clear hW hb
        obtain ⟨i, hi8, hi, rfl, hW, hb⟩ := hrel
        obtain ⟨wo, rfl⟩ : ∃ wo : World, wo = wr := ⟨_, rfl⟩
        by_cases hlt : i < 60
        · obtain ⟨gw, gcap, H, K, rfl, hgw, hA⟩ := hW.at_ (by omega)
          have hS0 := hS.below hb
          have gb1 : Below wo.heap.size wo (wo.alloc (.cells #[] 5)) := (Below.refl _ _).alloc (Nat.le_refl _) _
          have hA1 := hA.below gb1
          have c0 := hA1.cell (i := i - 1) (by omega)
          obtain ⟨j0, hj0, hy0, hy1, hy2⟩ := info5'
          have ho0 : (wo.alloc (.cells #[] 5)).ownsRow wo.heap.size 5 1 (.slice (some ⟨wo.heap.size, 0, none⟩) 0 0) 0 [] := ⟨rfl, .inr ⟨wo.heap.size, 0, #[], rfl, Nat.le_refl _, new_alloc, Nat.le_refl _, by unfold maxLen; omega, rfl, rfl⟩⟩
          go_wp2_with (at_builtin; refine wpList_append_own _ rfl _ _ 30 rfl wo.heap.size 5 j0 _ 1 1 Try.underlying30 hj0 hy0 hy1 hy2 rfl (by decide) _ _ _ rfl ho0 ⟨H (i - 1), 0, none⟩ 4 (K (i - 1)) (bl 4 (pvN (wK key) i)) rfl rfl ?c1 ?c2 ?c3 ?c4 ?c5 ?_)
          case c1 =>
            intro j u hj
            have hadd : (⟨H (i - 1), 0, none⟩ : Addr).add j = ⟨H (i - 1), j, none⟩ := by unfold Addr.add; split <;> simp_all
            have hjl : j < 4 := by
              have := (List.getElem?_eq_some_iff.1 hj).1
              rwa [bl_len] at this
            rw [bl_at hjl] at hj
            rw [hadd, ← hj]
            exact (hA1.at_ (i - 1) (by omega)).cell hjl
          case c2 =>
            intro u hu
            unfold bl at hu
            obtain ⟨j, _, rfl⟩ := List.mem_map.1 hu
            rfl
          case c3 => unfold maxLen; omega
          case c4 => omega
          case c5 => exact gb1.size
          intro v' W1 hrow hgr _
          have gB := gb1.grown hgr gb1.size (fun j hj => (ho0.lt j hj).1)
          try simp only [Nat.zero_add, List.nil_append] at hrow
          obtain ⟨gt, tcap, rfl, hgt, _, hT⟩ := own_bytes hrow (by omega)
          clear hrow hgr ho0 hA1 gb1 c0
          by_cases h8 : (i : Int) % 8 = 0
          · have hn8 : i % 8 = 0 := by omega
            have hn4 : i % 4 = 0 := by omega
            go_wp2_with fail
            rw [h8]
            refine Draw.wp_region_ghosts mixed 13 16 (by kernel_rfl) (0 : Nat)
              (fun g ix => ([.slice (some ⟨gt, 0, none⟩) 4 tcap, .pointer (some ⟨gt, 1, none⟩), byt (pvN (wK key) i 1), .slice (some ⟨gt, 0, none⟩) 4 tcap, .pointer (some ⟨gt, 2, none⟩), byt (pvN (wK key) i 2), .slice (some ⟨gt, 0, none⟩) 4 tcap, .pointer (some ⟨gt, 3, none⟩), byt (pvN (wK key) i 3), .slice (some ⟨gt, 0, none⟩) 4 tcap, .pointer (some ⟨gt, 0, none⟩), byt (pvN (wK key) i 0), .slice (some ⟨g, 0, none⟩) 4 4] : List Value).getD ix undef)
              _ (fun _ => rfl)
              (fun D g w' => Below W1.heap.size W1 w' ∧ (D 12 = true → W1.heap.size ≤ g ∧ w'.heap[g]? = some (.cells #[byt (pvN (wK key) i 1), byt (pvN (wK key) i 2), byt (pvN (wK key) i 3), byt (pvN (wK key) i 0)] 5)))
              ⟨(Below.refl _ _).drew, fun h => absurd h Bool.false_ne_true⟩ ?_ ?_
            · simp only [Draw.puts, List.take_succ_cons, List.take_zero, if_true, Act.put, List.setIfInBounds_toArray, List.set_cons_zero, List.set_cons_succ, Nat.zero_add, Nat.reduceAdd, List.getD_cons_zero, List.getD_cons_succ]
              refine ⟨?_, ?_, ?_, ?_, ?_, ?_, ?_, ?_, ?_, ?_, ?_, ?_, ?_, trivial⟩
              all_goals rintro D γ w2 hD hpre ⟨hb2, hg1⟩
              all_goals refine .inl ⟨rfl, fun K' hk => ?_⟩
              · go_simp
                exact hk γ w2 (fun _ _ => rfl) ⟨hb2, by simpa [Draw.upd] using hg1⟩
              · go_simp
                exact hk γ w2 (fun _ _ => rfl) ⟨hb2, by simpa [Draw.upd] using hg1⟩
              · have c0 := (hT.below hb2).cell (j := 1) (by omega)
                go_simp
                exact hk γ w2 (fun _ _ => rfl) ⟨hb2, by simpa [Draw.upd] using hg1⟩
              · go_simp
                exact hk γ w2 (fun _ _ => rfl) ⟨hb2, by simpa [Draw.upd] using hg1⟩
              · go_simp
                exact hk γ w2 (fun _ _ => rfl) ⟨hb2, by simpa [Draw.upd] using hg1⟩
              · have c0 := (hT.below hb2).cell (j := 2) (by omega)
                go_simp
                exact hk γ w2 (fun _ _ => rfl) ⟨hb2, by simpa [Draw.upd] using hg1⟩
              · go_simp
                exact hk γ w2 (fun _ _ => rfl) ⟨hb2, by simpa [Draw.upd] using hg1⟩
              · go_simp
                exact hk γ w2 (fun _ _ => rfl) ⟨hb2, by simpa [Draw.upd] using hg1⟩
              · have c0 := (hT.below hb2).cell (j := 3) (by omega)
                go_simp
                exact hk γ w2 (fun _ _ => rfl) ⟨hb2, by simpa [Draw.upd] using hg1⟩
              · go_simp
                exact hk γ w2 (fun _ _ => rfl) ⟨hb2, by simpa [Draw.upd] using hg1⟩
              · go_simp
                exact hk γ w2 (fun _ _ => rfl) ⟨hb2, by simpa [Draw.upd] using hg1⟩
              · have c0 := (hT.below hb2).cell (j := 0) (by omega)
                go_simp
                exact hk γ w2 (fun _ _ => rfl) ⟨hb2, by simpa [Draw.upd] using hg1⟩
              · go_simp
                exact hk w2.heap.size _ (fun j hj => by rcases j with _|_|_|_|_|_|_|_|_|_|_|_|_|j <;> first | rfl | (rw [hD] at hj; cases hj)) ⟨hb2.alloc hb2.size _, fun _ => ⟨hb2.size, new_alloc⟩⟩
            · simp only [Draw.puts, List.take_succ_cons, List.take_zero, List.drop_succ_cons, List.drop_zero, if_true, Act.put, List.setIfInBounds_toArray, List.set_cons_zero, List.set_cons_succ, Nat.zero_add, Nat.reduceAdd, List.getD_cons_zero, List.getD_cons_succ]
              rintro g w2 ⟨hb2, hg1⟩
              obtain ⟨hg0, hg1⟩ := hg1 (by decide)
              have gB2 := below_of hb2 gB
              have hgg : wo.heap.size ≤ g := by
                have := gB.size
                omega
              have hT2 : BytesAt w2 g 4 (trN (wK key) i) := by
                rw [trN_turn (wK key) hn8] at hg1
                exact ⟨_, hg1, by rw [arr_size]; omega, fun j hj => arr_at hj⟩
              clear hT gB hgt hg1
              obtain ⟨gt, rfl⟩ : ∃ gt : Nat, gt = g := ⟨_, rfl⟩
              have hgt := hgg
              have hT := hT2
              have gB := gB2
              obtain ⟨tcap, htc⟩ : ∃ tcap : Nat, tcap = 4 := ⟨_, rfl⟩
              clear hgg hT2 gB2 hb2
              go_wp2_with fail
              go_loopw [9] (fun a9 wr => ∃ k : Nat, k ≤ 4 ∧ a9 = .int .i64 k ∧ BytesAt wr gt 4 (ssN (wK key) i k) ∧ Below wo.heap.size wo wr) (fun a9 _ => 4 - (intOf a9).toNat)
              case atStart => exact ⟨0, by omega, rfl, hT.ext fun j hj => rfl, gB⟩
              case round =>
                clear hT gB
                obtain ⟨k, hk, rfl, hT, gB⟩ := hrel
                by_cases hk4 : k < 4
                · have c0 := hT.cell hk4
                  rw [ssN_here] at c0
                  have f0 := hT.free k
                  have hp0 := (trN (wK key) i k).toNat_lt
                  have c1 : wr.cell? ⟨gs, (trN (wK key) i k).toNat, none⟩ = some (byt (sx (trN (wK key) i k))) := (hS0.below gB).cell hp0
                  go_wp2_with fail
                  go_roundw
                  case rel =>
                    have hnew : BytesAt (wr.setCell ⟨gt, k, none⟩ (byt (sx (trN (wK key) i k)))) gt 4 (ssN (wK key) i (k + 1)) := (hT.set _).ext fun j hj => by rw [ssN_step]
                    first | exact ⟨k + 1, by omega, by go_num, hnew, gB.setCell hgt _⟩ | ((repeat apply Exists.intro); exact ⟨⟨k + 1, by omega, by go_num, hnew, gB.setCell hgt _⟩, rfl⟩)
                  case measure => simp [intOf]; omega
                · obtain rfl : k = 4 := by omega
                  replace hT : BytesAt wr gt 4 (tsN (wK key) i) := hT.ext (arr_inj (ssN_end (wK key) hn4))
                  go_wp2_with fail
                  go_loopw [10, 11] (fun a10 a11 wq => ∃ k : Nat, 1 ≤ k ∧ k ≤ i / 8 ∧ a11 = .int .i64 k ∧ a10 = byt (pwN (k - 1)) ∧ wq = wr) (fun _ a11 _ => i / 8 - (intOf a11).toNat)
                  case atStart => exact ⟨1, by omega, by omega, rfl, rfl, rfl⟩
                  case round =>
                    obtain ⟨k, hk1, hk, rfl, rfl, rfl⟩ := hrel
                    by_cases hk8 : k < i / 8
                    · have hpw : twi (pwN (k - 1)) = pwN (k + 1 - 1) := by
                        rw [show k + 1 - 1 = (k - 1) + 1 from by omega]
                        rfl
                      replace hpw := hide hpw
                      go_wp2_with fail
                      refine (times_any (pwN (k - 1)) 2 _).mono ?_
                      rintro e w3 ⟨rfl, rfl⟩
                      rw [two_tim, hpw.out]
                      go_wp2_with fail
                      go_roundw
                      case rel => first | exact ⟨k + 1, by omega, by omega, by go_num, rfl, by trivial⟩ | ((repeat apply Exists.intro); refine ⟨⟨k + 1, by omega, by omega, by go_num, rfl, by trivial⟩, ?_⟩; simp only [h8]; rfl)
                      case measure => simp [intOf]; omega
                    · obtain rfl : k = i / 8 := by omega
                      rw [show i / 8 - 1 = (i - 1) / 8 from by omega]
                      have c0 := hT.cell (j := 0) (by omega)
                      have f0 := hT.free 0
                      have hX := w_xor
                      have hTn : BytesAt (wr.setCell ⟨gt, 0, none⟩ (byt (xr (tsN (wK key) i 0) (pwN ((i - 1) / 8))))) gt 4 (tN (wK key) i) := by
                        have h := hT.set (i := 0) (xr (tsN (wK key) i 0) (pwN ((i - 1) / 8)))
                        rw [tN_turn (wK key) hn8] at h
                        exact h
                      have gBn := gB.setCell hgt (p := ⟨gt, 0, none⟩) (byt (xr (tsN (wK key) i 0) (pwN ((i - 1) / 8))))
                      go_wp2_with fail
                      clear hT gB c0 f0 hX
                      have hT := hTn
                      have gB := gBn
                      clear hTn gBn
                      go_loopw [12] (fun a12 wr => ∃ k : Nat, k ≤ 4 ∧ a12 = .int .i64 k ∧ BytesAt wr gt 4 (fun j => if j < k then wK key (4 * i + j) else tN (wK key) i j) ∧ Below wo.heap.size wo wr) (fun a12 _ => 4 - (intOf a12).toNat)
                      case atStart => exact ⟨0, by omega, rfl, hT.ext fun j hj => by rw [if_neg (by omega)], gB⟩
                      case round =>
                        clear hT gB
                        obtain ⟨k, hk, rfl, hT, gB⟩ := hrel
                        by_cases hk4 : k < 4
                        · have m1 : (8 : Int) ≤ i := by omega
                          have m2 : (i : Int) - 8 < 60 := by omega
                          have m2' : (i : Int) - 8 < i := by omega
                          have m3 : (k : Int) < 4 := by omega
                          have n1 : ((i : Int) - 8).toNat = i - 8 := by omega
                          have v1 : IntKind.i64.wrap ((i : Int) - 8) = (i : Int) - 8 := IntWalk.i64_in _ (by omega)
                          have c0 := hT.cell hk4
                          rw [if_neg (by omega)] at c0
                          have c1 := (hA.below gB).cell (i := i - 8) (by omega)
                          have c2 := ((hA.below gB).at_ (i - 8) (by omega)).cell hk4
                          have hX := w_xor
                          go_wp2_with fail
                          go_still_tail 16, mixed
                          clear m1 m2 m2' m3 n1 v1 c0 c1 c2 hX
                          change wpList _ _ _ _ _ wr.drew
                          have c0 : wr.drew.cell? ⟨gt, k, none⟩ = some (byt (tN (wK key) i k)) := by
                            have h := hT.cell hk4
                            rw [if_neg (by omega)] at h
                            exact h
                          have f0 : wr.drew.frozen? ⟨gt, k, none⟩ = false := hT.free k
                          go_wp2_with fail
                          go_roundw
                          case rel =>
                            have hnew : BytesAt (wr.setCell ⟨gt, k, none⟩ (byt (xr (tN (wK key) i k) (wK key (4 * (i - 8) + k))))) gt 4 (fun j => if j < k + 1 then wK key (4 * i + j) else tN (wK key) i j) := (hT.set _).ext fun j hj => by
                              unfold upd8
                              by_cases e : j = k
                              · subst e
                                rw [if_pos rfl, if_pos (by omega), wK_step key hi8 hk4, xr_comm]
                              · rw [if_neg e]
                                show (if j < k then wK key (4 * i + j) else tN (wK key) i j) = _
                                by_cases h2 : j < k
                                · rw [if_pos h2, if_pos (by omega)]
                                · rw [if_neg h2, if_neg (by omega)]
                            first | exact ⟨k + 1, by omega, by go_num, hnew.same rfl, (gB.setCell hgt _).drew⟩ | ((repeat apply Exists.intro); refine ⟨⟨k + 1, by omega, by go_num, hnew.same rfl, (gB.setCell hgt _).drew⟩, ?_⟩; simp only [h8]; rfl)
                          case measure => simp [intOf]; omega
                        · obtain rfl : k = 4 := by omega
                          have hT4 : BytesAt wr gt 4 (fun j => wK key (4 * i + j)) := hT.ext fun j hj => by rw [if_pos hj]
                          obtain ⟨H2, K2, ho, hBs⟩ := (hW.below gB).ex
                          obtain ⟨i0, hi0, hz0, hz1, hz2⟩ := info30
                          have hbb := hb.trans (gB.mono hb.size)
                          have hnw := new_alloc (w := wr) (o := .cells #[.slice (some ⟨gt, 0, none⟩) 4 4] 30)
                          have hal : Below wr.heap.size wr (wr.alloc (.cells #[.slice (some ⟨gt, 0, none⟩) 4 4] 30)) := (Below.refl _ _).alloc (Nat.le_refl _) _
                          have ho2 := own_below ho hal
                          have hbb2 := below_of hal hbb
                          clear hT
                          go_wp2_with (at_builtin; refine wpList_append_own _ rfl _ _ 46 rfl w.heap.size 30 i0 _ 1 24 Try.underlying46 hi0 hz0 hz1 hz2 rfl (by decide) _ _ _ rfl ho2 ⟨wr.heap.size, 0, none⟩ 1 1 [.slice (some ⟨gt, 0, none⟩) 4 4] rfl rfl ?c1 ?c2 ?c3 ?c4 ?c5 ?_)
                          case c1 =>
                            intro j u hj
                            have hadd : (⟨wr.heap.size, 0, none⟩ : Addr).add j = ⟨wr.heap.size, j, none⟩ := by unfold Addr.add; split <;> simp_all
                            rw [hadd, cell_of hnw j]
                            simpa using hj
                          case c2 =>
                            intro u hu
                            simp at hu
                            subst hu
                            rfl
                          case c3 => unfold maxLen; omega
                          case c4 => omega
                          case c5 => exact hbb2.size
                          intro v' W3 hrow hgr _
                          have hb3 := hbb2.grown hgr hbb2.size (fun j hj => (ho2.lt j hj).1)
                          have hW3 := Words.more ho2 (fun i hi => (hBs i hi).below hal) (hT4.below hal) hgr hrow
                          clear ho ho2 hBs hT4 hgr hrow hnw hal hbb hbb2 gB
                          go_wp2_with fail
                          go_roundw
                          case rel => first | exact ⟨i + 1, by omega, by omega, by go_num, hW3, hb3⟩ | ((repeat apply Exists.intro); exact ⟨⟨i + 1, by omega, by omega, by go_num, hW3, hb3⟩, rfl⟩)
                          case measure => simp [intOf]; omega
          by_cases h4 : (i : Int) % 4 = 0
          · have hn8 : ¬ i % 8 = 0 := by omega
            have hn4 : i % 4 = 0 := by omega
            have h84 : (i : Int) % 8 = 4 := by omega
            go_wp2_with fail
            rw [← trN_skip (wK key) hn8] at hT
            go_loopw [9] (fun a9 wr => ∃ k : Nat, k ≤ 4 ∧ a9 = .int .i64 k ∧ BytesAt wr gt 4 (ssN (wK key) i k) ∧ Below wo.heap.size wo wr) (fun a9 _ => 4 - (intOf a9).toNat)
            case atStart => exact ⟨0, by omega, rfl, hT.ext fun j hj => rfl, gB⟩
            case round =>
              clear hT gB
              obtain ⟨k, hk, rfl, hT, gB⟩ := hrel
              by_cases hk4 : k < 4
              · have c0 := hT.cell hk4
                rw [ssN_here] at c0
                have f0 := hT.free k
                have hp0 := (trN (wK key) i k).toNat_lt
                have c1 : wr.cell? ⟨gs, (trN (wK key) i k).toNat, none⟩ = some (byt (sx (trN (wK key) i k))) := (hS0.below gB).cell hp0
                go_wp2_with fail
                go_roundw
                case rel =>
                  have hnew : BytesAt (wr.setCell ⟨gt, k, none⟩ (byt (sx (trN (wK key) i k)))) gt 4 (ssN (wK key) i (k + 1)) := (hT.set _).ext fun j hj => by rw [ssN_step]
                  first | exact ⟨k + 1, by omega, by go_num, hnew, gB.setCell hgt _⟩ | ((repeat apply Exists.intro); exact ⟨⟨k + 1, by omega, by go_num, hnew, gB.setCell hgt _⟩, rfl⟩)
                case measure => simp [intOf]; omega
              · obtain rfl : k = 4 := by omega
                replace hT : BytesAt wr gt 4 (tsN (wK key) i) := hT.ext (arr_inj (ssN_end (wK key) hn4))
                rw [← tN_skip (wK key) hn8] at hT
                go_wp2_with fail
                go_loopw [12] (fun a12 wr => ∃ k : Nat, k ≤ 4 ∧ a12 = .int .i64 k ∧ BytesAt wr gt 4 (fun j => if j < k then wK key (4 * i + j) else tN (wK key) i j) ∧ Below wo.heap.size wo wr) (fun a12 _ => 4 - (intOf a12).toNat)
                case atStart => exact ⟨0, by omega, rfl, hT.ext fun j hj => by rw [if_neg (by omega)], gB⟩
                case round =>
                  clear hT gB
                  obtain ⟨k, hk, rfl, hT, gB⟩ := hrel
                  by_cases hk4 : k < 4
                  · have m1 : (8 : Int) ≤ i := by omega
                    have m2 : (i : Int) - 8 < 60 := by omega
                    have m2' : (i : Int) - 8 < i := by omega
                    have m3 : (k : Int) < 4 := by omega
                    have n1 : ((i : Int) - 8).toNat = i - 8 := by omega
                    have v1 : IntKind.i64.wrap ((i : Int) - 8) = (i : Int) - 8 := IntWalk.i64_in _ (by omega)
                    have c0 := hT.cell hk4
                    rw [if_neg (by omega)] at c0
                    have c1 := (hA.below gB).cell (i := i - 8) (by omega)
                    have c2 := ((hA.below gB).at_ (i - 8) (by omega)).cell hk4
                    have hX := w_xor
                    go_wp2_with fail
                    go_still_tail 16, mixed
                    clear m1 m2 m2' m3 n1 v1 c0 c1 c2 hX
                    change wpList _ _ _ _ _ wr.drew
                    have c0 : wr.drew.cell? ⟨gt, k, none⟩ = some (byt (tN (wK key) i k)) := by
                      have h := hT.cell hk4
                      rw [if_neg (by omega)] at h
                      exact h
                    have f0 : wr.drew.frozen? ⟨gt, k, none⟩ = false := hT.free k
                    go_wp2_with fail
                    go_roundw
                    case rel =>
                      have hnew : BytesAt (wr.setCell ⟨gt, k, none⟩ (byt (xr (tN (wK key) i k) (wK key (4 * (i - 8) + k))))) gt 4 (fun j => if j < k + 1 then wK key (4 * i + j) else tN (wK key) i j) := (hT.set _).ext fun j hj => by
                        unfold upd8
                        by_cases e : j = k
                        · subst e
                          rw [if_pos rfl, if_pos (by omega), wK_step key hi8 hk4, xr_comm]
                        · rw [if_neg e]
                          show (if j < k then wK key (4 * i + j) else tN (wK key) i j) = _
                          by_cases h2 : j < k
                          · rw [if_pos h2, if_pos (by omega)]
                          · rw [if_neg h2, if_neg (by omega)]
                      first | exact ⟨k + 1, by omega, by go_num, hnew.same rfl, (gB.setCell hgt _).drew⟩ | ((repeat apply Exists.intro); refine ⟨⟨k + 1, by omega, by go_num, hnew.same rfl, (gB.setCell hgt _).drew⟩, ?_⟩; simp only [h84]; rfl)
                    case measure => simp [intOf]; omega
                  · obtain rfl : k = 4 := by omega
                    have hT4 : BytesAt wr gt 4 (fun j => wK key (4 * i + j)) := hT.ext fun j hj => by rw [if_pos hj]
                    obtain ⟨H2, K2, ho, hBs⟩ := (hW.below gB).ex
                    obtain ⟨i0, hi0, hz0, hz1, hz2⟩ := info30
                    have hbb := hb.trans (gB.mono hb.size)
                    have hnw := new_alloc (w := wr) (o := .cells #[.slice (some ⟨gt, 0, none⟩) 4 tcap] 30)
                    have hal : Below wr.heap.size wr (wr.alloc (.cells #[.slice (some ⟨gt, 0, none⟩) 4 tcap] 30)) := (Below.refl _ _).alloc (Nat.le_refl _) _
                    have ho2 := own_below ho hal
                    have hbb2 := below_of hal hbb
                    clear hT
                    go_wp2_with (at_builtin; refine wpList_append_own _ rfl _ _ 46 rfl w.heap.size 30 i0 _ 1 24 Try.underlying46 hi0 hz0 hz1 hz2 rfl (by decide) _ _ _ rfl ho2 ⟨wr.heap.size, 0, none⟩ 1 1 [.slice (some ⟨gt, 0, none⟩) 4 tcap] rfl rfl ?c1 ?c2 ?c3 ?c4 ?c5 ?_)
                    case c1 =>
                      intro j u hj
                      have hadd : (⟨wr.heap.size, 0, none⟩ : Addr).add j = ⟨wr.heap.size, j, none⟩ := by unfold Addr.add; split <;> simp_all
                      rw [hadd, cell_of hnw j]
                      simpa using hj
                    case c2 =>
                      intro u hu
                      simp at hu
                      subst hu
                      rfl
                    case c3 => unfold maxLen; omega
                    case c4 => omega
                    case c5 => exact hbb2.size
                    intro v' W3 hrow hgr _
                    have hb3 := hbb2.grown hgr hbb2.size (fun j hj => (ho2.lt j hj).1)
                    have hW3 := Words.more ho2 (fun i hi => (hBs i hi).below hal) (hT4.below hal) hgr hrow
                    clear ho ho2 hBs hT4 hgr hrow hnw hal hbb hbb2 gB
                    go_wp2_with fail
                    go_roundw
                    case rel => first | exact ⟨i + 1, by omega, by omega, by go_num, hW3, hb3⟩ | ((repeat apply Exists.intro); exact ⟨⟨i + 1, by omega, by omega, by go_num, hW3, hb3⟩, rfl⟩)
                    case measure => simp [intOf]; omega
          · have hn8 : ¬ i % 8 = 0 := by omega
            have hn4 : ¬ i % 4 = 0 := by omega
            have h84 : ¬ (i : Int) % 8 = 4 := by omega
            go_wp2_with fail
            rw [← trN_skip (wK key) hn8, ← tsN_skip (wK key) hn4, ← tN_skip (wK key) hn8] at hT
            go_loopw [12] (fun a12 wr => ∃ k : Nat, k ≤ 4 ∧ a12 = .int .i64 k ∧ BytesAt wr gt 4 (fun j => if j < k then wK key (4 * i + j) else tN (wK key) i j) ∧ Below wo.heap.size wo wr) (fun a12 _ => 4 - (intOf a12).toNat)
            case atStart => exact ⟨0, by omega, rfl, hT.ext fun j hj => by rw [if_neg (by omega)], gB⟩
            case round =>
              clear hT gB
              obtain ⟨k, hk, rfl, hT, gB⟩ := hrel
              by_cases hk4 : k < 4
              · have m1 : (8 : Int) ≤ i := by omega
                have m2 : (i : Int) - 8 < 60 := by omega
                have m2' : (i : Int) - 8 < i := by omega
                have m3 : (k : Int) < 4 := by omega
                have n1 : ((i : Int) - 8).toNat = i - 8 := by omega
                have v1 : IntKind.i64.wrap ((i : Int) - 8) = (i : Int) - 8 := IntWalk.i64_in _ (by omega)
                have c0 := hT.cell hk4
                rw [if_neg (by omega)] at c0
                have c1 := (hA.below gB).cell (i := i - 8) (by omega)
                have c2 := ((hA.below gB).at_ (i - 8) (by omega)).cell hk4
                have hX := w_xor
                go_wp2_with fail
                go_still_tail 16, mixed
                clear m1 m2 m2' m3 n1 v1 c0 c1 c2 hX
                change wpList _ _ _ _ _ wr.drew
                have c0 : wr.drew.cell? ⟨gt, k, none⟩ = some (byt (tN (wK key) i k)) := by
                  have h := hT.cell hk4
                  rw [if_neg (by omega)] at h
                  exact h
                have f0 : wr.drew.frozen? ⟨gt, k, none⟩ = false := hT.free k
                go_wp2_with fail
                go_roundw
                case rel =>
                  have hnew : BytesAt (wr.setCell ⟨gt, k, none⟩ (byt (xr (tN (wK key) i k) (wK key (4 * (i - 8) + k))))) gt 4 (fun j => if j < k + 1 then wK key (4 * i + j) else tN (wK key) i j) := (hT.set _).ext fun j hj => by
                    unfold upd8
                    by_cases e : j = k
                    · subst e
                      rw [if_pos rfl, if_pos (by omega), wK_step key hi8 hk4, xr_comm]
                    · rw [if_neg e]
                      show (if j < k then wK key (4 * i + j) else tN (wK key) i j) = _
                      by_cases h2 : j < k
                      · rw [if_pos h2, if_pos (by omega)]
                      · rw [if_neg h2, if_neg (by omega)]
                  first | exact ⟨k + 1, by omega, by go_num, hnew.same rfl, (gB.setCell hgt _).drew⟩ | ((repeat apply Exists.intro); refine ⟨⟨k + 1, by omega, by go_num, hnew.same rfl, (gB.setCell hgt _).drew⟩, ?_⟩; simp only [show ((i : Int) % 8 == 0) = false from by simpa using h8, show ((i : Int) % 8 == 4) = false from by simpa using h84]; rfl)
                case measure => simp [intOf]; omega
              · obtain rfl : k = 4 := by omega
                have hT4 : BytesAt wr gt 4 (fun j => wK key (4 * i + j)) := hT.ext fun j hj => by rw [if_pos hj]
                obtain ⟨H2, K2, ho, hBs⟩ := (hW.below gB).ex
                obtain ⟨i0, hi0, hz0, hz1, hz2⟩ := info30
                have hbb := hb.trans (gB.mono hb.size)
                have hnw := new_alloc (w := wr) (o := .cells #[.slice (some ⟨gt, 0, none⟩) 4 tcap] 30)
                have hal : Below wr.heap.size wr (wr.alloc (.cells #[.slice (some ⟨gt, 0, none⟩) 4 tcap] 30)) := (Below.refl _ _).alloc (Nat.le_refl _) _
                have ho2 := own_below ho hal
                have hbb2 := below_of hal hbb
                clear hT
                go_wp2_with (at_builtin; refine wpList_append_own _ rfl _ _ 46 rfl w.heap.size 30 i0 _ 1 24 Try.underlying46 hi0 hz0 hz1 hz2 rfl (by decide) _ _ _ rfl ho2 ⟨wr.heap.size, 0, none⟩ 1 1 [.slice (some ⟨gt, 0, none⟩) 4 tcap] rfl rfl ?c1 ?c2 ?c3 ?c4 ?c5 ?_)
                case c1 =>
                  intro j u hj
                  have hadd : (⟨wr.heap.size, 0, none⟩ : Addr).add j = ⟨wr.heap.size, j, none⟩ := by unfold Addr.add; split <;> simp_all
                  rw [hadd, cell_of hnw j]
                  simpa using hj
                case c2 =>
                  intro u hu
                  simp at hu
                  subst hu
                  rfl
                case c3 => unfold maxLen; omega
                case c4 => omega
                case c5 => exact hbb2.size
                intro v' W3 hrow hgr _
                have hb3 := hbb2.grown hgr hbb2.size (fun j hj => (ho2.lt j hj).1)
                have hW3 := Words.more ho2 (fun i hi => (hBs i hi).below hal) (hT4.below hal) hgr hrow
                clear ho ho2 hBs hT4 hgr hrow hnw hal hbb hbb2 gB
                go_wp2_with fail
                go_roundw
                case rel => first | exact ⟨i + 1, by omega, by omega, by go_num, hW3, hb3⟩ | ((repeat apply Exists.intro); exact ⟨⟨i + 1, by omega, by omega, by go_num, hW3, hb3⟩, rfl⟩)
                case measure => simp [intOf]; omega
        · obtain rfl : i = 60 := by omega
          go_wp2_with fail
          obtain ⟨gw, gcap, H, K, rfl, hgw, hA⟩ := hW.at_ (by omega)
          go_ret
          exact ⟨_, rfl, hW, hb⟩

end Go.Proofs.Ytgmnigobappjbaa
