/- The contracts of example and awake. Conditions: none. -/
import Derived.Test.YtgmnigobappjbaaB6
import Derived.Test.YtgmnigobappjbaaEx
namespace Go.Proofs.Ytgmnigobappjbaa
open Go.RowKit

theorem results_cell_row2 {P : Program} {fn : Func} {p p' : Tmp} {ty ty' : TypeId} (h : fn.results = #[.cell p ty, .cell p' ty']) (tmps : Array Value) (w : World) (g g' : Nat) (t t' : TypeId) (cs cs' : Array Value) (d d' : TypeDesc)
    (hp : tmps.getD p undef = .pointer (some ⟨g, 0, none⟩)) (hg : w.heap[g]? = some (.cells cs t)) (hu : P.underlying ty = some d) (hd : (match d with | .struct _ | .array _ _ => true | _ => false) = true) (hi : (P.info? ty).map (·.size) = some cs.size)
    (hp' : tmps.getD p' undef = .pointer (some ⟨g', 0, none⟩)) (hg' : w.heap[g']? = some (.cells cs' t')) (hu' : P.underlying ty' = some d') (hd' : (match d' with | .struct _ | .array _ _ => true | _ => false) = true) (hi' : (P.info? ty').map (·.size) = some cs'.size) :
    (results fn tmps).run P w = .ok (.tuple #[.agg cs, .agg cs']) w := by
  have h1 : tmps[p]?.getD undef = .pointer (some ⟨g, 0, none⟩) := by simpa using hp
  have h2 : tmps[p']?.getD undef = .pointer (some ⟨g', 0, none⟩) := by simpa using hp'
  simp [results, h, h1, h2, asAddr, run_loadVar_row w g t ty cs (0, 0) d hg hu hd hi, run_loadVar_row w g' t' ty' cs' (0, 0) d' hg' hu' hd' hi', Sem.run_bind]

def upTo (f : Nat → UInt8) (k : Nat) : Nat → UInt8 := fun j => if j < k then f j else 0
theorem upTo_step (f : Nat → UInt8) (k : Nat) : upd8 (upTo f k) k (f k) = upTo f (k + 1) := by
  funext j
  unfold upd8 upTo
  by_cases e : j = k
  · subst e
    rw [if_pos rfl, if_pos (by omega)]
  · rw [if_neg e]
    by_cases h2 : j < k
    · rw [if_pos h2, if_pos (by omega)]
    · rw [if_neg h2, if_neg (by omega)]
theorem upTo_end (f : Nat → UInt8) (n : Nat) : arr n (upTo f n) = arr n f := arr_ext fun i hi => by simp [upTo, hi]
theorem zero23 : (Try.prog.info? 23).bind (·.zero) = some (.agg (arr 32 fun _ => 0)) := by kernel_rfl

set_option maxRecDepth 100000 in
set_option maxHeartbeats 1600000 in
theorem example_any (w : World) : Calls Try.prog 16 #[] w fun e w' => e = .returned (.tuple #[.agg (arr 32 exK), .agg (arr 16 exB)]) ∧ Below w.heap.size w w' := by
  have hz : ∀ f : Nat → UInt8, (Try.prog.info? 24).map (·.size) = some (arr 16 f).size := fun f => by rw [arr_size]; exact size24
  have hz3 : ∀ f : Nat → UInt8, (Try.prog.info? 23).map (·.size) = some (arr 32 f).size := fun f => by rw [arr_size]; exact size23
  have hs : ∀ n, ∀ f g : Nat → UInt8, (arr n f).size = (arr n g).size := fun n f g => by rw [arr_size, arr_size]
  replace hz := hide hz
  replace hz3 := hide hz3
  replace hs := hide hs
  have h0 : ((((w.alloc (.cells (arr 32 fun _ => 0) 23)).alloc (.cells (arr 16 fun _ => 0) 24)).alloc (.cells (arr 32 fun _ => 0) 23)).alloc (.cells (arr 16 fun _ => 0) 24)).heap[w.heap.size]? = some (.cells (arr 32 fun _ => 0) 23) := old_alloc (old_alloc (old_alloc new_alloc))
  have h1 : ((((w.alloc (.cells (arr 32 fun _ => 0) 23)).alloc (.cells (arr 16 fun _ => 0) 24)).alloc (.cells (arr 32 fun _ => 0) 23)).alloc (.cells (arr 16 fun _ => 0) 24)).heap[w.heap.size + 1]? = some (.cells (arr 16 fun _ => 0) 24) := by
    have h := new_alloc (w := (w.alloc (.cells (arr 32 fun _ => 0) 23))) (o := .cells (arr 16 fun _ => 0) 24)
    rw [World.size_alloc] at h
    exact old_alloc (old_alloc h)
  have h2 : ((((w.alloc (.cells (arr 32 fun _ => 0) 23)).alloc (.cells (arr 16 fun _ => 0) 24)).alloc (.cells (arr 32 fun _ => 0) 23)).alloc (.cells (arr 16 fun _ => 0) 24)).heap[w.heap.size + 2]? = some (.cells (arr 32 (upTo exK 0)) 23) := by
    have h := new_alloc (w := (w.alloc (.cells (arr 32 fun _ => 0) 23)).alloc (.cells (arr 16 fun _ => 0) 24)) (o := .cells (arr 32 fun _ => 0) 23)
    rw [World.size_alloc, World.size_alloc] at h
    exact old_alloc h
  have h3 : ((((w.alloc (.cells (arr 32 fun _ => 0) 23)).alloc (.cells (arr 16 fun _ => 0) 24)).alloc (.cells (arr 32 fun _ => 0) 23)).alloc (.cells (arr 16 fun _ => 0) 24)).heap[w.heap.size + 3]? = some (.cells (arr 16 fun _ => 0) 24) := by
    have h := new_alloc (w := ((w.alloc (.cells (arr 32 fun _ => 0) 23)).alloc (.cells (arr 16 fun _ => 0) 24)).alloc (.cells (arr 32 fun _ => 0) 23)) (o := .cells (arr 16 fun _ => 0) 24)
    rw [World.size_alloc, World.size_alloc, World.size_alloc] at h
    exact h
  have hb0 : Below w.heap.size w ((((w.alloc (.cells (arr 32 fun _ => 0) 23)).alloc (.cells (arr 16 fun _ => 0) 24)).alloc (.cells (arr 32 fun _ => 0) 23)).alloc (.cells (arr 16 fun _ => 0) 24)) := ((((Below.refl _ _).alloc (Nat.le_refl _) _).alloc (by simp) _).alloc (by simp; omega) _).alloc (by simp; omega) _
  go_enter Try.func16, Try.ntmps16
  go_wp2_with (first | (with_reducible refine wpList_alloc_row rfl 24 rfl _ zero24 ?_) | (with_reducible refine wpList_alloc_row rfl 23 rfl _ zero23 ?_))
  generalize ((((w.alloc (.cells (arr 32 fun _ => 0) 23)).alloc (.cells (arr 16 fun _ => 0) 24)).alloc (.cells (arr 32 fun _ => 0) 23)).alloc (.cells (arr 16 fun _ => 0) 24)) = W at h0 h1 h2 h3 hb0 ⊢
  go_loopw [4] (fun a4 wr => ∃ k : Nat, k ≤ 32 ∧ a4 = .int .i64 k ∧ wr.heap[w.heap.size]? = some (.cells (arr 32 fun _ => 0) 23) ∧ wr.heap[w.heap.size + 1]? = some (.cells (arr 16 fun _ => 0) 24) ∧ wr.heap[w.heap.size + 2]? = some (.cells (arr 32 (upTo exK k)) 23) ∧ wr.heap[w.heap.size + 3]? = some (.cells (arr 16 fun _ => 0) 24) ∧ Below w.heap.size w wr) (fun a4 _ => 32 - (intOf a4).toNat)
  case atStart => exact ⟨0, by omega, rfl, h0, h1, h2, h3, hb0⟩
  case round =>
    clear h0 h1 h2 h3 hb0
    obtain ⟨k, hk, rfl, h0, h1, h2, h3, hb⟩ := hrel
    by_cases hlt : k < 32
    · have c0 : wr.cell? ⟨w.heap.size + 2, k, none⟩ = some (byt (upTo exK k k)) := (cell_of h2 _).trans (arr_at hlt)
      have f0 : wr.frozen? ⟨w.heap.size + 2, k, none⟩ = false := free_of h2 _
      go_wp2_with fail
      go_roundw
      case rel =>
        refine ⟨k + 1, by omega, by go_num, set_ne (by omega) h0, set_ne (by omega) h1, ?_, set_ne (by omega) h3, hb.setCell (show w.heap.size ≤ w.heap.size + 2 by omega) _⟩
        have h := set_at (j := k) (u := byt (exK k)) h2
        rw [arr_set, upTo_step] at h
        rw [exK, byt, ← w_nat (by omega)] at h
        exact h
      case measure => simp [intOf]; omega
    · obtain rfl : k = 32 := by omega
      rw [upTo_end] at h2
      replace h3 : wr.heap[w.heap.size + 3]? = some (.cells (arr 16 (upTo exB 0)) 24) := h3
      go_wp2_with fail
      go_loopw [5] (fun a5 wr => ∃ k : Nat, k ≤ 16 ∧ a5 = .int .i64 k ∧ wr.heap[w.heap.size]? = some (.cells (arr 32 fun _ => 0) 23) ∧ wr.heap[w.heap.size + 1]? = some (.cells (arr 16 fun _ => 0) 24) ∧ wr.heap[w.heap.size + 2]? = some (.cells (arr 32 exK) 23) ∧ wr.heap[w.heap.size + 3]? = some (.cells (arr 16 (upTo exB k)) 24) ∧ Below w.heap.size w wr) (fun a5 _ => 16 - (intOf a5).toNat)
      case atStart => exact ⟨0, by omega, rfl, h0, h1, h2, h3, hb⟩
      case round =>
        clear h0 h1 h2 h3 hb
        obtain ⟨k, hk, rfl, h0, h1, h2, h3, hb⟩ := hrel
        by_cases hlt : k < 16
        · have c0 : wr.cell? ⟨w.heap.size + 3, k, none⟩ = some (byt (upTo exB k k)) := (cell_of h3 _).trans (arr_at hlt)
          have f0 : wr.frozen? ⟨w.heap.size + 3, k, none⟩ = false := free_of h3 _
          go_wp2_with fail
          go_roundw
          case rel =>
            refine ⟨k + 1, by omega, by go_num, set_ne (by omega) h0, set_ne (by omega) h1, set_ne (by omega) h2, ?_, hb.setCell (show w.heap.size ≤ w.heap.size + 3 by omega) _⟩
            have h := set_at (j := k) (u := byt (exB k)) h3
            rw [arr_set, upTo_step] at h
            rw [exB, byt, ← w_nat (by omega)] at h
            exact h
          case measure => simp [intOf]; omega
        · obtain rfl : k = 16 := by omega
          rw [upTo_end] at h3
          go_wp2_with fail
          refine Draw.wp_region_ghosts mixed 3 4 (by kernel_rfl) ()
            (fun _ i => ([.agg (arr 32 exK), .agg (arr 16 exB), undef] : List Value).getD i undef)
            _ (fun _ => rfl)
            (fun D _ w' => w'.heap[w.heap.size]? = some (.cells (if D 2 = true then arr 32 exK else arr 32 fun _ => 0) 23) ∧ w'.heap[w.heap.size + 1]? = some (.cells (arr 16 fun _ => 0) 24) ∧ w'.heap[w.heap.size + 2]? = some (.cells (arr 32 exK) 23) ∧ w'.heap[w.heap.size + 3]? = some (.cells (arr 16 exB) 24) ∧ Below w.heap.size w w')
            ⟨h0, h1, h2, h3, hb.drew⟩ ?_ ?_
          · simp only [Draw.puts, List.take_succ_cons, List.take_zero, if_true, Act.put, List.setIfInBounds_toArray, List.set_cons_zero, List.set_cons_succ, Nat.zero_add, List.getD_cons_zero, List.getD_cons_succ]
            refine ⟨?_, ?_, ?_, trivial⟩
            all_goals rintro D γ w1 hD hpre ⟨g0, g1, g2, g3, gb⟩
            all_goals refine .inl ⟨rfl, fun K hk => ?_⟩
            · refine wp_load_row 23 _ rfl (w.heap.size + 2) rfl 23 (arr 32 exK) (0, 0) _ g2 Try.underlying23 rfl (hz3.out _) ?_
              exact hk () w1 (fun _ _ => rfl) ⟨by simpa [Draw.upd] using g0, g1, g2, g3, gb⟩
            · refine wp_load_row 24 _ rfl (w.heap.size + 3) rfl 24 (arr 16 exB) (0, 0) _ g3 Try.underlying24 rfl (hz.out _) ?_
              exact hk () w1 (fun _ _ => rfl) ⟨by simpa [Draw.upd] using g0, g1, g2, g3, gb⟩
            · rw [hD, if_neg Bool.false_ne_true] at g0
              refine wp_store_row 23 _ _ rfl w.heap.size (arr 32 exK) rfl rfl 23 _ g0 (hz3.out _) (hs.out _ _ _) arr_ones ?_
              exact hk () _ (fun _ _ => rfl) ⟨by simpa [Draw.upd] using setRow_heap _ w.heap.size _ (arr 32 exK) _ _ g0, (setRow_other _ _ _ _ (by omega)).trans g1, (setRow_other _ _ _ _ (by omega)).trans g2, (setRow_other _ _ _ _ (by omega)).trans g3, below_row gb (Nat.le_refl _) _⟩
          · simp only [Draw.puts, List.take_succ_cons, List.take_zero, List.drop_succ_cons, List.drop_zero, if_true, Act.put, List.setIfInBounds_toArray, List.set_cons_zero, List.set_cons_succ, Nat.zero_add, List.getD_cons_zero, List.getD_cons_succ]
            rintro _ w1 ⟨g0, g1, g2, g3, gb⟩
            rw [if_pos (by decide)] at g0
            refine wpList_store_row rfl 24 _ _ rfl (w.heap.size + 1) (arr 16 exB) rfl rfl 24 _ g1 (hz.out _) (hs.out _ _ _) arr_ones ?_
            have i0 := (setRow_other _ (w.heap.size + 1) w.heap.size (arr 16 exB) (show w.heap.size ≠ w.heap.size + 1 by omega)).trans g0
            have i1 := setRow_heap _ (w.heap.size + 1) _ (arr 16 exB) _ _ g1
            have ib := below_row gb (show w.heap.size ≤ w.heap.size + 1 by omega) (arr 16 exB)
            go_wp2_with fail
            exact bodyPost_ret (v := .tuple #[.agg (arr 32 exK), .agg (arr 16 exB)]) (results_cell_row2 rfl _ _ w.heap.size (w.heap.size + 1) 23 24 _ _ _ _ rfl i0 Try.underlying23 rfl (hz3.out _) rfl i1 Try.underlying24 rfl (hz.out _)) rfl ⟨rfl, ib⟩

theorem txt_of {n : Nat} {f : Nat → UInt8} {l : List UInt8} (hl : l.length = n) (h : Same n f (litF l)) : txt n f = ⟨l.toArray⟩ := by
  unfold txt
  congr 2
  apply List.ext_getElem
  · simp [hl]
  · intro i h1 h2
    have := h i (by omega)
    rw [litF] at this
    simp [this, List.getD, h2]

set_option maxRecDepth 100000 in
set_option maxHeartbeats 1600000 in
theorem awake_any (w : World) : Calls Try.prog 10 #[] w fun e w' => e = .returned (.bool true) ∧ Below w.heap.size w w' := by
  have hz : ∀ f : Nat → UInt8, (Try.prog.info? 24).map (·.size) = some (arr 16 f).size := fun f => by rw [arr_size]; exact size24
  have hz3 : ∀ f : Nat → UInt8, (Try.prog.info? 23).map (·.size) = some (arr 32 f).size := fun f => by rw [arr_size]; exact size23
  have hs : ∀ n, ∀ f g : Nat → UInt8, (arr n f).size = (arr n g).size := fun n f g => by rw [arr_size, arr_size]
  replace hz := hide hz
  replace hz3 := hide hz3
  replace hs := hide hs
  go_enter Try.func10, Try.ntmps10
  go_wp2_with fail
  refine (example_any _).mono ?_
  rintro e w1 ⟨rfl, hb1⟩
  have g1 : ((w1.alloc (.cells (arr 32 fun _ => 0) 23)).alloc (.cells (arr 16 fun _ => 0) 24)).heap[w1.heap.size]? = some (.cells (arr 32 fun _ => 0) 23) := old_alloc new_alloc
  have g2 : ((w1.alloc (.cells (arr 32 fun _ => 0) 23)).alloc (.cells (arr 16 fun _ => 0) 24)).heap[w1.heap.size + 1]? = some (.cells (arr 16 fun _ => 0) 24) := by
    have h := new_alloc (w := w1.alloc (.cells (arr 32 fun _ => 0) 23)) (o := .cells (arr 16 fun _ => 0) 24)
    rw [World.size_alloc] at h
    exact h
  have gb : Below w.heap.size w ((w1.alloc (.cells (arr 32 fun _ => 0) 23)).alloc (.cells (arr 16 fun _ => 0) 24)) := (hb1.alloc hb1.size _).alloc (by have := hb1.size; simp; omega) _
  have k1 := setRow_heap _ w1.heap.size _ (arr 32 exK) _ _ g1
  have k2 := (setRow_other _ w1.heap.size _ (arr 32 exK) (show w1.heap.size + 1 ≠ w1.heap.size by omega)).trans g2
  have kb := below_row gb hb1.size (arr 32 exK)
  have j1 := (setRow_other _ (w1.heap.size + 1) _ (arr 16 exB) (show w1.heap.size ≠ w1.heap.size + 1 by omega)).trans k1
  have j2 := setRow_heap _ (w1.heap.size + 1) _ (arr 16 exB) _ _ k2
  have jb := below_row kb (show w.heap.size ≤ w1.heap.size + 1 by have := hb1.size; omega) (arr 16 exB)
  go_wp2_with (first | (with_reducible refine wpList_alloc_row rfl 24 rfl _ zero24 ?_) | (with_reducible refine wpList_alloc_row rfl 23 rfl _ zero23 ?_) | (with_reducible refine wpList_store_row rfl 23 _ _ rfl w1.heap.size (arr 32 exK) ?_ ?_ 23 _ g1 (hz3.out _) (hs.out _ _ _) arr_ones ?_; rotate_left; rotate_left) | (with_reducible refine wpList_store_row rfl 24 _ _ rfl (w1.heap.size + 1) (arr 16 exB) ?_ ?_ 24 _ k2 (hz.out _) (hs.out _ _ _) arr_ones ?_; rotate_left; rotate_left) | (with_reducible refine wpList_load_row rfl 23 _ rfl w1.heap.size ?_ 23 (arr 32 exK) (0, 0) _ j1 Try.underlying23 rfl (hz3.out _) ?_; rotate_left) | (with_reducible refine wpList_load_row rfl 24 _ rfl (w1.heap.size + 1) ?_ 24 (arr 16 exB) (0, 0) _ j2 Try.underlying24 rfl (hz.out _) ?_; rotate_left))
  all_goals try exact rfl
  clear g1 g2 gb k1 k2 kb j1 j2
  generalize World.setRow _ (w1.heap.size + 1) (arr 16 exB) = W at jb ⊢
  clear hb1
  refine (Block_any _ _ _).mono ?_
  rintro e w2 ⟨rfl, hb2⟩
  have hb := below_of hb2 jb
  clear hb2 jb
  have g1 : (w2.alloc (.cells (arr 16 fun _ => 0) 24)).heap[w2.heap.size]? = some (.cells (arr 16 fun _ => 0) 24) := new_alloc
  have j1 := setRow_heap _ w2.heap.size _ (arr 16 (aesN exK exB)) _ _ g1
  have jb := below_row (hb.alloc hb.size (.cells (arr 16 fun _ => 0) 24)) hb.size (arr 16 (aesN exK exB))
  have hc : ∀ j, j < 16 → ((w2.alloc (.cells (arr 16 fun _ => 0) 24)).setRow w2.heap.size (arr 16 (aesN exK exB))).cell? ⟨w2.heap.size, 0 + j, none⟩ = some (byt (litF exO j)) := fun j hj => by
    rw [Nat.zero_add, ← aes_ex j hj]
    exact (cell_of j1 _).trans (arr_at hj)
  replace hc := hide hc
  go_wp2_with (first | (with_reducible refine wpList_alloc_row rfl 24 rfl _ zero24 ?_) | (with_reducible refine wpList_store_row rfl 24 _ _ rfl w2.heap.size (arr 16 (aesN exK exB)) ?_ ?_ 24 _ g1 (hz.out _) (hs.out _ _ _) arr_ones ?_; rotate_left; rotate_left) | (with_reducible refine wpList_text rfl 30 9 5 _ rfl Try.underlying30 Try.underlying5 Try.underlying9 w2.heap.size 0 16 16 ?_ (litF exO) hc.out ?_; rotate_left))
  all_goals try exact rfl
  go_ret
  exact ⟨ret_bool (by decide +kernel), jb⟩

end Go.Proofs.Ytgmnigobappjbaa
