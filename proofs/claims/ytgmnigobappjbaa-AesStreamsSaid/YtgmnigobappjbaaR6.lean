/- The contract of the document's Block. Conditions: none. -/
import Derived.Test.YtgmnigobappjbaaR5
import Derived.Test.YtgmnigobappjbaaDraw
namespace Go.Proofs.Ytgmnigobappjbaa
open Go.RowKit

theorem size22 : (Try.prog.info? 22).map (·.size) = some 32 := by kernel_rfl
/-- A row of bytes, as far as it is copied. -/
def cpN (f : Nat → UInt8) (k : Nat) : Nat → UInt8 := fun j => if j < k then f j else 0
theorem cpN_step (f : Nat → UInt8) (k : Nat) : upd8 (cpN f k) k (f k) = cpN f (k + 1) := by
  funext j
  unfold upd8 cpN
  by_cases e : j = k
  · subst e
    rw [if_pos rfl, if_pos (by omega)]
  · rw [if_neg e]
    by_cases h : j < k
    · rw [if_pos h, if_pos (by omega)]
    · rw [if_neg h, if_neg (by omega)]
theorem cpN_all (f : Nat → UInt8) : arr 16 (cpN f 16) = arr 16 f := arr_ext fun _ hi => if_pos hi
theorem cpN_none (f : Nat → UInt8) : (fun _ => 0) = cpN f 0 := by
  funext j
  unfold cpN
  rw [if_neg (by omega)]

set_option maxRecDepth 100000 in
set_option maxHeartbeats 1600000 in
theorem refBlock_any (key x : Nat → UInt8) (w : World) :
    Calls Try.prog 12 #[.agg (arr 32 key), .agg (arr 16 x)] w fun e w' => e = .returned (.agg (arr 16 (aesN key x))) ∧ Below w.heap.size w w' := by
  have hz : ∀ f : Nat → UInt8, (Try.prog.info? 24).map (·.size) = some (arr 16 f).size := fun f => by rw [arr_size]; exact size24
  have hz2 : ∀ f : Nat → UInt8, (Try.prog.info? 22).map (·.size) = some (arr 32 f).size := fun f => by rw [arr_size]; exact size22
  have hs : ∀ f g : Nat → UInt8, (arr 16 f).size = (arr 16 g).size := fun f g => by rw [arr_size, arr_size]
  replace hz := hide hz
  replace hz2 := hide hz2
  replace hs := hide hs
  have h1 : (((w.alloc (.cells (arr 32 key) 22)).alloc (.cells (arr 16 x) 24)).alloc (.cells (arr 16 fun _ => 0) 24)).heap[w.heap.size]? = some (.cells (arr 32 key) 22) := old_alloc (old_alloc new_alloc)
  have h2 : (((w.alloc (.cells (arr 32 key) 22)).alloc (.cells (arr 16 x) 24)).alloc (.cells (arr 16 fun _ => 0) 24)).heap[w.heap.size + 1]? = some (.cells (arr 16 x) 24) := by
    have h := new_alloc (w := w.alloc (.cells (arr 32 key) 22)) (o := .cells (arr 16 x) 24)
    rw [World.size_alloc] at h
    exact old_alloc h
  have h3 : (((w.alloc (.cells (arr 32 key) 22)).alloc (.cells (arr 16 x) 24)).alloc (.cells (arr 16 fun _ => 0) 24)).heap[w.heap.size + 2]? = some (.cells (arr 16 fun _ => 0) 24) := by
    have h := new_alloc (w := (w.alloc (.cells (arr 32 key) 22)).alloc (.cells (arr 16 x) 24)) (o := .cells (arr 16 fun _ => 0) 24)
    rw [World.size_alloc, World.size_alloc] at h
    exact h
  have hb0 : Below w.heap.size w (((w.alloc (.cells (arr 32 key) 22)).alloc (.cells (arr 16 x) 24)).alloc (.cells (arr 16 fun _ => 0) 24)) := (((Below.refl _ _).alloc (Nat.le_refl _) _).alloc (by simp) _).alloc (by simp; omega) _
  go_enter Try.func12, Try.ntmps12
  go_wp2_with (with_reducible refine wpList_alloc_row rfl 24 rfl _ zero24 ?_)
  generalize (((w.alloc (.cells (arr 32 key) 22)).alloc (.cells (arr 16 x) 24)).alloc (.cells (arr 16 fun _ => 0) 24)) = W at h1 h2 h3 hb0 ⊢
  refine (all_any _).mono ?_
  rintro e w1 ⟨gs, cs, rfl, hgs, hS, hb1⟩
  replace h1 := kept hb1 h1
  replace h2 := kept hb1 h2
  replace h3 := kept hb1 h3
  have hl1 := lt_of_heap h1
  have hl3 := lt_of_heap h3
  have hl4 := hS.lt
  have hbl := below_of hb1 hb0
  clear hb0 hb1
  replace h1 := old_alloc (o' := .cells (arr 16 fun _ => 0) 24) h1
  replace h2 := old_alloc (o' := .cells (arr 16 fun _ => 0) 24) h2
  replace h3 := old_alloc (o' := .cells (arr 16 fun _ => 0) 24) h3
  have h4 : (w1.alloc (.cells (arr 16 fun _ => 0) 24)).heap[w1.heap.size]? = some (.cells (arr 16 fun _ => 0) 24) := new_alloc
  have hS0 : BytesAt (w1.alloc (.cells (arr 16 fun _ => 0) 24)) gs 256 sN := hS.below ((Below.refl _ _).alloc (Nat.le_refl _) _)
  replace hbl := hbl.alloc hbl.size (.cells (arr 16 fun _ => 0) 24)
  clear hS
  go_wp2_with (with_reducible refine wpList_alloc_row rfl 24 rfl _ zero24 ?_)
  obtain ⟨t, ht⟩ : ∃ t, w1.heap.size = t := ⟨_, rfl⟩
  rw [ht] at h4 hl1 hl3 hl4 ⊢
  generalize w1.alloc (.cells (arr 16 fun _ => 0) 24) = W2 at h1 h2 h3 h4 hS0 hbl ⊢
  refine Draw.wp_region_ghosts mixed 6 6 (by kernel_rfl) ((((0 : Nat), (0 : Nat)), ((fun _ => 0 : Nat → Nat), (fun _ => 0 : Nat → Nat))), ((0 : Nat), (0 : Nat)))
    (fun γ i => ([.agg (arr 32 key), .slice (some ⟨gs, 0, none⟩) 256 cs, .slice (some ⟨γ.1.1.1, 0, none⟩) 60 γ.1.1.2, .slice (some ⟨gs, 0, none⟩) 256 cs, .slice (some ⟨w.heap.size + 1, 0, none⟩) 16 16, .slice (some ⟨γ.2.1, 0, none⟩) 16 γ.2.2] : List Value).getD i undef)
    _ (fun _ => rfl)
    (fun D γ w' => Below W2.heap.size W2 w' ∧ (D 2 = true → WordsAt w' γ.1.1.1 60 γ.1.2.1 γ.1.2.2 (wK key)) ∧ (D 5 = true → BytesAt w' γ.2.1 16 (aesN key x) ∧ W2.heap.size ≤ γ.2.1))
    ⟨(Below.refl _ _).drew, fun h => absurd h Bool.false_ne_true, fun h => absurd h Bool.false_ne_true⟩ ?_ ?_
  · simp only [Draw.puts, List.take_succ_cons, List.take_zero, if_true, Act.put, List.setIfInBounds_toArray, List.set_cons_zero, List.set_cons_succ, Nat.zero_add, Nat.reduceAdd, List.getD_cons_zero, List.getD_cons_succ]
    refine ⟨?_, ?_, ?_, ?_, ?_, ?_, trivial⟩
    all_goals rintro D γ w2 hD hpre ⟨hb, hx, hy⟩
    · refine .inl ⟨rfl, fun K hk => ?_⟩
      refine wp_load_row 22 _ rfl w.heap.size rfl 22 (arr 32 key) (0, 0) _ (kept hb h1) Try.underlying22 rfl (hz2.out _) ?_
      exact hk γ w2 (fun _ _ => rfl) ⟨hb, by simpa [Draw.upd] using hx, by simpa [Draw.upd] using hy⟩
    · refine .inl ⟨rfl, fun K hk => ?_⟩
      go_simp
      exact hk γ w2 (fun _ _ => rfl) ⟨hb, by simpa [Draw.upd] using hx, by simpa [Draw.upd] using hy⟩
    · refine .inl ⟨rfl, fun K hk => ?_⟩
      go_simp
      refine (sched_any key gs cs _ (hS0.below hb)).mono ?_
      rintro e w3 ⟨v, rfl, hWd, hb3⟩
      obtain ⟨gw, cap, H, Kw, rfl, hgw, hWA⟩ := hWd.at_ (by omega)
      exact hk (((gw, cap), (H, Kw)), γ.2) w3 (fun j hj => by rcases j with _|_|_|_|_|_|j <;> first | rfl | (rw [hD] at hj; cases hj)) ⟨below_of hb3 hb, fun _ => hWA, fun h => ⟨(hy (by simpa [Draw.upd] using h)).1.below hb3, (hy (by simpa [Draw.upd] using h)).2⟩⟩
    · refine .inl ⟨rfl, fun K hk => ?_⟩
      go_simp
      exact hk γ w2 (fun _ _ => rfl) ⟨hb, by simpa [Draw.upd] using hx, by simpa [Draw.upd] using hy⟩
    · refine .inl ⟨rfl, fun K hk => ?_⟩
      go_simp
      exact hk γ w2 (fun _ _ => rfl) ⟨hb, by simpa [Draw.upd] using hx, by simpa [Draw.upd] using hy⟩
    · refine .inl ⟨rfl, fun K hk => ?_⟩
      have hWA := hx (hpre 2 (by decide +kernel))
      have hI : BytesIn w2 (w.heap.size + 1) 16 x := arr_in (kept hb h2)
      go_simp
      refine (one_any key x _ _ gs cs _ _ _ _ _ hWA (hS0.below hb) hI).mono ?_
      rintro e w3 ⟨g, cap, rfl, hg, hB, hb3⟩
      exact hk (γ.1, (g, cap)) w3 (fun j hj => by rcases j with _|_|_|_|_|_|j <;> first | rfl | (rw [hD] at hj; cases hj)) ⟨below_of hb3 hb, fun _ => hWA.below hb3, fun _ => ⟨hB, Nat.le_trans hb.size hg⟩⟩
  · simp only [Draw.puts, List.take_succ_cons, List.take_zero, List.drop_succ_cons, List.drop_zero, if_true, Act.put, List.setIfInBounds_toArray, List.set_cons_zero, List.set_cons_succ, Nat.zero_add, Nat.reduceAdd, List.getD_cons_zero, List.getD_cons_succ]
    rintro ⟨⟨⟨gw, cw⟩, ⟨H, Kw⟩⟩, ⟨g, cap⟩⟩ w3 ⟨hb, hx, hy⟩
    obtain ⟨hB, hg⟩ := hy rfl
    dsimp only at hB hg ⊢
    have hl5 := lt_of_heap h4
    replace h4 := kept hb h4
    replace h3 := kept hb h3
    replace hbl := below_of hb hbl
    obtain ⟨cur, hG, hn, hc⟩ := hB.ex
    clear hx hy hb h1 h2 hB hS0
    replace hc := hide hc
    go_wp2_with fail
    have h4' : w3.heap[t]? = some (.cells (arr 16 (cpN (aesN key x) 0)) 24) := by rw [← cpN_none]; exact h4
    clear h4
    go_loopw [8] (fun a8 wr => ∃ k : Nat, k ≤ 16 ∧ a8 = .int .i64 k ∧ wr.heap[g]? = some (.cells cur 5) ∧ wr.heap[t]? = some (.cells (arr 16 (cpN (aesN key x) k)) 24) ∧ wr.heap[w.heap.size + 2]? = some (.cells (arr 16 fun _ => 0) 24) ∧ Below w.heap.size w wr) (fun a8 _ => 16 - (intOf a8).toNat)
    case atStart => exact ⟨0, by omega, rfl, hG, h4', h3, hbl⟩
    case round =>
      clear hG h4' h3 hbl
      obtain ⟨k, hk, rfl, hG, h4, h3, hbl⟩ := hrel
      by_cases hlt : k < 16
      · have c0 : wr.cell? ⟨g, k, none⟩ = some (byt (aesN key x k)) := (cell_of hG k).trans (hc.out k hlt)
        have c1 : wr.cell? ⟨t, k, none⟩ = some (byt (cpN (aesN key x) k k)) := (cell_of h4 k).trans (arr_at hlt)
        have f1 : wr.frozen? ⟨t, k, none⟩ = false := free_of h4 k
        go_wp2_with fail
        go_roundw
        case rel =>
          have hnew := set_at (j := k) (u := byt (aesN key x k)) h4
          rw [arr_set, cpN_step] at hnew
          exact ⟨k + 1, by omega, by go_num, set_ne (show g ≠ t by omega) hG, hnew, set_ne (show w.heap.size + 2 ≠ t by omega) h3, hbl.setCell (show w.heap.size ≤ t by omega) _⟩
        case measure => simp [intOf]; omega
      · obtain rfl : k = 16 := by omega
        rw [cpN_all] at h4
        go_wp2_with (first | (with_reducible refine wpList_load_row rfl 24 _ rfl t ?_ 24 (arr 16 (aesN key x)) (0, 0) _ h4 Try.underlying24 rfl (hz.out _) ?_; rotate_left) | (with_reducible refine wpList_store_row rfl 24 _ _ rfl (w.heap.size + 2) (arr 16 (aesN key x)) ?_ ?_ 24 _ h3 (hz.out _) (hs.out _ _) arr_ones ?_; rotate_left; rotate_left))
        all_goals try exact rfl
        refine bodyPost_ret (v := .agg (arr 16 (aesN key x))) (results_cell_row rfl _ _ (w.heap.size + 2) 24 _ (0, 0) _ rfl (setRow_heap _ _ _ _ _ _ h3) Try.underlying24 rfl (hz.out _)) rfl ⟨rfl, ?_⟩
        exact below_row hbl (by omega) _

end Go.Proofs.Ytgmnigobappjbaa
