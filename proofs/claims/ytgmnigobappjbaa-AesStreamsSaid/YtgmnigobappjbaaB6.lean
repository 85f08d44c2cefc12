/- The contract of Block. Conditions: none. -/
import Derived.Test.YtgmnigobappjbaaB5
import Derived.Test.YtgmnigobappjbaaDraw
namespace Go.Proofs.Ytgmnigobappjbaa
open Go.RowKit

theorem size23 : (Try.prog.info? 23).map (·.size) = some 32 := by kernel_rfl

set_option maxRecDepth 100000 in
set_option maxHeartbeats 1600000 in
theorem Block_any (key x : Nat → UInt8) (w : World) :
    Calls Try.prog 11 #[.agg (arr 32 key), .agg (arr 16 x)] w fun e w' => e = .returned (.agg (arr 16 (aesN key x))) ∧ Below w.heap.size w w' := by
  have hz : ∀ f : Nat → UInt8, (Try.prog.info? 24).map (·.size) = some (arr 16 f).size := fun f => by rw [arr_size]; exact size24
  have hz3 : ∀ f : Nat → UInt8, (Try.prog.info? 23).map (·.size) = some (arr 32 f).size := fun f => by rw [arr_size]; exact size23
  have hs : ∀ f g : Nat → UInt8, (arr 16 f).size = (arr 16 g).size := fun f g => by rw [arr_size, arr_size]
  replace hz := hide hz
  replace hz3 := hide hz3
  replace hs := hide hs
  have h1 : (((w.alloc (.cells (arr 32 key) 23)).alloc (.cells (arr 16 x) 24)).alloc (.cells (arr 16 fun _ => 0) 24)).heap[w.heap.size]? = some (.cells (arr 32 key) 23) := old_alloc (old_alloc new_alloc)
  have h2 : (((w.alloc (.cells (arr 32 key) 23)).alloc (.cells (arr 16 x) 24)).alloc (.cells (arr 16 fun _ => 0) 24)).heap[w.heap.size + 1]? = some (.cells (arr 16 x) 24) := by
    have h := new_alloc (w := w.alloc (.cells (arr 32 key) 23)) (o := .cells (arr 16 x) 24)
    rw [World.size_alloc] at h
    exact old_alloc h
  have h3 : (((w.alloc (.cells (arr 32 key) 23)).alloc (.cells (arr 16 x) 24)).alloc (.cells (arr 16 fun _ => 0) 24)).heap[w.heap.size + 2]? = some (.cells (arr 16 fun _ => 0) 24) := by
    have h := new_alloc (w := (w.alloc (.cells (arr 32 key) 23)).alloc (.cells (arr 16 x) 24)) (o := .cells (arr 16 fun _ => 0) 24)
    rw [World.size_alloc, World.size_alloc] at h
    exact h
  have hb0 : Below w.heap.size w (((w.alloc (.cells (arr 32 key) 23)).alloc (.cells (arr 16 x) 24)).alloc (.cells (arr 16 fun _ => 0) 24)) := (((Below.refl _ _).alloc (Nat.le_refl _) _).alloc (by simp) _).alloc (by simp; omega) _
  go_enter Try.func11, Try.ntmps11
  go_wp2_with (with_reducible refine wpList_alloc_row rfl 24 rfl _ zero24 ?_)
  generalize (((w.alloc (.cells (arr 32 key) 23)).alloc (.cells (arr 16 x) 24)).alloc (.cells (arr 16 fun _ => 0) 24)) = W at h1 h2 h3 hb0 ⊢
  refine Draw.wp_region_ghosts mixed 4 4 (by kernel_rfl) (0 : Nat)
    (fun c i => ([.agg (arr 32 key), .pointer (some ⟨c, 0, none⟩), .agg (arr 16 x), .agg (arr 16 (aesN key x))] : List Value).getD i undef)
    _ (fun _ => rfl)
    (fun D c w' => Below W.heap.size W w' ∧ (D 1 = true → w'.heap[c]? = some (.cells (arr 496 (cfN key 240)) 56)))
    ⟨(Below.refl _ _).drew, fun h => absurd h Bool.false_ne_true⟩ ?_ ?_
  · simp only [Draw.puts, List.take_succ_cons, List.take_zero, if_true, Act.put, List.setIfInBounds_toArray, List.set_cons_zero, List.set_cons_succ, Nat.zero_add, Nat.reduceAdd, List.getD_cons_zero, List.getD_cons_succ]
    refine ⟨?_, ?_, ?_, ?_, trivial⟩
    all_goals rintro D γ w1 hD hpre ⟨hb, hx⟩
    · refine .inl ⟨rfl, fun K hk => ?_⟩
      refine wp_load_row 23 _ rfl w.heap.size rfl 23 (arr 32 key) (0, 0) _ (kept hb h1) Try.underlying23 rfl (hz3.out _) ?_
      exact hk γ w1 (fun _ _ => rfl) ⟨hb, by simpa [Draw.upd] using hx⟩
    · refine .inl ⟨rfl, fun K hk => ?_⟩
      go_simp
      refine (schedule_any key _).mono ?_
      rintro e w2 ⟨c, rfl, hc, hg, hb2⟩
      exact hk c w2 (fun j hj => by rcases j with _|_|_|_|j <;> first | rfl | (rw [hD] at hj; cases hj)) ⟨below_of hb2 hb, fun _ => hg⟩
    · refine .inl ⟨rfl, fun K hk => ?_⟩
      refine wp_load_row 24 _ rfl (w.heap.size + 1) rfl 24 (arr 16 x) (0, 0) _ (kept hb h2) Try.underlying24 rfl (hz.out _) ?_
      exact hk γ w1 (fun _ _ => rfl) ⟨hb, by simpa [Draw.upd] using hx⟩
    · refine .inl ⟨rfl, fun K hk => ?_⟩
      have h1 := hx (hpre 1 (by decide +kernel))
      go_simp
      refine (block_any γ (cfN key 240) x _ h1).mono ?_
      rintro e w2 ⟨rfl, hb2⟩
      exact hk γ w2 (fun _ _ => rfl) ⟨below_of hb2 hb, fun _ => kept hb2 h1⟩
  · simp only [Draw.puts, List.take_succ_cons, List.take_zero, List.drop_succ_cons, List.drop_zero, if_true, Act.put, List.setIfInBounds_toArray, List.set_cons_zero, List.set_cons_succ, Nat.zero_add, Nat.reduceAdd, List.getD_cons_zero, List.getD_cons_succ]
    rintro c w1 ⟨hb, hx⟩
    have k3 := kept hb h3
    have hbl := below_of hb hb0
    clear hx hb h1 h2 h3 hb0
    refine wpList_store_row rfl 24 _ _ rfl (w.heap.size + 2) (arr 16 (aesN key x)) rfl rfl 24 _ k3 (hz.out _) (hs.out _ _) arr_ones ?_
    go_wp2_with fail
    refine bodyPost_ret (v := .agg (arr 16 (aesN key x))) (results_cell_row rfl _ _ (w.heap.size + 2) 24 _ (0, 0) _ rfl (setRow_heap _ _ _ _ _ _ k3) Try.underlying24 rfl (hz.out _)) rfl ⟨rfl, ?_⟩
    exact below_row hbl (by omega) _

end Go.Proofs.Ytgmnigobappjbaa
