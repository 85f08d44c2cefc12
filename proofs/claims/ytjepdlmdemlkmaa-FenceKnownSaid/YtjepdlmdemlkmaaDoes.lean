/- FenceDoes: whether a stand is right, whether it writes, and what becomes of it, are the document's. Conditions: none. -/
import Derived.Test.YtjepdlmdemlkmaaA3
import Derived.Test.YtjepdlmdemlkmaaA5
import Derived.Test.YtjepdlmdemlkmaaDraw
import Derived.Test.YtjepdlmdemlkmaaFrame
import Derived.Test.YtjepdlmdemlkmaaRows
import Derived.Lib.SmallJoins
namespace Go.Proofs.Ytjepdlmdemlkmaa
open Go.RowKit Go.ChangeShapes Go.WideShapes Go.ChangeAt

theorem mixed : Try.prog.follows .mixedOrders = true := by kernel_rfl

theorem cells2 {w1 : World} {b : Nat} {v0 v1 : Value} {t : TypeId} (hh : w1.heap[b]? = some (.cells #[v0, v1] t)) :
    w1.cell? ⟨b, 0, none⟩ = some v0 ∧ w1.cell? ⟨b, 1, none⟩ = some v1 ∧ w1.frozen? ⟨b, 0, none⟩ = false ∧ w1.frozen? ⟨b, 1, none⟩ = false := by
  simp [World.cell?, World.frozen?, hh]

set_option maxHeartbeats 1600000 in
theorem fdoes_walk (r s g d ep : Int) (hd0 : 0 ≤ d) (hd1 : d ≤ 255) (w : World) :
    Calls Try.prog 4 #[.agg #[.int .i64 r, .int .i64 s, .int .i64 g], .agg #[.int .u8 d, .int .i64 ep]] w fun e w' => e = .returned (.bool true) ∧ Below w.heap.size w w' := by
  go_enter Try.func4, Try.ntmps4
  go_wp2_with fail
  refine Draw.wp_region_pure mixed 12 3 (by kernel_rfl) [.agg #[.int .i64 r, .int .i64 s, .int .i64 g], .bool (rightB r s g), .agg #[.int .i64 r, .int .i64 s, .int .i64 g], .bool (rightB r s g), .bool false, .bool false,
    .agg #[.int .i64 r, .int .i64 s, .int .i64 g], .int .i64 (writesN r s g), .agg #[.int .i64 r, .int .i64 s, .int .i64 g], .int .i64 (writesN r s g), .bool false, .bool false] _ rfl ?_ ?_
  · simp only [Draw.puts, List.take_succ_cons, List.take_zero, if_true, Act.put, List.setIfInBounds_toArray, List.set_cons_zero, List.set_cons_succ, Nat.zero_add, Nat.reduceAdd, List.getD_cons_zero, List.getD_cons_succ]
    refine ⟨?_, ?_, ?_, ?_, ?_, ?_, ?_, ?_, ?_, ?_, ?_, ?_, trivial⟩
    all_goals intro w1 hb1
    all_goals have hc := cells3 (kept hb1 (old_alloc (old_alloc new_alloc)))
    all_goals have hd := cells3 (kept hb1 new_alloc)
    all_goals simp only [World.size_alloc] at hc hd
    all_goals obtain ⟨c0, c1, c2, f0, f1, f2⟩ := hc
    all_goals obtain ⟨d0, d1, d2, g0, g1, g2⟩ := hd
    all_goals refine .inl ⟨rfl, fun K hK => ?_⟩
    all_goals go_simp
    all_goals first
      | exact hK _ (Below.refl _ _)
      | (go_at_call 9; refine (right_any _ _ _ _).mono ?_; rintro e w2 ⟨rfl, rfl⟩; exact hK _ ((Below.refl _ _).alloc (Nat.le_refl _) _))
      | (go_at_call 13; refine (rright_any _ _ _ _).mono ?_; rintro e w2 ⟨rfl, rfl⟩; exact hK _ ((Below.refl _ _).alloc (Nat.le_refl _) _))
      | (go_at_call 14; refine (writes_any _ _ _ _).mono ?_; rintro e w2 ⟨rfl, hb2⟩; exact hK _ hb2)
      | (go_at_call 15; refine (rwrites_any _ _ _ _).mono ?_; rintro e w2 ⟨rfl, hb2⟩; exact hK _ hb2)
  · simp only [Draw.puts, List.take_succ_cons, List.take_zero, List.drop_succ_cons, List.drop_nil, if_true, Act.put, List.setIfInBounds_toArray, List.set_cons_zero, List.set_cons_succ, Nat.zero_add, Nat.reduceAdd, List.getD_cons_zero, List.getD_cons_succ]
    intro w1 hb1
    have hz1 := hb1.size
    have k0 := kept hb1 (old_alloc (old_alloc new_alloc))
    have k1 := kept hb1 (old_alloc new_alloc)
    have k2 := kept hb1 new_alloc
    simp only [World.size_alloc] at k0 k1 k2 hz1
    obtain ⟨c0, c1, c2, f0, f1, f2⟩ := cells3 k0
    obtain ⟨d0, d1, d2, g0, g1, g2⟩ := cells3 k2
    have ka := cells2 k1
    obtain ⟨a0, a1, b0, b1⟩ := ka
    go_wp2_with fail
    · refine (wakes_any _).mono ?_
      rintro e w2 ⟨rfl, hb2⟩
      go_wp2_with fail
      go_ret
      exact ⟨rfl, below_of hb2 (below_of hb1 (by repeat (first | exact Below.refl _ _ | refine Below.alloc ?_ (by simp <;> omega) _ | refine Below.setCell ?_ (by simp <;> omega) _)))⟩
    · refine (does_any _ _ _ _ _ hd0 _).mono ?_
      rintro e w2 ⟨rfl, hb2⟩
      rw [retS_eq]
      have hz2 := hb2.size
      have k1' := kept hb2 k1
      have k2' := kept hb2 k2
      clear c0 c1 c2 f0 f1 f2 d0 d1 d2 g0 g1 g2 a0 a1 b0 b1 k0 k1 k2
      obtain ⟨d0, d1, d2, g0, g1, g2⟩ := cells3 k2'
      obtain ⟨a0, a1, b0, b1⟩ := cells2 k1'
      have hn1 : w.heap.size + 1 < w2.heap.size := by omega
      have hn2 : w.heap.size + 1 + 1 < w2.heap.size := by omega
      go_wp2_with fail
      refine (rdoes_any _ _ _ _ _ hd0 (by omega) _).mono ?_
      rintro e w3 ⟨rfl, hb3⟩
      rw [retS_eq]
      have hz3 := hb3.size
      simp only [World.size_alloc] at hz3
      have k3 := kept hb3 new_alloc
      clear d0 d1 d2 g0 g1 g2 a0 a1 b0 b1 hn1 hn2 k1' k2'
      obtain ⟨d0, d1, d2, g0, g1, g2⟩ := cells3 k3
      have hn3 : w2.heap.size < w3.heap.size := by omega
      go_wp2_with fail
      refine (wakes_any _).mono ?_
      rintro e w4 ⟨rfl, hb4⟩
      go_wp2_with fail
      go_ret
      refine ⟨rfl, ?_⟩
      exact below_of hb4 (Below.alloc (below_of hb3 (Below.alloc (below_of hb2 (below_of hb1 (by repeat (first | exact Below.refl _ _ | refine Below.alloc ?_ (by simp <;> omega) _ | refine Below.setCell ?_ (by simp <;> omega) _)))) (by omega) _)) (by omega) _)

theorem u8_range {n : Int} (h : (Lit.int .u8 n).wf = true) : 0 ≤ n ∧ n ≤ 255 := by
  simpa [Lit.wf, IntKind.min, IntKind.max, IntKind.signed, IntKind.bits] using h

theorem own : ownKnob Try.prog.godebug = none := by kernel_rfl
theorem laidOut : laidOutB Try.prog = true := by kernel_rfl
theorem cells23 : Try.prog.cellsOf 23 = 3 := by kernel_rfl
theorem cells31 : Try.prog.cellsOf 31 = 2 := by kernel_rfl

set_option maxRecDepth 100000 in
theorem fdoes_lifted (os : Os) (started : os.Started) (H : Type) (enc : TypeId × Value → H) :
    ReturnsInHanded {} Try.checked os 4 .any (Rows.fenceDoesSpec.pre6 enc Try.prog Try.f4 Rows.fenceDoesRow.domain false) (Rows.fenceDoesSpec.post enc Try.prog Try.f4 false true false false) := by
  refine returnsInHanded_of_change (C := Try.checked) own started (by kernel_rfl) Try.func4
    (ChangeSpec.witness6 (enc := enc) (C := Try.checked) false ⟨#[], #[.agg #[.int .i64 0, .int .i64 0, .int .i64 0], .agg #[.int .u8 0, .int .i64 0]], []⟩ 8 (by kernel_rfl) (by kernel_rfl) (by kernel_rfl) (by kernel_rfl)) ?_
  intro W base args ds gs before hval0 hW hcnd _
  have hval : ∀ (j : Nat) t v, Try.f4.params[j]? = some t → args[j]? = some v → Value.okWide Try.prog W .any base t v := hval0
  have hW' : DataW.Whole enc Try.prog Try.f4.params.toList Rows.fenceDoesSpec.vars false W args.toList ds gs before := hW
  obtain ⟨p, q, hA0, hV, rfl, hfz, hnd⟩ := hW
  have hA : DataW.TrodAll enc Try.prog W 0 (fun _ => true) true Try.f4.params.toList args.toList ds p := hA0
  rw [Try.params4] at hA hval
  obtain ⟨v0, vs0, d0, ds0, p0, q0, hargs, rfl, rfl, h0, r0⟩ := trodAll_cons hA
  obtain ⟨v1, vs1, d1, ds1, p1, q1, rfl, rfl, rfl, h1, r1⟩ := trodAll_cons r0
  obtain ⟨rfl, rfl, rfl⟩ := trodAll_nil r1
  obtain rfl : args = #[v0, v1] := by cases args; simp_all
  obtain ⟨c0, c1, c2, y0, y1, y2, m, rfl, _, _, hy0, hy1, hy2⟩ := Joins.open_agg3 Try.underlying23 (by kernel_rfl) cells23 (hval 0 23 v0 rfl rfl) h0
  obtain ⟨a0, e0, _, _⟩ := DataW.trod_int Try.underlying3 hy0
  obtain ⟨a1, e1, _, _⟩ := DataW.trod_int Try.underlying3 hy1
  obtain ⟨a2, e2, _, _⟩ := DataW.trod_int Try.underlying3 hy2
  simp at e0 e1 e2
  subst e0 e1 e2
  obtain ⟨b0, b1, z0, z1, n, rfl, _, _, hz0, hz1⟩ := Joins.open_agg2 Try.underlying31 (by kernel_rfl) cells31 (hval 1 31 v1 rfl rfl) h1
  obtain ⟨a3, e3, _, w3⟩ := DataW.trod_int Try.underlying5 hz0
  obtain ⟨a4, e4, _, _⟩ := DataW.trod_int Try.underlying3 hz1
  simp at e3 e4
  subst e3 e4
  refine (fdoes_walk a0 a1 a2 a3 a4 (u8_range w3).1 (u8_range w3).2 W).mono fun e W' ⟨he, hb⟩ => ?_
  subst he
  exact ⟨_, rfl, lawPost hW' rfl (by kernel_rfl) Try.underlying4 rfl laidOut (by rw [Try.params4]; intro t ht; simp at ht; rcases ht with rfl | rfl <;> exact ⟨by kernel_rfl, of_decide_eq_true (by kernel_rfl)⟩) hb⟩

theorem does_holds : Rows.FenceDoesSaid :=
  OpenClaim.holds_of_wide 4 Try.f4 rfl rfl rfl rfl rfl rfl rfl ⟨rfl, rfl, rfl, rfl, rfl⟩ rfl rfl rfl rfl rfl (by kernel_rfl) Try.func4 (by kernel_rfl)
    (of_decide_eq_true (by kernel_rfl)) (by unfold Func.isWrapper; first | (rw [if_pos (by decide +kernel)]; kernel_rfl) | (rw [if_neg (by decide +kernel)]; exact ⟨rfl, rfl⟩))
    (fun os started H enc _ => fdoes_lifted os started H enc)
#print axioms does_holds
end Go.Proofs.Ytjepdlmdemlkmaa
