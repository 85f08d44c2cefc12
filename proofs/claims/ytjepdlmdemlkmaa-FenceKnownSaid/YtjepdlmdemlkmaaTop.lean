/- FenceTop: at the greatest epoch nothing is promoted any more, and nothing is heard but that. Conditions: none. -/
import Derived.Test.YtjepdlmdemlkmaaA5
import Derived.Test.YtjepdlmdemlkmaaFrame
import Derived.Test.YtjepdlmdemlkmaaRows
import Derived.Lib.SmallJoins
namespace Go.Proofs.Ytjepdlmdemlkmaa
open Go.RowKit Go.ChangeShapes Go.WideShapes Go.ChangeAt

theorem promoted_is (r s g ep r' s' g' e' : Int) (hx : Hid (doesN r s g 3 ep = (⟨r', s', g'⟩, e'))) (w : World) :
    Calls Try.prog 11 #[.agg #[.int .i64 r, .int .i64 s, .int .i64 g], .int .i64 ep] w fun e w' => e = .returned (.tuple #[.agg #[.int .i64 r', .int .i64 s', .int .i64 g'], .int .i64 e']) ∧ Below w.heap.size w w' := by
  have h := promoted_any r s g ep w
  rw [hx.out] at h
  exact h

theorem heard_is (r s g ep r' s' g' e' : Int) (hx : Hid (doesN r s g 0 ep = (⟨r', s', g'⟩, e'))) (w : World) :
    Calls Try.prog 12 #[.agg #[.int .i64 r, .int .i64 s, .int .i64 g], .int .i64 ep] w fun e w' => e = .returned (.tuple #[.agg #[.int .i64 r', .int .i64 s', .int .i64 g'], .int .i64 e']) ∧ Below w.heap.size w w' := by
  have h := heard_any r s g ep w
  rw [hx.out] at h
  exact h

set_option maxHeartbeats 800000 in
theorem top_early (r s g ep : Int) (h : rightB r 9223372036854775807 g = false ∨ r = 0) (w : World) :
    Calls Try.prog 3 #[.agg #[.int .i64 r, .int .i64 s, .int .i64 g], .int .i64 ep] w fun e w' => e = .returned (.bool true) ∧ Below w.heap.size w w' := by
  by_cases hR : rightB r 9223372036854775807 g = false
  · clear h
    go_enter Try.func3, Try.ntmps3
    go_wp2_with (first | (go_at_call 9; refine (right_any _ _ _ _).mono ?_; rintro e w' ⟨rfl, rfl⟩) | (go_at_call 10; refine (wakes_any _).mono ?_; rintro e w' ⟨rfl, hb⟩))
    go_ret
    refine ⟨rfl, below_of hb (by repeat (first | exact Below.refl _ _ | refine Below.alloc ?_ (by simp <;> omega) _ | refine Below.setCell ?_ (by simp <;> omega) _))⟩
  · obtain rfl : r = 0 := by rcases h with h | h; exact absurd h hR; exact h
    have hR' : rightB 0 9223372036854775807 g = true := by simpa using hR
    clear h hR
    go_enter Try.func3, Try.ntmps3
    go_wp2_with (first | (go_at_call 9; refine (right_any _ _ _ _).mono ?_; rintro e w' ⟨rfl, rfl⟩) | (go_at_call 10; refine (wakes_any _).mono ?_; rintro e w' ⟨rfl, hb⟩))
    go_ret
    refine ⟨rfl, below_of hb (by repeat (first | exact Below.refl _ _ | refine Below.alloc ?_ (by simp <;> omega) _ | refine Below.setCell ?_ (by simp <;> omega) _))⟩

/-- The rest of the walk, with what the two calls answer as plain numbers. -/
theorem top_late (r s g ep p f : Int) (hR : rightB r 9223372036854775807 g = true) (hr : (r == 0) = false) (hp : Hid (doesN r 9223372036854775807 g 3 ep = (⟨r, 9223372036854775807, g⟩, p))) (hf : Hid (doesN r 9223372036854775807 g 0 ep = (⟨r, 9223372036854775807, g⟩, f)))
    (hp0 : (p != 0) = true) (hfe : ((f == 0) == (ep == 9223372036854775807)) = true) (w : World) :
    Calls Try.prog 3 #[.agg #[.int .i64 r, .int .i64 s, .int .i64 g], .int .i64 ep] w fun e w' => e = .returned (.bool true) ∧ Below w.heap.size w w' := by
  go_enter Try.func3, Try.ntmps3
  go_wp2_with (go_at_call 9; refine (right_any _ _ _ _).mono ?_; rintro e w' ⟨rfl, rfl⟩)
  refine (promoted_is _ _ _ _ _ _ _ _ hp _).mono ?_
  rintro e w1 ⟨rfl, hb1⟩
  have hz1 := hb1.size
  simp only [World.size_alloc] at hz1
  have k1 := kept hb1 (old_alloc new_alloc)
  obtain ⟨c0, c1, c2, f0, f1, f2⟩ := cells3 k1
  have hn1 : w.heap.size < w1.heap.size := by omega
  go_wp2_with fail
  refine (heard_is _ _ _ _ _ _ _ _ hf _).mono ?_
  rintro e w2 ⟨rfl, hb2⟩
  have hz2 := hb2.size
  simp only [World.size_alloc] at hz2
  have k2 := kept hb2 (old_alloc k1)
  have k3 := kept hb2 new_alloc
  clear c0 c1 c2 f0 f1 f2 k1
  obtain ⟨c0, c1, c2, f0, f1, f2⟩ := cells3 k2
  obtain ⟨d0, d1, d2, g0, g1, g2⟩ := cells3 k3
  clear k2 k3
  have hn2 : w.heap.size < w2.heap.size := by omega
  have hn3 : w1.heap.size < w2.heap.size := by omega
  go_wp2_with fail
  refine (wakes_any _).mono ?_
  rintro e w3 ⟨rfl, hb3⟩
  go_wp2_with fail
  go_ret
  refine ⟨rfl, ?_⟩
  exact below_of hb3 (Below.alloc (below_of hb2 (Below.alloc (below_of hb1 (by repeat (first | exact Below.refl _ _ | refine Below.alloc ?_ (by simp <;> omega) _ | refine Below.setCell ?_ (by simp <;> omega) _))) (by omega) _)) (by omega) _)

theorem top_any (r s g ep : Int) (hep : ep ≤ 9223372036854775807) (w : World) :
    Calls Try.prog 3 #[.agg #[.int .i64 r, .int .i64 s, .int .i64 g], .int .i64 ep] w fun e w' => e = .returned (.bool true) ∧ Below w.heap.size w w' := by
  by_cases h : rightB r 9223372036854775807 g = false ∨ r = 0
  · exact top_early r s g ep h w
  · have hR : rightB r 9223372036854775807 g = true := by simpa using fun h' => h (.inl h')
    have hr : ¬ r = 0 := fun h' => h (.inr h')
    clear h
    by_cases h1 : ep < 1
    · exact top_late r s g ep 1 1 hR (by simpa using hr) (by unfold Hid; grind [doesN, rightB]) (by unfold Hid; grind [doesN, rightB]) (by decide) (by grind) w
    · by_cases h2 : ep < 9223372036854775807
      · exact top_late r s g ep 12 12 hR (by simpa using hr) (by unfold Hid; grind [doesN, rightB]) (by unfold Hid; grind [doesN, rightB]) (by decide) (by grind) w
      · exact top_late r s g ep 12 0 hR (by simpa using hr) (by unfold Hid; grind [doesN, rightB]) (by unfold Hid; grind [doesN, rightB]) (by decide) (by grind) w

theorem own : ownKnob Try.prog.godebug = none := by kernel_rfl
theorem laidOut : laidOutB Try.prog = true := by kernel_rfl
theorem cells23 : Try.prog.cellsOf 23 = 3 := by kernel_rfl

theorem i64_le {n : Int} (h : (Lit.int .i64 n).wf = true) : n ≤ 9223372036854775807 := by
  simp [Lit.wf, IntKind.min, IntKind.max, IntKind.signed, IntKind.bits] at h
  exact h.2

set_option maxRecDepth 100000 in
theorem top_lifted (os : Os) (started : os.Started) (H : Type) (enc : TypeId × Value → H) :
    ReturnsInHanded {} Try.checked os 3 .any (Rows.fenceTopSpec.pre6 enc Try.prog Try.f3 Rows.fenceTopRow.domain false) (Rows.fenceTopSpec.post enc Try.prog Try.f3 false true false false) := by
  refine returnsInHanded_of_change (C := Try.checked) own started (by kernel_rfl) Try.func3
    (ChangeSpec.witness6 (enc := enc) (C := Try.checked) false ⟨#[], #[.agg #[.int .i64 0, .int .i64 0, .int .i64 0], .int .i64 0], []⟩ 8 (by kernel_rfl) (by kernel_rfl) (by kernel_rfl) (by kernel_rfl)) ?_
  intro W base args ds gs before hval0 hW hcnd _
  have hval : ∀ (j : Nat) t v, Try.f3.params[j]? = some t → args[j]? = some v → Value.okWide Try.prog W .any base t v := hval0
  have hW' : DataW.Whole enc Try.prog Try.f3.params.toList Rows.fenceTopSpec.vars false W args.toList ds gs before := hW
  obtain ⟨p, q, hA0, hV, rfl, hfz, hnd⟩ := hW
  have hA : DataW.TrodAll enc Try.prog W 0 (fun _ => true) true Try.f3.params.toList args.toList ds p := hA0
  rw [Try.params3] at hA hval
  obtain ⟨v0, vs0, d0, ds0, p0, q0, hargs, rfl, rfl, h0, r0⟩ := trodAll_cons hA
  obtain ⟨v1, vs1, d1, ds1, p1, q1, rfl, rfl, rfl, h1, r1⟩ := trodAll_cons r0
  obtain ⟨rfl, rfl, rfl⟩ := trodAll_nil r1
  obtain rfl : args = #[v0, v1] := by cases args; simp_all
  obtain ⟨c0, c1, c2, y0, y1, y2, m, rfl, _, _, hy0, hy1, hy2⟩ := Joins.open_agg3 Try.underlying23 (by kernel_rfl) cells23 (hval 0 23 v0 rfl rfl) h0
  obtain ⟨a0, e0, _, _⟩ := DataW.trod_int Try.underlying3 hy0
  obtain ⟨a1, e1, _, _⟩ := DataW.trod_int Try.underlying3 hy1
  obtain ⟨a2, e2, _, _⟩ := DataW.trod_int Try.underlying3 hy2
  simp at e0 e1 e2
  subst e0 e1 e2
  obtain ⟨ep, rfl, _, _, wep⟩ := open_int Try.underlying3 (hval 1 3 v1 rfl rfl) h1
  refine (top_any a0 a1 a2 ep (i64_le wep) W).mono fun e W' ⟨he, hb⟩ => ?_
  subst he
  exact ⟨_, rfl, lawPost hW' rfl (by kernel_rfl) Try.underlying4 rfl laidOut (by rw [Try.params3]; intro t ht; simp at ht; rcases ht with rfl | rfl <;> exact ⟨by kernel_rfl, of_decide_eq_true (by kernel_rfl)⟩) hb⟩

theorem top_holds : Rows.FenceTopSaid :=
  OpenClaim.holds_of_wide 3 Try.f3 rfl rfl rfl rfl rfl rfl rfl ⟨rfl, rfl, rfl, rfl, rfl⟩ rfl rfl rfl rfl rfl (by kernel_rfl) Try.func3 (by kernel_rfl)
    (of_decide_eq_true (by kernel_rfl)) (by unfold Func.isWrapper; first | (rw [if_pos (by decide +kernel)]; kernel_rfl) | (rw [if_neg (by decide +kernel)]; exact ⟨rfl, rfl⟩))
    (fun os started H enc _ => top_lifted os started H enc)
#print axioms top_holds
end Go.Proofs.Ytjepdlmdemlkmaa
