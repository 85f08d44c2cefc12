/- A mix that is handed in. Conditions: none. -/
import Derived.Test.YtgjdkdfgfbonfaaN3
import Derived.ProofKit
import Derived.OpenShut
import Derived.SliceStrings
import Derived.Lib.SmallJoins
namespace Go.Proofs.Ytgjdkdfgfbonfaa
open Go.ChangeShapes Go.WideShapes Go.ChangeAt Go.RowKit

section
variable {H : Type} {enc : TypeId × Value → H} {W : World}

theorem cnt25 : Try.prog.cellsOf 25 = 23 := by kernel_rfl
theorem cnt22 : Try.prog.cellsOf 22 = 18 := by kernel_rfl
theorem cnt3 : Try.prog.cellsOf 3 = 1 := by kernel_rfl
theorem cnt9 : Try.prog.cellsOf 9 = 1 := by kernel_rfl
theorem cnt23 : Try.prog.cellsOf 23 = 1 := by kernel_rfl

theorem open_texts {fuel : Nat} {v : Value} {x : DataW H × List MemPlace} (h : DataW.trod enc Try.prog W 0 (fun _ => true) true fuel 23 [v] = some x) : ∃ l, TextsAt W v l := by
  rcases _root_.Go.ChangeShapes.open_strings Try.underlying23 Try.underlying9 cnt9 h with ⟨h0, _⟩ | ⟨a, len, cap, ss, hcs, _, hlc, hcm, hl, _, hc, _⟩
  · simp only [List.cons.injEq, and_true] at h0
    subst h0
    exact ⟨[], none, 0, rfl, by unfold maxLen; simp, .inl rfl⟩
  · simp only [List.cons.injEq, and_true] at hcs
    subst hcs
    simp only [if_true] at hl
    refine ⟨ss.take len, some a, cap, by simp [List.length_take]; omega, by simp [List.length_take]; omega, ?_⟩
    rcases Nat.eq_zero_or_pos len with h0 | hpos
    · exact .inl (by subst h0; rfl)
    · right
      obtain ⟨b, off, spot⟩ := a
      have h0 := hc 0 (by omega)
      have hspot : spot = none := by
        cases spot with
        | none => rfl
        | some _ =>
          simp [World.cell?, Addr.add] at h0
          split at h0 <;> cases h0
      subst hspot
      have hadd : ∀ i, (⟨b, off, none⟩ : Addr).add i = ⟨b, off + i, none⟩ := fun i => by unfold Addr.add; split <;> simp_all
      refine ⟨b, off, rfl, ?_, fun i s hi => ?_⟩
      · rw [hadd] at h0
        simp only [World.cell?] at h0
        cases hh : W.heap[b]? with
        | none => simp [hh] at h0
        | some o => exact lt_of_heap hh
      · have hilt := (List.getElem?_eq_some_iff.1 hi).1
        rw [List.length_take] at hilt
        rw [List.getElem?_take, if_pos (by omega)] at hi
        have := hc i (by omega)
        rw [hadd] at this
        rw [this]
        simp [List.getD, hi]

theorem open_mix {base : Nat} {v : Value} {d : DataW H} {p : List MemPlace} (hv : Value.okWide Try.prog W .any base 25 v) (h : DataW.Trod enc Try.prog W 0 (fun _ => true) true 25 v d p) : ∃ C M, v = .agg C ∧ MixAt W C M := by
  obtain ⟨C, rfl, hsz⟩ := okWide_struct Try.underlying25 hv
  rw [cnt25] at hsz
  obtain ⟨fuel, hf⟩ := h
  obtain ⟨xs, q, _, _, _, hxl, hfld⟩ := DataW.trod_struct Try.underlying25 hf
  have hx : ∀ i, i < 6 → ∃ y, xs[i]? = some y := fun i hi => ⟨_, List.getElem?_eq_getElem (by rw [hxl]; exact hi)⟩
  obtain ⟨y0, e0⟩ := hx 0 (by omega)
  obtain ⟨y1, e1⟩ := hx 1 (by omega)
  obtain ⟨y2, e2⟩ := hx 2 (by omega)
  obtain ⟨y3, e3⟩ := hx 3 (by omega)
  obtain ⟨y4, e4⟩ := hx 4 (by omega)
  obtain ⟨y5, e5⟩ := hx 5 (by omega)
  have h0 : DataW.trod enc Try.prog W 0 (fun _ => true) true q 22 ((C.toList.drop 0).take (Try.prog.cellsOf 22)) = xs[0]? := hfld 0 _ rfl
  have h1 : DataW.trod enc Try.prog W 0 (fun _ => true) true q 3 ((C.toList.drop 18).take (Try.prog.cellsOf 3)) = xs[1]? := hfld 1 _ rfl
  have h2 : DataW.trod enc Try.prog W 0 (fun _ => true) true q 3 ((C.toList.drop 19).take (Try.prog.cellsOf 3)) = xs[2]? := hfld 2 _ rfl
  have h3 : DataW.trod enc Try.prog W 0 (fun _ => true) true q 3 ((C.toList.drop 20).take (Try.prog.cellsOf 3)) = xs[3]? := hfld 3 _ rfl
  have h4 : DataW.trod enc Try.prog W 0 (fun _ => true) true q 23 ((C.toList.drop 21).take (Try.prog.cellsOf 23)) = xs[4]? := hfld 4 _ rfl
  have h5 : DataW.trod enc Try.prog W 0 (fun _ => true) true q 23 ((C.toList.drop 22).take (Try.prog.cellsOf 23)) = xs[5]? := hfld 5 _ rfl
  rw [e0] at h0
  rw [e1] at h1
  rw [e2] at h2
  rw [e3] at h3
  rw [e4] at h4
  rw [e5] at h5
  simp only [cnt22, cnt3, cnt23, List.drop_zero] at h0 h1 h2 h3 h4 h5
  have one : ∀ k, k < 23 → ∃ u, C[k]? = some u ∧ (C.toList.drop k).take 1 = [u] := fun k hk => by
    have hl : k < C.toList.length := by simpa [hsz] using hk
    refine ⟨C[k]'(by omega), Array.getElem?_eq_getElem (by omega), ?_⟩
    rw [List.drop_eq_getElem_cons hl]
    simp
  obtain ⟨u1, g1, t1⟩ := one 18 (by omega)
  obtain ⟨u2, g2, t2⟩ := one 19 (by omega)
  obtain ⟨u3, g3, t3⟩ := one 20 (by omega)
  obtain ⟨u4, g4, t4⟩ := one 21 (by omega)
  obtain ⟨u5, g5, t5⟩ := one 22 (by omega)
  rw [t1] at h1
  rw [t2] at h2
  rw [t3] at h3
  rw [t4] at h4
  rw [t5] at h5
  obtain ⟨z1, c1, _, _⟩ := DataW.trod_int Try.underlying3 h1
  obtain ⟨z2, c2, _, _⟩ := DataW.trod_int Try.underlying3 h2
  obtain ⟨z3, c3, _, _⟩ := DataW.trod_int Try.underlying3 h3
  simp only [List.cons.injEq, and_true] at c1 c2 c3
  subst c1 c2 c3
  obtain ⟨lp, hlp⟩ := open_texts h4
  obtain ⟨lv, hlv⟩ := open_texts h5
  obtain ⟨ws, m, _, _, _, hwl, hw⟩ := DataW.trod_array Try.underlying22 h0
  have hcell : ∀ k, k < 18 → ∃ z, C[k]? = some (.int .i64 z) := fun k hk => by
    have hk1 := hw k hk
    rw [cnt3, List.getElem?_eq_getElem (by omega)] at hk1
    obtain ⟨z, hc, _, _⟩ := DataW.trod_int Try.underlying3 hk1
    refine ⟨z, ?_⟩
    have := congrArg (·[0]?) hc
    simpa [List.getElem?_take, List.getElem?_drop, hk] using this
  refine ⟨C, ⟨fun k => if h : k < 18 then (hcell k h).choose else 0, z1, z2, z3, lp, lv⟩, rfl, ⟨u4, u5, ⟨hsz, fun k hk => ?_, g1, g2, g3, g4, g5⟩, hlp, hlv⟩⟩
  show C[k]? = some (.int .i64 (if h : k < 18 then (hcell k h).choose else 0))
  rw [dif_pos hk]
  exact (hcell k hk).choose_spec

end
end Go.Proofs.Ytgjdkdfgfbonfaa
