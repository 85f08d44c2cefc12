/- Numbers that are handed in. Conditions: none. -/
import Derived.Test.YtgjdkdfgfbonfaaOpM
import Derived.ChangeSlices
namespace Go.Proofs.Ytgjdkdfgfbonfaa
open Go.ChangeShapes Go.WideShapes Go.ChangeAt Go.RowKit

/-- Numbers in memory. -/
def IntsAt (w : World) (v : Value) (l : List Int) : Prop :=
  ∃ (a : Option Addr) (cap : Nat), v = .slice a l.length cap ∧ l.length ≤ maxLen ∧ (∀ n ∈ l, -9223372036854775808 ≤ n ∧ n ≤ 9223372036854775807) ∧ (l = [] ∨ ∃ b off, a = some ⟨b, off, none⟩ ∧ b < w.heap.size ∧ ∀ i z, l[i]? = some z → w.cell? ⟨b, off + i, none⟩ = some (.int .i64 z))

section
variable {H : Type} {enc : TypeId × Value → H} {W : World}

theorem open_ints33 {base : Nat} {v : Value} (hv : Value.okWide Try.prog W .any base 33 v) {d : DataW H} {p : List MemPlace} (h : DataW.Trod enc Try.prog W 0 (fun _ => true) true 33 v d p) : ∃ l, IntsAt W v l := by
  obtain ⟨a0, len0, cap0, rfl⟩ := okWide_slice Try.underlying33 hv
  obtain ⟨fuel, hf⟩ := h
  rcases _root_.Go.ChangeShapes.open_ints Try.underlying33 Try.underlying3 cnt3 hf with ⟨h0, _⟩ | ⟨a, len, cap, zs, hcs, _, hlc, hcm, hl, _, hc, hwf⟩
  · replace h0 : [Value.slice a0 len0 cap0] = [.slice none 0 0] := h0
    simp only [List.cons.injEq, and_true] at h0
    rw [h0]
    exact ⟨[], none, 0, rfl, by unfold maxLen; simp, by simp, .inl rfl⟩
  · replace hcs : [Value.slice a0 len0 cap0] = [.slice (some a) len cap] := hcs
    simp only [List.cons.injEq, and_true] at hcs
    rw [hcs]
    simp only [if_true] at hl
    refine ⟨zs.take len, some a, cap, by simp [List.length_take]; omega, by simp [List.length_take]; omega, fun n hn => ?_, ?_⟩
    · have := hwf n (List.mem_of_mem_take hn)
      simpa [Lit.wf, IntKind.min, IntKind.max, IntKind.signed, IntKind.bits] using this
    rcases Nat.eq_zero_or_pos len with h0 | hpos
    · exact .inl (by subst h0; rfl)
    · right
      obtain ⟨b, off, spot⟩ := a
      have h0 := hc 0 (by omega)
      have hspot : spot = none := by
        cases spot with
        | none => rfl
        | some _ =>
          simp [World.cell?, Addr.add] at h0
          split at h0 <;> cases h0
      subst hspot
      have hadd : ∀ i, (⟨b, off, none⟩ : Addr).add i = ⟨b, off + i, none⟩ := fun i => by unfold Addr.add; split <;> simp_all
      refine ⟨b, off, rfl, ?_, fun i s hi => ?_⟩
      · rw [hadd] at h0
        simp only [World.cell?] at h0
        cases hh : W.heap[b]? with
        | none => simp [hh] at h0
        | some o => exact lt_of_heap hh
      · have hilt := (List.getElem?_eq_some_iff.1 hi).1
        rw [List.length_take] at hilt
        rw [List.getElem?_take, if_pos (by omega)] at hi
        have := hc i (by omega)
        rw [hadd] at this
        rw [this]
        simp [List.getD, hi]

end
end Go.Proofs.Ytgjdkdfgfbonfaa
