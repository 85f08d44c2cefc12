/- An array of bytes that is handed in. No program is named here but by its variable. Conditions: none. -/
import Derived.Test.YtgmnigobappjbaaArr
import Derived.ProofKit
import Derived.OpenShut
namespace Go.Proofs.Ytgmnigobappjbaa
open Go.ChangeShapes Go.WideShapes Go.ChangeAt Go.RowKit

section
variable {H : Type} {enc : TypeId × Value → H} {P : Program} {w : World} {base : Nat} {spare : Nat → Bool} {held : Bool}

theorem open_bytes {r : Reach} {b0 : Nat} {t e : TypeId} {n : Nat} {v : Value} {d : DataW H} {p : List MemPlace} (ht : P.underlying t = some (.array n e)) (he : P.underlying e = some (.int .u8)) (hce : P.cellsOf e = 1) (hct : P.cellsOf t = n)
    (hv : Value.okWide P w r b0 t v) (h : DataW.Trod enc P w base spare held t v d p) : ∃ f : Nat → UInt8, v = .agg (arr n f) := by
  unfold Value.okWide at hv
  rw [ht] at hv
  obtain ⟨cs, rfl, hsz, _⟩ := hv
  obtain ⟨fuel, hf⟩ := h
  obtain ⟨xs, m, _, _, hl, hxl, hx⟩ := DataW.trod_array ht hf
  have hcell : ∀ i, i < n → ∃ b : UInt8, cs[i]? = some (byt b) := fun i hi => by
    have h1 := hx i hi
    rw [List.getElem?_eq_getElem (by omega)] at h1
    obtain ⟨z, hc, _, hw⟩ := DataW.trod_int he h1
    have h2 : cs[i]? = some (.int .u8 z) := by
      have := congrArg (·[0]?) hc
      simpa [hce, List.getElem?_take, List.getElem?_drop, Value.cells] using this
    have hz : 0 ≤ z ∧ z ≤ 255 := by simpa [Lit.wf, IntKind.min, IntKind.max, IntKind.signed, IntKind.bits] using hw
    refine ⟨UInt8.ofNat z.toNat, ?_⟩
    have e : ((UInt8.ofNat z.toNat).toNat : Int) = z := by
      simp only [UInt8.toNat_ofNat']
      omega
    rw [h2, byt, e]
  refine ⟨fun i => if h : i < n then (hcell i h).choose else 0, ?_⟩
  congr 1
  apply Array.ext_getElem?
  intro i
  rw [arr_get]
  by_cases hi : i < n
  · rw [if_pos hi, dif_pos hi]
    exact (hcell i hi).choose_spec
  · rw [if_neg hi]
    exact Array.getElem?_eq_none (by omega)
end
end Go.Proofs.Ytgmnigobappjbaa
