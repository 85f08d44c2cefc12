/- Rows of bytes as functions. No program is named here. Conditions: none. -/
import Derived.Laws.Tables
import Derived.WalkKit
import Derived.Below
namespace Go.Proofs.Ytgmnigobappjbaa
open Go.RowKit

abbrev byt (b : UInt8) : Value := .int .u8 (b.toNat : Int)
/-- A row of n bytes. -/
def arr (n : Nat) (f : Nat → UInt8) : Array Value := Array.ofFn (n := n) fun i => byt (f i)
def upd8 (f : Nat → UInt8) (i : Nat) (v : UInt8) : Nat → UInt8 := fun j => if j = i then v else f j

theorem arr_size (n : Nat) (f : Nat → UInt8) : (arr n f).size = n := by simp [arr]
theorem arr_at {n : Nat} {f : Nat → UInt8} {i : Nat} (h : i < n) : (arr n f)[i]? = some (byt (f i)) := by
  simp [arr, h]
theorem arr_ext {n : Nat} {f g : Nat → UInt8} (h : ∀ i, i < n → f i = g i) : arr n f = arr n g := by
  unfold arr
  congr 1
  funext i
  rw [h i i.isLt]
theorem arr_get (n : Nat) (f : Nat → UInt8) (i : Nat) : (arr n f)[i]? = if i < n then some (byt (f i)) else none := by
  by_cases h : i < n
  · rw [if_pos h, arr_at h]
  · rw [if_neg h]
    exact Array.getElem?_eq_none (by rw [arr_size]; omega)
theorem arr_set {n : Nat} {f : Nat → UInt8} {i : Nat} (v : UInt8) : (arr n f).setIfInBounds i (byt v) = arr n (upd8 f i v) := by
  apply Array.ext_getElem?
  intro j
  rw [Array.getElem?_setIfInBounds, arr_size, arr_get, arr_get]
  unfold upd8
  by_cases e : i = j
  · subst e
    simp
  · simp [e, Ne.symm e]
theorem arr_extract {n m off : Nat} {f : Nat → UInt8} (h : off + m ≤ n) : (arr n f).extract off (off + m) = arr m (fun i => f (off + i)) := by
  apply Array.ext
  · simp [arr]; omega
  · intro j h1 h2
    simp [arr]
theorem arr_inj {n : Nat} {f g : Nat → UInt8} (h : arr n f = arr n g) : ∀ i, i < n → f i = g i := by
  intro i hi
  have h1 := arr_at (f := f) hi
  rw [h, arr_at hi] at h1
  simp only [byt, Option.some.injEq, Value.int.injEq, true_and] at h1
  exact (UInt8.toNat_inj.1 (by omega)).symm
theorem arr_ones {n : Nat} {f : Nat → UInt8} : (arr n f).all (·.oneCell') = true := by
  rw [Array.all_eq_true]
  intro i hi
  simp [arr, Value.oneCell']

theorem below_row {B : Nat} {a w : World} (h : Below B a w) {g : Nat} (hg : B ≤ g) (c : Array Value) : Below B a (w.setRow g c) :=
  ⟨h.os, h.tape, h.output, by simpa using h.size, fun k hk => (setRow_other _ _ _ _ (by omega)).trans (h.block k hk)⟩

/-- Bytes from off on, taken from elsewhere. -/
def spl (f : Nat → UInt8) (off m : Nat) (g : Nat → UInt8) : Nat → UInt8 := fun j => if off ≤ j ∧ j < off + m then g (j - off) else f j
theorem arr_splice {n m off : Nat} {f g : Nat → UInt8} (h : off + m ≤ n) : ((arr n f).toList.take off ++ ((arr m g).toList ++ (arr n f).toList.drop (off + m))).toArray = arr n (spl f off m g) := by
  apply Array.ext_getElem?
  intro j
  have hl : ∀ (k : Nat) (q : Nat → UInt8), (arr k q).toList.length = k := fun k q => by rw [Array.length_toList, arr_size]
  have hg : ∀ (k : Nat) (q : Nat → UInt8) (i : Nat), (arr k q).toList[i]? = if i < k then some (byt (q i)) else none := fun k q i => by rw [Array.getElem?_toList, arr_get]
  rw [List.getElem?_toArray, arr_get, List.getElem?_append, List.length_take, hl, List.getElem?_append, hl, List.getElem?_take, List.getElem?_drop, hg, hg, hg]
  unfold spl
  by_cases h1 : j < off
  · rw [if_pos (by omega), if_pos h1, if_pos (by omega), if_pos (by omega), if_neg (by omega)]
  · rw [if_neg (by omega), show min off n = off from by omega]
    by_cases h2 : j < off + m
    · rw [if_pos (by omega), if_pos (by omega), if_pos (by omega), if_pos (by omega)]
    · rw [if_neg (by omega), show off + m + (j - off - m) = j from by omega, if_neg (show ¬ (off ≤ j ∧ j < off + m) from by omega)]
theorem arr4 (g : Nat → UInt8) : arr 4 g = #[byt (g 0), byt (g 1), byt (g 2), byt (g 3)] := by
  apply Array.ext_getElem?
  intro j
  rw [arr_get]
  rcases j with _ | _ | _ | _ | j <;> simp

end Go.Proofs.Ytgmnigobappjbaa
