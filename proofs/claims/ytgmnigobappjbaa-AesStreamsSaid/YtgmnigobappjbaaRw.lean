/- A text, made bytes: a row that bears a mark behind its last cell. No program is named here but by its variable. Conditions: none. -/
import Derived.Test.YtgmnigobappjbaaCp
namespace Go.Proofs.Ytgmnigobappjbaa
open Go.RowKit

theorem cell_ofF {w : World} {b : Nat} {cs : Array Value} {t : TypeId} {fr : Nat × Nat} (h : w.heap[b]? = some (.cells cs t fr)) (j : Nat) : w.cell? ⟨b, j, none⟩ = cs[j]? := by
  simp [World.cell?, h]
theorem free_ofF {w : World} {b N : Nat} {cs : Array Value} {t : TypeId} (h : w.heap[b]? = some (.cells cs t (N, N + 1))) {j : Nat} (hj : j < N) : w.frozen? ⟨b, j, none⟩ = false := by
  simp [World.frozen?, h]
  omega
theorem set_atF {w : World} {b j : Nat} {u : Value} {cs : Array Value} {t : TypeId} {fr : Nat × Nat} (h : w.heap[b]? = some (.cells cs t fr)) : (w.setCell ⟨b, j, none⟩ u).heap[b]? = some (.cells (cs.setIfInBounds j u) t fr) := by
  simp [World.setCell, Array.getElem?_modify, h]

/-- A text's bytes. -/
def sF (s : ByteArray) : Nat → UInt8 := fun j => s.data.toList.getD j 0
def only (n : Nat) (f : Nat → UInt8) : Nat → UInt8 := fun j => if j < n then f j else 0

theorem bytesRow_arr (s : ByteArray) (cap : Nat) : bytesRow s cap = arr (s.size + (cap - s.size)) (only s.size (sF s)) := by
  apply Array.ext_getElem?
  intro j
  have hs : s.data.size = s.size := rfl
  rw [arr_get]
  unfold bytesRow only sF
  rw [Array.getElem?_append, Array.size_map, hs]
  by_cases h : j < s.size
  · rw [if_pos h, if_pos (by omega), if_pos h, Array.getElem?_map, Array.getElem?_eq_getElem (by omega)]
    have h2 : s.data[j]? = some (s.data[j]'(by omega)) := Array.getElem?_eq_getElem (by omega)
    simp [List.getD, h2]
  · rw [if_neg h, if_neg h, Array.getElem?_replicate]
    by_cases h2 : j < s.size + (cap - s.size)
    · rw [if_pos (by omega), if_pos h2]
      rfl
    · rw [if_neg (by omega), if_neg h2]

theorem txt_self (s : ByteArray) : txt s.size (sF s) = s := by
  apply ByteArray.ext
  apply Array.toList_inj.1
  rw [txt_list]
  have hl : s.data.toList.length = s.size := rfl
  apply List.ext_getElem?
  intro i
  rw [List.getElem?_map]
  by_cases h : i < s.size
  · rw [List.getElem?_range h, List.getElem?_eq_getElem (by omega)]
    simp only [Option.map_some, sF, List.getD_eq_getElem?_getD]
    rw [List.getElem?_eq_getElem (by omega)]
    rfl
  · rw [List.getElem?_eq_none (by simp; omega), List.getElem?_eq_none (by omega)]
    rfl

theorem wpList_of_text {P : Program} {ops : Array Oper} {rest : List Oper} {o : Oper} {a : Act} {w : World} {Q : Exit → Act → World → Prop} (hgd : o.guard = none) (src dst e : TypeId) (x : Operand) (ho : o.op = .convert src dst x)
    (hs : P.underlying src = some .string) (hd : P.underlying dst = some (.slice e)) (he : P.underlying e = some (.int .u8)) (s : ByteArray) (hx : a.eval x = .string s)
    (h : ∀ N cap : Nat, s.size ≤ N → wpList P ops Q rest (a.put o.dst (.slice (some ⟨w.heap.size, 0, none⟩) s.size cap)) (w.drew.alloc (.cells (arr N (only s.size (sF s))) e (N, N + 1)))) : wpList P ops Q (o :: rest) a w :=
  wpList_plain hgd fun K hK => by
    have hr := run_bytes_of_string (P := P) w src dst e s hs hd he
    rw [bytesRow_arr, arr_size] at hr
    unfold Oper.wp execOp
    simp only [ho, hx, Sem.run_bind, Sem.run_pure, Result.andThen_ok, hr]
    exact hK _ _ (h _ _ (by omega))

end Go.Proofs.Ytgmnigobappjbaa
