/- Parts of a row of bytes: loaded, copied. No program is named here but by its variable. Conditions: none. -/
import Derived.Test.YtgmnigobappjbaaRun
import Derived.Test.YtgmnigobappjbaaArr
import Derived.Test.YtgmnigobappjbaaBase
import Derived.Laws.CopyOwn
import Derived.Laws.IdiomStrings
namespace Go.Proofs.Ytgmnigobappjbaa
open Go.RowKit

theorem wpList_load_arr {P : Program} {ops : Array Oper} {rest : List Oper} {o : Oper} {a : Act} {w : World} {Q : Exit → Act → World → Prop} (hgd : o.guard = none) (ty : TypeId) (x : Operand) (ho : o.op = .load ty x)
    (g off n : Nat) (hx : a.eval x = .pointer (some ⟨g, off, none⟩)) (t : TypeId) (N : Nat) (f : Nat → UInt8) (hg : w.heap[g]? = some (.cells (arr N f) t)) (d : TypeDesc)
    (hu : P.underlying ty = some d) (hd : (match d with | .struct _ | .array _ _ => true | _ => false) = true) (hi : (P.info? ty).map (·.size) = some n) (hn : off + n ≤ N)
    (h : wpList P ops Q rest (a.put o.dst (.agg (arr n fun i => f (off + i)))) w) : wpList P ops Q (o :: rest) a w := by
  refine wpList_load_part hgd ty x ho g off n hx t (arr N f) (0, 0) d hg hu hd hi (by rw [arr_size]; exact hn) ?_
  rw [arr_extract hn]
  exact h

theorem wpList_load_arr' {P : Program} {ops : Array Oper} {rest : List Oper} {o : Oper} {a : Act} {w : World} {Q : Exit → Act → World → Prop} (hgd : o.guard = none) (ty : TypeId) (x : Operand) (ho : o.op = .load ty x)
    (g off n : Nat) (hx : a.eval x = .pointer (some ⟨g, off, none⟩)) (t : TypeId) (N : Nat) (f : Nat → UInt8) (hg : w.heap[g]? = some (.cells (arr N f) t)) (d : TypeDesc)
    (hu : P.underlying ty = some d) (hd : (match d with | .struct _ | .array _ _ => true | _ => false) = true) (hi : (P.info? ty).map (·.size) = some n) (hn : off + n ≤ N)
    (q : Nat → UInt8) (hq : ∀ j, j < n → f (off + j) = q j)
    (h : wpList P ops Q rest (a.put o.dst (.agg (arr n q))) w) : wpList P ops Q (o :: rest) a w := by
  refine wpList_load_arr hgd ty x ho g off n hx t N f hg d hu hd hi hn ?_
  rw [arr_ext hq]
  exact h

theorem wpList_copy_arr {P : Program} {w : World} {ops : Array Oper} {rest : List Oper} {o : Oper} {a : Act} {Q : Exit → Act → World → Prop} (hgd : o.guard = none) (d s : Operand) (dT sT : TypeId)
    (ho : o.op = .call { callee := .builtin .copy, args := #[d, s], argTypes := #[dT, sT] }) (elem : TypeId) (hu : P.underlying dT = some (.slice elem)) (hsz : (P.info? elem).map (·.size) = some 1)
    (g off dLen dCap : Nat) (sb so : Nat) (sLen sCap : Nat) (hd : a.eval d = .slice (some ⟨g, off, none⟩) dLen dCap) (hs : a.eval s = .slice (some ⟨sb, so, none⟩) sLen sCap)
    (N : Nat) (f : Nat → UInt8) (t : TypeId) (hg : w.heap[g]? = some (.cells (arr N f) t)) (m : Nat) (q : Nat → UInt8) (hn : m = Nat.min sLen dLen)
    (hsrc : ∀ j, j < m → w.cell? ⟨sb, so + j, none⟩ = some (byt (q j))) (hfit : off + m ≤ N)
    (h : wpList P ops Q rest (a.put o.dst (goInt m)) (w.setRow g (arr N (spl f off m q)))) : wpList P ops Q (o :: rest) a w := by
  have hl : (arr m q).toList.length = m := by rw [Array.length_toList, arr_size]
  refine wpList_copy_own hgd d s dT sT ho elem hu hsz g off dLen dCap ⟨sb, so, none⟩ sLen sCap hd hs (arr N f) t hg (arr m q).toList (by rw [hl]; exact hn) ?_ (by rw [hl, arr_size]; exact hfit) ?_ ?_
  · intro j v hj
    have hadd : (⟨sb, so, none⟩ : Addr).add j = ⟨sb, so + j, none⟩ := by unfold Addr.add; split <;> simp_all
    rw [Array.getElem?_toList, arr_get] at hj
    split at hj
    · rename_i hlt
      rw [hadd, hsrc j hlt]
      exact hj
    · cases hj
  · intro v hv
    exact Array.all_eq_true_iff_forall_mem.1 (arr_ones (n := m) (f := q)) v (by simpa using hv)
  · rw [hl, arr_splice hfit]
    exact h

/-- A text of n bytes. -/
def txt (n : Nat) (f : Nat → UInt8) : ByteArray := ⟨((List.range n).map f).toArray⟩
theorem txt_size (n : Nat) (f : Nat → UInt8) : (txt n f).size = n := by simp [txt, ByteArray.size]
theorem txt_ext {n : Nat} {f g : Nat → UInt8} (h : ∀ i, i < n → f i = g i) : txt n f = txt n g := by
  unfold txt
  congr 2
  exact List.map_congr_left fun i hi => h i (List.mem_range.1 hi)
theorem txt_list (n : Nat) (f : Nat → UInt8) : (txt n f).data.toList = (List.range n).map f := by simp [txt]

/-- Bytes in memory, made a text. -/
theorem wp_text {P : Program} {o : Oper} {a : Act} {w : World} {K : Act → World → Prop} {Q : Exit → Act → World → Prop} (src dst e : TypeId) (x : Operand) (ho : o.op = .convert src dst x)
    (hs : P.underlying src = some (.slice e)) (he : P.underlying e = some (.int .u8)) (hd : P.underlying dst = some .string) (g off n cap : Nat) (hx : a.eval x = .slice (some ⟨g, off, none⟩) n cap)
    (f : Nat → UInt8) (hc : ∀ j, j < n → w.cell? ⟨g, off + j, none⟩ = some (byt (f j)))
    (h : K (a.put o.dst (.string (txt n f))) w) : o.wp P a w K Q := by
  have hl : ((List.range n).map f).length = n := by simp
  have hr := run_convert_bytes_back (P := P) w src dst e ⟨g, off, none⟩ cap ((List.range n).map f) hs he hd (fun j hj => by
    have hadd : (⟨g, off, none⟩ : Addr).add j = ⟨g, off + j, none⟩ := by unfold Addr.add; split <;> simp_all
    rw [hadd, hc j (by omega)]
    simp)
  rw [hl] at hr
  unfold Oper.wp execOp
  simp only [ho, hx, Sem.run_bind, Sem.run_pure, Result.andThen_ok, hr]
  exact h
theorem wpList_text {P : Program} {ops : Array Oper} {rest : List Oper} {o : Oper} {a : Act} {w : World} {Q : Exit → Act → World → Prop} (hgd : o.guard = none) (src dst e : TypeId) (x : Operand) (ho : o.op = .convert src dst x)
    (hs : P.underlying src = some (.slice e)) (he : P.underlying e = some (.int .u8)) (hd : P.underlying dst = some .string) (g off n cap : Nat) (hx : a.eval x = .slice (some ⟨g, off, none⟩) n cap)
    (f : Nat → UInt8) (hc : ∀ j, j < n → w.cell? ⟨g, off + j, none⟩ = some (byt (f j)))
    (h : wpList P ops Q rest (a.put o.dst (.string (txt n f))) w) : wpList P ops Q (o :: rest) a w :=
  wpList_plain hgd fun _ hK => wp_text src dst e x ho hs he hd g off n cap hx f hc (hK _ _ h)

end Go.Proofs.Ytgmnigobappjbaa
