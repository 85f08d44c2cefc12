/- The mixes of ScriptKnown, as plain data. Conditions: none. -/
import Derived.Test.YtgjdkdfgfbonfaaWk
import Derived.Great.Walk
import Derived.Laws.CopyRow
import Derived.Deep.OwnRows
namespace Go.Proofs.Ytgjdkdfgfbonfaa
open Go.RowKit

def kM : Mx := { W := fun k => if k = 11 then 2 else if k = 16 then 1 else 0, nd := 1, pk := 1, tk := 1, P := [⟨#[]⟩], V := [⟨#[]⟩] }
def wM : Nat → Mx
  | 0 => { kM with W := fun _ => 0 }
  | 1 => { kM with W := fun k => if k = 0 then 1 else kM.W k }
  | 2 => { kM with W := fun k => if k = 3 then 1001 else kM.W k }
  | 3 => { kM with W := fun k => if k = 3 then -1 else kM.W k }
  | 4 => { kM with nd := 0 }
  | 5 => { kM with tk := 1001 }
  | 6 => { kM with P := [] }
  | _ => { kM with V := List.replicate 51 ⟨#[]⟩ }
theorem eight {i : Nat} (h : i < 8) : i = 0 ∨ i = 1 ∨ i = 2 ∨ i = 3 ∨ i = 4 ∨ i = 5 ∨ i = 6 ∨ i = 7 := by grind
theorem kM_right : rightB kM = true := by decide +kernel
theorem kM_0 : kindN kM 0 = 11 := by decide +kernel
theorem kM_1 : kindN kM 1 = 11 := by decide +kernel
theorem kM_2 : kindN kM 2 = 16 := by decide +kernel
theorem kM_3 : kindN kM 3 = 0 := by decide +kernel
theorem kM_m : kindN kM (-1) = 0 := by decide +kernel
theorem kM_none : cntN kM 0 = 0 := by decide +kernel
theorem kM_most : cntN kM 5000 = 4096 := by decide +kernel
theorem wM_wrong {i : Nat} (h : i < 8) : rightB (wM i) = false := by
  rcases eight h with rfl | rfl | rfl | rfl | rfl | rfl | rfl | rfl <;> decide +kernel

/-- The mix; before its weights are laid. -/
def kc (p v : Value) : Array Value := #[.int .i64 0, .int .i64 0, .int .i64 0, .int .i64 0, .int .i64 0, .int .i64 0, .int .i64 0, .int .i64 0, .int .i64 0, .int .i64 0, .int .i64 0, .int .i64 2, .int .i64 0, .int .i64 0, .int .i64 0, .int .i64 0, .int .i64 1, .int .i64 0, .int .i64 1, .int .i64 1, .int .i64 1, p, v]
def kc0 (p v : Value) : Array Value := #[.int .i64 0, .int .i64 0, .int .i64 0, .int .i64 0, .int .i64 0, .int .i64 0, .int .i64 0, .int .i64 0, .int .i64 0, .int .i64 0, .int .i64 0, .int .i64 0, .int .i64 0, .int .i64 0, .int .i64 0, .int .i64 0, .int .i64 0, .int .i64 0, .int .i64 1, .int .i64 1, .int .i64 1, p, v]
def wC (p v q : Value) : Nat → Array Value
  | 0 => #[.int .i64 0, .int .i64 0, .int .i64 0, .int .i64 0, .int .i64 0, .int .i64 0, .int .i64 0, .int .i64 0, .int .i64 0, .int .i64 0, .int .i64 0, .int .i64 0, .int .i64 0, .int .i64 0, .int .i64 0, .int .i64 0, .int .i64 0, .int .i64 0, .int .i64 1, .int .i64 1, .int .i64 1, p, v]
  | 1 => #[.int .i64 1, .int .i64 0, .int .i64 0, .int .i64 0, .int .i64 0, .int .i64 0, .int .i64 0, .int .i64 0, .int .i64 0, .int .i64 0, .int .i64 0, .int .i64 2, .int .i64 0, .int .i64 0, .int .i64 0, .int .i64 0, .int .i64 1, .int .i64 0, .int .i64 1, .int .i64 1, .int .i64 1, p, v]
  | 2 => #[.int .i64 0, .int .i64 0, .int .i64 0, .int .i64 1001, .int .i64 0, .int .i64 0, .int .i64 0, .int .i64 0, .int .i64 0, .int .i64 0, .int .i64 0, .int .i64 2, .int .i64 0, .int .i64 0, .int .i64 0, .int .i64 0, .int .i64 1, .int .i64 0, .int .i64 1, .int .i64 1, .int .i64 1, p, v]
  | 3 => #[.int .i64 0, .int .i64 0, .int .i64 0, .int .i64 (-1), .int .i64 0, .int .i64 0, .int .i64 0, .int .i64 0, .int .i64 0, .int .i64 0, .int .i64 0, .int .i64 2, .int .i64 0, .int .i64 0, .int .i64 0, .int .i64 0, .int .i64 1, .int .i64 0, .int .i64 1, .int .i64 1, .int .i64 1, p, v]
  | 4 => #[.int .i64 0, .int .i64 0, .int .i64 0, .int .i64 0, .int .i64 0, .int .i64 0, .int .i64 0, .int .i64 0, .int .i64 0, .int .i64 0, .int .i64 0, .int .i64 2, .int .i64 0, .int .i64 0, .int .i64 0, .int .i64 0, .int .i64 1, .int .i64 0, .int .i64 0, .int .i64 1, .int .i64 1, p, v]
  | 5 => #[.int .i64 0, .int .i64 0, .int .i64 0, .int .i64 0, .int .i64 0, .int .i64 0, .int .i64 0, .int .i64 0, .int .i64 0, .int .i64 0, .int .i64 0, .int .i64 2, .int .i64 0, .int .i64 0, .int .i64 0, .int .i64 0, .int .i64 1, .int .i64 0, .int .i64 1, .int .i64 1, .int .i64 1001, p, v]
  | 6 => #[.int .i64 0, .int .i64 0, .int .i64 0, .int .i64 0, .int .i64 0, .int .i64 0, .int .i64 0, .int .i64 0, .int .i64 0, .int .i64 0, .int .i64 0, .int .i64 2, .int .i64 0, .int .i64 0, .int .i64 0, .int .i64 0, .int .i64 1, .int .i64 0, .int .i64 1, .int .i64 1, .int .i64 1, .slice none 0 0, v]
  | _ => #[.int .i64 0, .int .i64 0, .int .i64 0, .int .i64 0, .int .i64 0, .int .i64 0, .int .i64 0, .int .i64 0, .int .i64 0, .int .i64 0, .int .i64 0, .int .i64 2, .int .i64 0, .int .i64 0, .int .i64 0, .int .i64 0, .int .i64 1, .int .i64 0, .int .i64 1, .int .i64 1, .int .i64 1, p, q]
theorem built25 (a1 a2 : Option Addr) (n1 n2 m1 m2 : Nat) : Try.prog.built 25 [(1, .int .i64 1), (2, .int .i64 1), (3, .int .i64 1), (4, .slice a1 n1 m1), (5, .slice a2 n2 m2)] = some (kc0 (.slice a1 n1 m1) (.slice a2 n2 m2)) := by kernel_rfl
def kz : Array Value := #[.int .i64 0, .int .i64 0, .int .i64 0, .int .i64 0, .int .i64 0, .int .i64 0, .int .i64 0, .int .i64 0, .int .i64 0, .int .i64 0, .int .i64 0, .int .i64 0, .int .i64 0, .int .i64 0, .int .i64 0, .int .i64 0, .int .i64 0, .int .i64 0, .int .i64 0, .int .i64 0, .int .i64 0, .slice none 0 0, .slice none 0 0]
theorem zero25 : (Try.prog.info? 25).bind (·.zero) = some (.agg kz) := by kernel_rfl
theorem kc0_one (a1 a2 : Option Addr) (n1 n2 m1 m2 : Nat) : (kc0 (.slice a1 n1 m1) (.slice a2 n2 m2)).all (·.oneCell') = true := by simp [kc0, Value.oneCell']
theorem kc_set (p v : Value) : ((kc0 p v).setIfInBounds 11 (.int .i64 2)).setIfInBounds 16 (.int .i64 1) = kc p v := rfl
def rows8 (c : Array Value) : Array Value := (c.toList ++ c.toList ++ c.toList ++ c.toList ++ c.toList ++ c.toList ++ c.toList ++ c.toList).toArray
def rows1 (c d : Array Value) : Array Value := (d.toList ++ c.toList ++ c.toList ++ c.toList ++ c.toList ++ c.toList ++ c.toList ++ c.toList).toArray
def E0 (p v : Value) : Array Value := rows8 (kc p v)
def E1 (p v : Value) : Array Value := rows1 (kc p v) (wC p v v 0)
def E2 (p v : Value) : Array Value := (E1 p v).setIfInBounds 23 (.int .i64 1)
def E3 (p v : Value) : Array Value := (E2 p v).setIfInBounds 49 (.int .i64 1001)
def E4 (p v : Value) : Array Value := (E3 p v).setIfInBounds 72 (.int .i64 (-1))
def E5 (p v : Value) : Array Value := (E4 p v).setIfInBounds 110 (.int .i64 0)
def E6 (p v : Value) : Array Value := (E5 p v).setIfInBounds 135 (.int .i64 1001)
def E7 (p v : Value) : Array Value := (E6 p v).setIfInBounds 159 (.slice none 0 0)
def E8 (p v q : Value) : Array Value := (E7 p v).setIfInBounds 183 q
theorem built8 (a1 a2 : Option Addr) (n1 n2 m1 m2 : Nat) : Try.prog.builtSlice 25 8 [(0, .agg (kc (.slice a1 n1 m1) (.slice a2 n2 m2))), (1, .agg (kc (.slice a1 n1 m1) (.slice a2 n2 m2))), (2, .agg (kc (.slice a1 n1 m1) (.slice a2 n2 m2))), (3, .agg (kc (.slice a1 n1 m1) (.slice a2 n2 m2))), (4, .agg (kc (.slice a1 n1 m1) (.slice a2 n2 m2))), (5, .agg (kc (.slice a1 n1 m1) (.slice a2 n2 m2))), (6, .agg (kc (.slice a1 n1 m1) (.slice a2 n2 m2))), (7, .agg (kc (.slice a1 n1 m1) (.slice a2 n2 m2)))] = some (E0 (.slice a1 n1 m1) (.slice a2 n2 m2)) := by kernel_rfl
theorem e1_part (p v : Value) : ((E0 p v).toList.take 0 ++ (Array.replicate 18 (Value.int .i64 0)).toList ++ (E0 p v).toList.drop (0 + (Array.replicate 18 (Value.int .i64 0)).size)).toArray = E1 p v := by kernel_rfl
theorem e1_at (p v : Value) : (E1 p v)[23]? = some (.int .i64 0) := by kernel_rfl
theorem e2_at (p v : Value) : (E2 p v)[49]? = some (.int .i64 0) := by kernel_rfl
theorem e3_at (p v : Value) : (E3 p v)[72]? = some (.int .i64 0) := by kernel_rfl
theorem e4_at (p v : Value) : (E4 p v)[110]? = some (.int .i64 1) := by kernel_rfl
theorem e5_at (p v : Value) : (E5 p v)[135]? = some (.int .i64 1) := by kernel_rfl
theorem e6_at (p v : Value) : (E6 p v)[159]? = some p := by kernel_rfl
theorem e7_at (p v : Value) : (E7 p v)[183]? = some v := by kernel_rfl
theorem e8_size (p v q : Value) : (E8 p v q).size = 184 := by kernel_rfl
theorem e8_row (p v q : Value) {i : Nat} (h : i < 8) : (E8 p v q).extract (i * 23) (i * 23 + 23) = wC p v q i := by
  rcases eight h with rfl | rfl | rfl | rfl | rfl | rfl | rfl | rfl <;> kernel_rfl
theorem k18 {k : Nat} (h : k < 18) : k = 0 ∨ k = 1 ∨ k = 2 ∨ k = 3 ∨ k = 4 ∨ k = 5 ∨ k = 6 ∨ k = 7 ∨ k = 8 ∨ k = 9 ∨ k = 10 ∨ k = 11 ∨ k = 12 ∨ k = 13 ∨ k = 14 ∨ k = 15 ∨ k = 16 ∨ k = 17 := by grind
theorem kc_isC (p v : Value) : IsC (kc p v) kM p v := by
  refine ⟨rfl, fun k h => ?_, rfl, rfl, rfl, rfl, rfl⟩
  rcases k18 h with rfl | rfl | rfl | rfl | rfl | rfl | rfl | rfl | rfl | rfl | rfl | rfl | rfl | rfl | rfl | rfl | rfl | rfl <;> rfl
theorem wC_isC (p v q : Value) {i : Nat} (h : i < 8) : ∃ p' v', IsC (wC p v q i) (wM i) p' v' ∧ (p' = p ∧ (wM i).P = [⟨#[]⟩] ∨ p' = .slice none 0 0 ∧ (wM i).P = []) ∧ (v' = v ∧ (wM i).V = [⟨#[]⟩] ∨ v' = q ∧ (wM i).V = List.replicate 51 ⟨#[]⟩) := by
  rcases eight h with rfl | rfl | rfl | rfl | rfl | rfl | rfl | rfl
  case' inr.inr.inr.inr.inr.inr.inl => refine ⟨.slice none 0 0, v, ⟨rfl, fun k h => ?_, rfl, rfl, rfl, rfl, rfl⟩, .inr ⟨rfl, rfl⟩, .inl ⟨rfl, rfl⟩⟩
  case' inr.inr.inr.inr.inr.inr.inr => refine ⟨p, q, ⟨rfl, fun k h => ?_, rfl, rfl, rfl, rfl, rfl⟩, .inl ⟨rfl, rfl⟩, .inr ⟨rfl, rfl⟩⟩
  case' inl => refine ⟨p, v, ⟨rfl, fun k h => ?_, rfl, rfl, rfl, rfl, rfl⟩, .inl ⟨rfl, rfl⟩, .inl ⟨rfl, rfl⟩⟩
  case' inr.inl => refine ⟨p, v, ⟨rfl, fun k h => ?_, rfl, rfl, rfl, rfl, rfl⟩, .inl ⟨rfl, rfl⟩, .inl ⟨rfl, rfl⟩⟩
  case' inr.inr.inl => refine ⟨p, v, ⟨rfl, fun k h => ?_, rfl, rfl, rfl, rfl, rfl⟩, .inl ⟨rfl, rfl⟩, .inl ⟨rfl, rfl⟩⟩
  case' inr.inr.inr.inl => refine ⟨p, v, ⟨rfl, fun k h => ?_, rfl, rfl, rfl, rfl, rfl⟩, .inl ⟨rfl, rfl⟩, .inl ⟨rfl, rfl⟩⟩
  case' inr.inr.inr.inr.inl => refine ⟨p, v, ⟨rfl, fun k h => ?_, rfl, rfl, rfl, rfl, rfl⟩, .inl ⟨rfl, rfl⟩, .inl ⟨rfl, rfl⟩⟩
  case' inr.inr.inr.inr.inr.inl => refine ⟨p, v, ⟨rfl, fun k h => ?_, rfl, rfl, rfl, rfl, rfl⟩, .inl ⟨rfl, rfl⟩, .inl ⟨rfl, rfl⟩⟩
  all_goals rcases k18 h with rfl | rfl | rfl | rfl | rfl | rfl | rfl | rfl | rfl | rfl | rfl | rfl | rfl | rfl | rfl | rfl | rfl | rfl <;> rfl
theorem none_texts (w : World) : TextsAt w (.slice none 0 0) [] := ⟨none, 0, rfl, by unfold maxLen; simp, .inl rfl⟩
theorem wrong_at {w : World} {p v q : Value} (hp : TextsAt w p [⟨#[]⟩]) (hv : TextsAt w v [⟨#[]⟩]) (hq : TextsAt w q (List.replicate 51 ⟨#[]⟩)) {i : Nat} (h : i < 8) : MixAt w (wC p v q i) (wM i) := by
  obtain ⟨p', v', hC, h1, h2⟩ := wC_isC p v q h
  refine ⟨p', v', hC, ?_, ?_⟩
  · rcases h1 with ⟨rfl, e⟩ | ⟨rfl, e⟩
    · rw [e]; exact hp
    · rw [e]; exact none_texts w
  · rcases h2 with ⟨rfl, e⟩ | ⟨rfl, e⟩
    · rw [e]; exact hv
    · rw [e]; exact hq

def s51 : Array Value := ((List.replicate 51 (⟨#[]⟩ : ByteArray)).map Value.string).toArray
theorem made51 : madeCells #[Value.string ⟨#[]⟩] 51 = s51 := by kernel_rfl
theorem info9c : (Try.prog.info? 9).map (fun i => (i.zero, i.size, i.bytes)) = some (some (.string ⟨#[]⟩), 1, 16) := by kernel_rfl
theorem built22z : Try.prog.built 22 [] = some (Array.replicate 18 (.int .i64 0)) := by kernel_rfl
theorem e0_size (p v : Value) : (E0 p v).size = 184 := by kernel_rfl
theorem rep_one : (Array.replicate 18 (Value.int .i64 0)).all (·.oneCell') = true := by kernel_rfl
theorem cnt_bad {M : Mx} (hr : rightB M = false) (n : Int) : cntN M n = 0 := by
  unfold cntN
  rw [hr, if_neg Bool.false_ne_true]
theorem kind_wrong {M : Mx} (h : rightB M = false) (n : Int) : kindN M n = 0 := by
  unfold kindN
  rw [h]
  rfl
/-- A part of a block read as a struct, behind a guard that bids it. -/
theorem wpList_load_part_w {P : Program} {ops : Array Oper} {rest : List Oper} {o : Oper} {a : Act} {w : World} {Q : Exit → Act → World → Prop} (hw : Region.wanted o (yielded ops a.tmps) = true) (ty : TypeId) (x : Operand) (ho : o.op = .load ty x)
    (g off n : Nat) (hx : a.eval x = .pointer (some ⟨g, off, none⟩)) (t : TypeId) (cs : Array Value) (fr : Nat × Nat) (d : TypeDesc) (hg : w.heap[g]? = some (.cells cs t fr))
    (hu : P.underlying ty = some d) (hd : (match d with | .struct _ | .array _ _ => true | _ => false) = true) (hi : (P.info? ty).map (·.size) = some n) (hn : off + n ≤ cs.size)
    (h : wpList P ops Q rest (a.put o.dst (.agg (cs.extract off (off + n)))) w) : wpList P ops Q (o :: rest) a w := by
  unfold wpList
  rw [if_pos hw]
  exact .inl (wp_load_part ty x ho g off n hx t cs fr d hg hu hd hi hn h)

/-- A struct or an array stored into a part of a block. -/
theorem wpList_store_part {P : Program} {ops : Array Oper} {rest : List Oper} {op : Oper} {a : Act} {w : World} {Q : Exit → Act → World → Prop} (hgd : op.guard = none) (ty : TypeId) (x y : Operand) (ho : op.op = .store ty x y)
    (g o : Nat) (cells : Array Value) (hx : a.eval x = .pointer (some ⟨g, o, none⟩)) (hy : a.eval y = .agg cells) (t : TypeId) (cur : Array Value) (hg : w.heap[g]? = some (.cells cur t (0, 0)))
    (hi : (P.info? ty).map (·.size) = some cells.size) (hn : o + cells.size ≤ cur.size) (h1 : cells.all (·.oneCell') = true)
    (new : Array Value) (hnew : (cur.toList.take o ++ cells.toList ++ cur.toList.drop (o + cells.size)).toArray = new)
    (h : wpList P ops Q rest (a.put op.dst undef) (w.setRow g new)) : wpList P ops Q (op :: rest) a w :=
  wpList_plain hgd fun _ hK => by
    have hs := run_storeCells_at (P := P) g o t cells.toList 0 cur w hg (by simpa using hn) (fun v hv => (Array.all_eq_true_iff_forall_mem.1 h1) v (by simpa using hv))
    have hr : (storeVar ty ⟨g, o, none⟩ (.agg cells)).run P w = .ok () (w.setRow g new) := by
      cases hq : P.info? ty with
      | none => simp [hq] at hi
      | some i =>
        have hsz : cells.size = i.size := by simp [hq] at hi; omega
        rw [← hnew]
        simp only [Nat.add_zero, Array.length_toList] at hs
        simp [storeVar, sizeOf, typeInfo, hq, Value.cells, hsz] at hs ⊢
        exact hs
    unfold Oper.wp execOp
    simp only [ho, hx, hy, Instr.storeAt, Instr.sureAddr, Sem.run_bind, Sem.run_pure, Result.andThen_ok, hr]
    exact hK _ _ h

end Go.Proofs.Ytgjdkdfgfbonfaa
