/- A region that draws its order: its first operations, of which each makes at most new blocks, may be met in the order of the text, each in the frame that holds what all of them yield; behind them the rest in the order of the text. Conditions: the check 'freeChk' of the region's own text; no program is named here. -/
import Derived.WalkKit
import Derived.Below
namespace Go.Proofs.Ytgjdkdfgfbonfaa
open Go.RowKit

namespace Draw

def preds (o : Oper) : List Nat := o.after.toList.filterMap fun e => if Region.binds .any e then some e.on else none

/-- What 'f' steps back from an operation lies ahead of it. -/
def anc (l : List Oper) : Nat → Nat → List Nat
  | 0, _ => []
  | f + 1, i => match l[i]? with
    | none => []
    | some o => preds o ++ (preds o).flatMap (anc l f)

/-- What the operations that are done (D) have yielded (σ) is put into the frame. -/
def puts (D : Nat → Bool) (σ : Nat → Value) : Nat → List Oper → Act → Act
  | _, [], a => a
  | k, o :: rest, a => puts D σ (k + 1) rest (if D k then a.put o.dst (σ k) else a)

def isSelect (o : Oper) : Bool := match o.op with | .select .. => true | _ => false

def freeChk (l : List Oper) (m f : Nat) : Bool :=
  decide (m ≤ l.length) &&
  ((List.range l.length).all fun i => match l[i]? with
    | none => true
    | some o =>
      ((preds o).all fun j => decide (j < i)) &&
      (if i < m then
        !isSelect o &&
        ((List.range m).all fun j => match l[j]? with
          | none => true
          | some oj => match oj.dst with
            | none => true
            | some d => (j == i || o.dst != some d) && (!(o.looksAt l.toArray).contains d || (preds o).contains j))
      else (List.range i).all fun j => (anc l f i).contains j))

/-! ### The frame -/
theorem put_size (a : Act) (d : Option Tmp) (v : Value) : (a.put d v).tmps.size = a.tmps.size := by
  cases d <;> simp [Act.put]

theorem puts_size (D : Nat → Bool) (σ : Nat → Value) : ∀ (l : List Oper) (k : Nat) (a : Act), (puts D σ k l a).tmps.size = a.tmps.size
  | [], _, _ => rfl
  | o :: rest, k, a => by
    simp only [puts]
    rw [puts_size D σ rest]
    split
    · exact put_size _ _ _
    · rfl

theorem put_get_ne (a : Act) (d : Option Tmp) (v : Value) (t : Nat) (h : d ≠ some t) : (a.put d v).tmps[t]? = a.tmps[t]? := by
  cases d with
  | none => rfl
  | some d =>
    have hne : d ≠ t := fun e => h (by rw [e])
    simp [Act.put, Array.getElem?_setIfInBounds_ne hne]

theorem put_get_same (a a' : Act) (d : Option Tmp) (v : Value) (t : Nat) (hs : a.tmps.size = a'.tmps.size) (h : a.tmps[t]? = a'.tmps[t]?) : (a.put d v).tmps[t]? = (a'.put d v).tmps[t]? := by
  cases d with
  | none => exact h
  | some d =>
    by_cases hne : d = t
    · subst hne
      simp [Act.put, Array.getElem?_setIfInBounds, hs]
    · simp [Act.put, Array.getElem?_setIfInBounds_ne hne, h]

/-- Two frames agree at a slot if whatever writes it is done in both or in none, and yields the same. -/
theorem puts_agree {D D' : Nat → Bool} {σ σ' : Nat → Value} (t : Nat) : ∀ (l : List Oper) (k : Nat) (a a' : Act), a.tmps.size = a'.tmps.size → a.tmps[t]? = a'.tmps[t]? →
    (∀ j o, l[j]? = some o → o.dst = some t → D (k + j) = D' (k + j) ∧ (D (k + j) = true → σ (k + j) = σ' (k + j))) → (puts D σ k l a).tmps[t]? = (puts D' σ' k l a').tmps[t]?
  | [], _, _, _, _, h, _ => h
  | o :: rest, k, a, a', hs, h, hd => by
    simp only [puts]
    refine puts_agree t rest (k + 1) _ _ ?_ ?_ ?_
    · have hz : ∀ (b : Act) (v : Value) (c : Prop) [Decidable c], (if c then b.put o.dst v else b).tmps.size = b.tmps.size := fun b v c _ => by
        split
        · exact put_size b _ _
        · rfl
      rw [hz, hz]
      exact hs
    · by_cases ho : o.dst = some t
      · obtain ⟨h1, h2⟩ := hd 0 o rfl ho
        simp only [Nat.add_zero] at h1 h2
        rw [← h1]
        split
        · rename_i hk
          rw [h2 hk]
          exact put_get_same a a' _ _ t hs h
        · exact h
      · have hx : ∀ (b : Act) (v : Value) (c : Prop) [Decidable c], (if c then b.put o.dst v else b).tmps[t]? = b.tmps[t]? := fun b v c _ => by
          split
          · exact put_get_ne b _ _ _ ho
          · rfl
        rw [hx, hx]
        exact h
    · intro j o' hj ho'
      have := hd (j + 1) o' (by simpa using hj) ho'
      rw [show k + 1 + j = k + (j + 1) from by omega]
      exact this

theorem put_put_comm (a : Act) {x y : Option Tmp} (v u : Value) (h : ∀ d, x = some d → y ≠ some d) : (a.put x v).put y u = (a.put y u).put x v := Act.put_comm a v u h

theorem puts_all {D : Nat → Bool} {σ : Nat → Value} : ∀ (l : List Oper) (k : Nat) (a : Act), (∀ j, k ≤ j → j < k + l.length → D j = true) → puts D σ k l a = puts (fun _ => true) σ k l a
  | [], _, _, _ => rfl
  | o :: rest, k, a, h => by
    simp only [puts]
    rw [h k (Nat.le_refl _) (by simp), puts_all rest (k + 1) _ (fun j hj hlt => h j (by omega) (by simp; omega))]
    simp

theorem puts_put {D : Nat → Bool} {σ : Nat → Value} (d : Option Tmp) (v : Value) : ∀ (l : List Oper) (k : Nat) (a : Act), (∀ o ∈ l, ∀ t, d = some t → o.dst ≠ some t) → puts D σ k l (a.put d v) = (puts D σ k l a).put d v
  | [], _, _, _ => rfl
  | o :: rest, k, a, h => by
    simp only [puts]
    have hr := fun a => puts_put (D := D) (σ := σ) d v rest (k + 1) a (fun o' ho' => h o' (by simp [ho']))
    split
    · rw [← hr, put_put_comm a v (σ k) (fun t ht => h o (by simp) t ht)]
    · rw [← hr]

def upd {α : Type} (D : Nat → α) (i : Nat) (v : α) : Nat → α := fun j => if j = i then v else D j

theorem upd_ne {α : Type} {D : Nat → α} {i j : Nat} {v : α} (h : j ≠ i) : upd D i v j = D j := by simp [upd, h]
theorem upd_same {α : Type} {D : Nat → α} {i : Nat} {v : α} : upd D i v i = v := by simp [upd]

theorem puts_congr {D D' : Nat → Bool} {σ σ' : Nat → Value} : ∀ (l : List Oper) (k : Nat) (a : Act), (∀ j, k ≤ j → D j = D' j) → (∀ j, k ≤ j → D j = true → σ j = σ' j) → puts D σ k l a = puts D' σ' k l a
  | [], _, _, _, _ => rfl
  | o :: rest, k, a, h, hs => by
    simp only [puts]
    rw [← h k (Nat.le_refl _)]
    rw [puts_congr rest (k + 1) _ (fun j hj => h j (by omega)) (fun j hj => hs j (by omega))]
    split
    · rename_i hk; rw [hs k (Nat.le_refl _) hk]
    · rfl

/-- One operation more is done. -/
theorem puts_upd {D : Nat → Bool} {σ : Nat → Value} (v : Value) : ∀ (l : List Oper) (k i : Nat) (a : Act) (o : Oper), l[i]? = some o → D (k + i) = false →
    (∀ j oj, l[j]? = some oj → j ≠ i → ∀ t, o.dst = some t → oj.dst ≠ some t) → puts (upd D (k + i) true) (upd σ (k + i) v) k l a = (puts D σ k l a).put o.dst v
  | [], _, _, _, _, h, _, _ => by simp at h
  | o' :: rest, k, 0, a, o, h, hD, hd => by
    simp only [List.getElem?_cons_zero, Option.some.injEq] at h
    subst h
    simp only [Nat.add_zero] at hD ⊢
    simp only [puts, upd_same, hD, if_true, Bool.false_eq_true, if_false]
    rw [puts_congr (D' := D) (σ' := σ) rest (k + 1) _ (fun j hj => upd_ne (by omega)) (fun j hj _ => upd_ne (by omega))]
    exact puts_put _ _ rest (k + 1) a fun oj hoj t ht => by
      obtain ⟨j, hj⟩ := List.mem_iff_getElem?.1 hoj
      exact hd (j + 1) oj (by simpa using hj) (by omega) t ht
  | o' :: rest, k, i + 1, a, o, h, hD, hd => by
    simp only [puts]
    rw [upd_ne (show k ≠ k + (i + 1) by omega), upd_ne (show k ≠ k + (i + 1) by omega)]
    rw [show k + (i + 1) = k + 1 + i from by omega] at hD ⊢
    exact puts_upd v rest (k + 1) i _ o (by simpa using h) hD fun j oj hj hne t ht => hd (j + 1) oj (by simpa using hj) (by omega) t ht

/-! ### One operation, met in the full frame -/
/-- In the frame a at the world w the operation yields a value v and a world w' of which R tells. -/
def StepOk (P : Program) (ops : Array Oper) (o : Oper) (R : Value → World → Prop) (a : Act) (w : World) : Prop :=
  if Region.wanted o (yielded ops a.tmps) then o.wp P a w (fun a' w' => ∃ v, a' = a.put o.dst v ∧ R v w') (fun _ _ _ => False) else R undef w

theorem eval_eq {a b : Act} {t : Nat} (h : a.tmps[t]? = b.tmps[t]?) : a.eval (.tmp t) = b.eval (.tmp t) := by
  simp only [Act.eval, Array.getD_eq_getD_getElem?, h]

theorem yielded_eq {ops : Array Oper} {a b : Act} {g : Nat} (h : ∀ t, (ops[g]?).bind (·.dst) = some t → a.tmps[t]? = b.tmps[t]?) : yielded ops a.tmps g = yielded ops b.tmps g := by
  unfold yielded
  cases ht : (ops[g]?).bind (·.dst) with
  | none => rfl
  | some t => simp [h t ht]

theorem put_move {a b : Act} {d : Option Tmp} {u v : Value} (hs : a.tmps.size = b.tmps.size) (h : b.put d u = b.put d v) : a.put d u = a.put d v := by
  cases d with
  | none => rfl
  | some d =>
    by_cases hd : d < b.tmps.size
    · have h1 : (b.put (some d) u).tmps[d]? = (b.put (some d) v).tmps[d]? := by rw [h]
      simp [Act.put, hd] at h1
      rw [h1]
    · simp [Act.put, Array.setIfInBounds, hs, hd]

/-- What holds in the full frame holds in every frame that agrees where the operation looks. -/
theorem stepOk_move {P : Program} {ops : Array Oper} {Q : Exit → Act → World → Prop} {i : Nat} {o : Oper} {R : Value → World → Prop} {a b : Act} {w : World} (hi : ops[i]? = some o)
    (hsel : isSelect o = false) (hs : a.tmps.size = b.tmps.size) (hag : ∀ t, t ∈ o.looksAt ops → a.tmps[t]? = b.tmps[t]?) (h : StepOk P ops o R b w) :
    wpOp P ops Q i (fun a' w' => ∃ v, a' = a.put o.dst v ∧ R v w') a w := by
  have hns : ∀ cs x, o.op ≠ .select cs x := fun cs x e => by simp [isSelect, e] at hsel
  have hexec : execOp a.eval o = execOp b.eval o := execOp_congr o hns fun x hx => by
    cases x with
    | tmp t => exact eval_eq (hag t (List.mem_append_left _ (List.mem_filterMap.2 ⟨.tmp t, by simpa using hx, rfl⟩)))
    | _ => rfl
  have hw : Region.wanted o (yielded ops a.tmps) = Region.wanted o (yielded ops b.tmps) := by
    unfold Region.wanted
    cases hg : o.guard with
    | none => rfl
    | some gw =>
      obtain ⟨g, want⟩ := gw
      simp only [yielded_eq (ops := ops) (a := a) (b := b) (g := g) fun t ht => hag t (List.mem_append_right _ (by simp [hg, ht]))]
  unfold Go.wpOp
  simp only [hi, hw]
  unfold StepOk at h
  split
  · rename_i hwt
    rw [if_pos hwt] at h
    refine .inl ?_
    unfold Oper.wp at h ⊢
    rw [hexec]
    generalize (execOp b.eval o).run P w = r at h ⊢
    cases r with
    | ok n w' =>
      cases n <;> simp only [Oper.upon] at h ⊢
      case value u => obtain ⟨v, h1, h2⟩ := h; exact ⟨v, put_move hs h1, h2⟩
      case skip => obtain ⟨v, h1, h2⟩ := h; exact ⟨v, put_move hs h1, h2⟩
      case defer d =>
        obtain ⟨v, h1, h2⟩ := h
        exfalso
        have := congrArg (fun x : Act => x.defers.length) h1
        cases hd : o.dst <;> simp [Act.put, hd] at this
      case enter f args =>
        refine Calls.mono h fun e w'' he => ?_
        cases e with
        | returned u => obtain ⟨v, h1, h2⟩ := he; exact ⟨v, put_move hs h1, h2⟩
        | panicked c => exact he.elim
        | outgrown => obtain ⟨_, _, he⟩ := he; exact he.elim
      case row row args => exact Rows.mono h fun u w'' he => by obtain ⟨v, h1, h2⟩ := he; exact ⟨v, put_move hs h1, h2⟩
    | halt x w' => cases x <;> simp only [Oper.upon] at h ⊢ <;> exact h.elim
  · rename_i hwt
    rw [if_neg hwt] at h
    exact ⟨undef, rfl, h⟩

/-! ### What the check says -/
theorem chk_m {l : List Oper} {m f : Nat} (h : freeChk l m f = true) : m ≤ l.length := by
  simp only [freeChk, Bool.and_eq_true, decide_eq_true_eq] at h
  exact h.1

theorem chk_at {l : List Oper} {m f : Nat} (h : freeChk l m f = true) {i : Nat} {o : Oper} (hi : l[i]? = some o) :
    (∀ j ∈ preds o, j < i) ∧ (i < m → isSelect o = false ∧ ∀ j oj d, j < m → l[j]? = some oj → oj.dst = some d → (j ≠ i → o.dst ≠ some d) ∧ (d ∈ o.looksAt l.toArray → j ∈ preds o)) ∧
      (m ≤ i → ∀ j, j < i → j ∈ anc l f i) := by
  have hlt : i < l.length := (List.getElem?_eq_some_iff.1 hi).1
  simp only [freeChk, Bool.and_eq_true, decide_eq_true_eq, List.all_eq_true, List.mem_range] at h
  have h1 := h.2 i hlt
  simp only [hi, Bool.and_eq_true, List.all_eq_true, decide_eq_true_eq] at h1
  refine ⟨h1.1, fun him => ?_, fun him j hj => ?_⟩
  · have h2 := h1.2
    rw [if_pos him] at h2
    simp only [Bool.and_eq_true, Bool.not_eq_true', List.all_eq_true, List.mem_range] at h2
    refine ⟨h2.1, fun j oj d hj hoj hd => ?_⟩
    have h3 := h2.2 j hj
    simp only [hoj, hd, Bool.and_eq_true, bne_iff_ne, ne_eq, Bool.or_eq_true, Bool.not_eq_true', List.contains_eq_mem, decide_eq_true_eq, decide_eq_false_iff_not, beq_iff_eq] at h3
    exact ⟨fun hne => h3.1.resolve_left hne, fun hm => h3.2.resolve_left (fun hn => hn hm)⟩
  · have h2 := h1.2
    rw [if_neg (by omega)] at h2
    simp only [List.all_eq_true, List.mem_range, List.contains_eq_mem, decide_eq_true_eq] at h2
    exact h2 j hj

theorem anc_closed {l : List Oper} {D : Nat → Bool} (hD : ∀ i o, l[i]? = some o → D i = true → ∀ j ∈ preds o, D j = true) :
    ∀ (f i : Nat) (o : Oper), l[i]? = some o → (∀ j ∈ preds o, D j = true) → ∀ j ∈ anc l f i, D j = true
  | 0, _, _, _, _, j, hj => by simp [anc] at hj
  | f + 1, i, o, hi, hp, j, hj => by
    simp only [anc, hi, List.mem_append, List.mem_flatMap] at hj
    rcases hj with hj | ⟨k, hk, hj⟩
    · exact hp j hj
    · cases hl : l[k]? with
      | none => cases f <;> simp [anc, hl] at hj
      | some ok => exact anc_closed hD f k ok hl (hD k ok hl (hp k hk)) j hj

theorem mem_preds {o : Oper} {j : Nat} : j ∈ preds o ↔ ∃ e ∈ o.after, Region.binds .any e = true ∧ e.on = j := by
  simp only [preds, List.mem_filterMap, Array.mem_toList_iff]
  constructor
  · rintro ⟨e, he, h⟩
    split at h
    · rename_i hb; exact ⟨e, he, hb, by simpa using h⟩
    · cases h
  · rintro ⟨e, he, hb, h⟩
    exact ⟨e, he, by rw [if_pos hb, h]⟩

theorem ready_iff {l : List Oper} {listed : Array Bool} (hsz : listed.size = l.length) {i : Nat} :
    i ∈ Region.ready .any l.toArray listed ↔ listed.getD i false = false ∧ ∃ o, l[i]? = some o ∧ ∀ j ∈ preds o, listed.getD j false = true := by
  rw [mem_ready]
  simp only [List.getElem?_toArray]
  constructor
  · rintro ⟨h0, o, ho, h⟩
    have hlt : i < listed.size := by rw [hsz]; exact (List.getElem?_eq_some_iff.1 ho).1
    refine ⟨?_, o, ho, fun j hj => ?_⟩
    · simpa [Array.getD, hlt] using h0
    · obtain ⟨e, he, hb, rfl⟩ := mem_preds.1 hj; exact h e he hb
  · rintro ⟨h0, o, ho, h⟩
    have hlt : i < listed.size := by rw [hsz]; exact (List.getElem?_eq_some_iff.1 ho).1
    refine ⟨?_, o, ho, fun e he hb => h e.on (mem_preds.2 ⟨e, he, hb, rfl⟩)⟩
    simpa [Array.getD, hlt] using h0

theorem getD_set {listed : Array Bool} {i j : Nat} (hi : i < listed.size) : (listed.setIfInBounds i true).getD j false = upd (fun j => listed.getD j false) i true j := by
  by_cases h : j = i
  · subst h; simp [upd, hi]
  · simp [upd, h, Array.getElem?_setIfInBounds_ne (Ne.symm h)]

/-! ### Behind the free part: the order of the text -/
theorem tail_sound {P : Program} {l : List Oper} {Q : Exit → Act → World → Prop} {m f : Nat} (hchk : freeChk l m f = true) :
    ∀ (rest : List Oper) (k fuel : Nat) (listed : Array Bool) (a : Act) (w : World), m ≤ k → l.drop k = rest → k ≤ l.length → listed.size = l.length → (∀ j, listed.getD j false = decide (j < k)) → rest.length ≤ fuel →
      wpList P l.toArray Q rest a w → wpAny P .any l.toArray Q fuel listed a w
  | [], k, fuel, listed, a, w, hmk, hd, hk, hsz, hl, _, h => by
    have hkl : l.length ≤ k := List.drop_eq_nil_iff.1 hd
    refine wpAny_done ?_ h fuel
    rw [List.eq_nil_iff_forall_not_mem]
    intro i hi
    obtain ⟨h0, o, ho, _⟩ := (ready_iff hsz).1 hi
    have := (List.getElem?_eq_some_iff.1 ho).1
    rw [hl i] at h0
    simp at h0
    omega
  | o :: rest, k, 0, listed, a, w, _, _, _, _, _, hf, _ => by simp at hf
  | o :: rest, k, fuel + 1, listed, a, w, hmk, hd, hk, hsz, hl, hf, h => by
    have hklt : k < l.length := by
      rcases Nat.lt_or_ge k l.length with h | h
      · exact h
      · rw [List.drop_eq_nil_of_le h] at hd; cases hd
    have hko : l[k]? = some o := by
      have := congrArg (fun x : List Oper => x[0]?) hd
      simpa [List.getElem?_drop] using this
    have hdr : l.drop (k + 1) = rest := by
      rw [← List.drop_drop, hd]; rfl
    have hready : k ∈ Region.ready .any l.toArray listed := (ready_iff hsz).2 ⟨by rw [hl k]; simp, o, hko, fun j hj => by rw [hl j]; simpa using (chk_at hchk hko).1 j hj⟩
    refine ⟨fun hnil => by rw [hnil] at hready; simp at hready, fun i hi => ?_⟩
    obtain ⟨h0, oi, hoi, hp⟩ := (ready_iff hsz).1 hi
    have hik : i = k := by
      rw [hl i] at h0
      simp at h0
      rcases Nat.lt_or_ge k i with hlt | hge
      · have hanc := (chk_at hchk hoi).2.2 (by omega) k hlt
        have hcl := anc_closed (l := l) (D := fun j => listed.getD j false) (fun i' o' hi' hD' j hj => by
          have h1 := (chk_at hchk hi').1 j hj
          simp only [hl] at hD' ⊢
          simp at hD' ⊢
          omega) f i oi hoi hp k hanc
        simp only [hl] at hcl
        simp at hcl
      · omega
    subst hik
    have hnext := tail_sound (P := P) (Q := Q) hchk rest (i + 1) fuel (listed.setIfInBounds i true)
    have hlisted : ∀ j, (listed.setIfInBounds i true).getD j false = decide (j < i + 1) := fun j => by
      rw [getD_set (by omega)]
      by_cases hj : j = i
      · subst hj; simp [upd]
      · rw [upd_ne hj, hl j]
        by_cases h1 : j < i
        · simp [h1, show j < i + 1 by omega]
        · simp [h1, show ¬ j < i + 1 by omega]
    have hK : ∀ a w, wpList P l.toArray Q rest a w → wpAny P .any l.toArray Q fuel (listed.setIfInBounds i true) a w := fun a w hh =>
      hnext a w (by omega) hdr (by omega) (by simpa using hsz) hlisted (by simpa using hf) hh
    unfold Go.wpOp
    rw [show l.toArray[i]? = some o from by simpa using hko]
    simp only [wpList] at h
    dsimp only
    split
    · rename_i hw
      rw [if_pos hw] at h
      exact h.imp (Oper.wp_mono hK) id
    · rename_i hw
      rw [if_neg hw] at h
      exact hK _ _ h

/-! ### The free part -/
def unlisted (listed : Array Bool) (n : Nat) : Nat := ((List.range n).filter fun j => !listed.getD j false).length

theorem filter_lt {p q : Nat → Bool} : ∀ (l : List Nat) (i : Nat), i ∈ l → p i = true → q i = false → (∀ j, q j = true → p j = true) → (l.filter q).length < (l.filter p).length
  | [], _, h, _, _, _ => by simp at h
  | x :: l, i, h, hp, hq, hs => by
    have hle : (l.filter q).length ≤ (l.filter p).length := by
      clear h
      induction l with
      | nil => simp
      | cons y l ih =>
        simp only [List.filter_cons]
        by_cases hqy : q y = true
        · simp only [hqy, hs y hqy, if_true, List.length_cons]; omega
        · simp only [hqy, Bool.false_eq_true, if_false]
          split
          · simp only [List.length_cons]; omega
          · exact ih
    simp only [List.filter_cons]
    rcases List.mem_cons.1 h with rfl | hm
    · simp only [hp, hq, if_true, Bool.false_eq_true, if_false, List.length_cons]; omega
    · have ih := filter_lt l i hm hp hq hs
      by_cases hqx : q x = true
      · simp only [hqx, hs x hqx, if_true, List.length_cons]; omega
      · simp only [hqx, Bool.false_eq_true, if_false]
        split
        · simp only [List.length_cons]; omega
        · exact ih

theorem free_sound {P : Program} {l : List Oper} {Q : Exit → Act → World → Prop} {m f : Nat} (hchk : freeChk l m f = true) (a : Act) (I : (Nat → Bool) → (Nat → Value) → World → Prop)
    (hstep : ∀ i o, i < m → l[i]? = some o → ∀ (D : Nat → Bool) (σ : Nat → Value) (w : World), (∀ i' o', l[i']? = some o' → D i' = true → ∀ j ∈ preds o', D j = true) → D i = false → (∀ j ∈ preds o, D j = true) → I D σ w →
      ∃ σ' : Nat → Value, (∀ j ∈ preds o, σ j = σ' j) ∧ StepOk P l.toArray o (fun v w' => I (upd D i true) (upd σ i v) w') (puts (fun _ => true) σ' 0 (l.take m) a) w)
    (hfin : ∀ (σ : Nat → Value) (w : World), I (fun j => decide (j < m)) σ w → wpList P l.toArray Q (l.drop m) (puts (fun _ => true) σ 0 (l.take m) a) w) :
    ∀ (fuel : Nat) (listed : Array Bool) (σ : Nat → Value) (w : World), listed.size = l.length → unlisted listed l.length ≤ fuel → (∀ j, m ≤ j → listed.getD j false = false) →
      (∀ i o, l[i]? = some o → listed.getD i false = true → ∀ j ∈ preds o, listed.getD j false = true) → I (fun j => listed.getD j false) σ w →
      wpAny P .any l.toArray Q fuel listed (puts (fun j => listed.getD j false) σ 0 (l.take m) a) w := by
  have hm := chk_m hchk
  intro fuel
  induction fuel with
  | zero =>
    intro listed σ w hsz hu hlate hcl hI
    have hall : ∀ j, j < l.length → listed.getD j false = true := fun j hj => by
      have h0 : (List.range l.length).filter (fun j => !listed.getD j false) = [] := List.eq_nil_of_length_eq_zero (by simpa [unlisted] using hu)
      have := List.filter_eq_nil_iff.1 h0 j (List.mem_range.2 hj)
      simpa using this
    have hml : m = l.length := by
      rcases Nat.lt_or_ge m l.length with h | h
      · have h1 := hall m h; rw [hlate m (Nat.le_refl _)] at h1; cases h1
      · omega
    have hlisted : ∀ j, listed.getD j false = decide (j < m) := fun j => by
      by_cases hj : j < m
      · rw [hall j (by omega)]; simp [hj]
      · rw [hlate j (by omega)]; simp [hj]
    rw [puts_all (l.take m) 0 a fun j _ hj => hall j (by rw [List.length_take] at hj; omega)]
    exact tail_sound hchk _ m 0 listed _ w (Nat.le_refl _) rfl hm hsz hlisted (by simp [hml]) (hfin σ w (by rw [← funext hlisted]; exact hI))
  | succ fuel ih =>
    intro listed σ w hsz hu hlate hcl hI
    by_cases hall : ∀ j, j < m → listed.getD j false = true
    · have hlisted : ∀ j, listed.getD j false = decide (j < m) := fun j => by
        by_cases hj : j < m
        · rw [hall j hj]; simp [hj]
        · rw [hlate j (by omega)]; simp [hj]
      rw [puts_all (l.take m) 0 a fun j _ hj => hall j (by rw [List.length_take] at hj; omega)]
      refine tail_sound hchk _ m (fuel + 1) listed _ w (Nat.le_refl _) rfl hm hsz hlisted ?_ (hfin σ w (by rw [← funext hlisted]; exact hI))
      have h1 : ((List.range l.length).filter fun j => !listed.getD j false) = (List.range l.length).filter fun j => decide (m ≤ j) := List.filter_congr fun j _ => by
        rw [hlisted j]
        by_cases hj : j < m
        · simp [hj]
        · simp [hj]; omega
      have h2 : ∀ n, ((List.range n).filter fun j => decide (m ≤ j)).length = n - m := fun n => by
        induction n with
        | zero => simp
        | succ n ihn =>
          rw [List.range_succ, List.filter_append, List.length_append, ihn]
          by_cases hmn : m ≤ n
          · simp [hmn]; omega
          · simp [hmn]; omega
      unfold unlisted at hu
      rw [h1, h2] at hu
      simpa using hu
    · have hex : ∃ i, i < m ∧ listed.getD i false = false ∧ ∀ j, j < i → listed.getD j false = true := by
        have hne : ∃ j, j < m ∧ listed.getD j false = false := by
          refine Classical.byContradiction fun hno => hall fun j hj => ?_
          cases hb : listed.getD j false with
          | true => rfl
          | false => exact absurd ⟨j, hj, hb⟩ hno
        obtain ⟨j, hj, hjf⟩ := hne
        have key : ∀ n j, j ≤ n → j < m → listed.getD j false = false → ∃ i, i < m ∧ listed.getD i false = false ∧ ∀ j, j < i → listed.getD j false = true := by
          intro n
          induction n with
          | zero =>
            intro j hjn hjm hjf
            exact ⟨j, hjm, hjf, fun k hk => by omega⟩
          | succ n ihn =>
            intro j hjn hjm hjf
            by_cases hk : ∃ k, k < j ∧ listed.getD k false = false
            · obtain ⟨k, hk, hkf⟩ := hk
              exact ihn k (by omega) (by omega) hkf
            · refine ⟨j, hjm, hjf, fun k hkj => ?_⟩
              cases hb : listed.getD k false with
              | true => rfl
              | false => exact absurd ⟨k, hkj, hb⟩ hk
        exact key j j (Nat.le_refl _) hj hjf
      obtain ⟨i0, hi0, hi0f, hi0p⟩ := hex
      have hi0l : l[i0]? = some (l[i0]'(by omega)) := List.getElem?_eq_getElem (by omega)
      have hready0 : i0 ∈ Region.ready .any l.toArray listed := (ready_iff hsz).2 ⟨hi0f, _, hi0l, fun j hj => hi0p j ((chk_at hchk hi0l).1 j hj)⟩
      refine ⟨fun hnil => by rw [hnil] at hready0; simp at hready0, fun i hi => ?_⟩
      obtain ⟨h0, o, ho, hp⟩ := (ready_iff hsz).1 hi
      have hil : i < l.length := (List.getElem?_eq_some_iff.1 ho).1
      have him : i < m := by
        rcases Nat.lt_or_ge i m with h | h
        · exact h
        · exfalso
          refine hall fun j hj => ?_
          exact anc_closed (l := l) (D := fun j => listed.getD j false) hcl f i o ho hp j ((chk_at hchk ho).2.2 h j (by omega))
      obtain ⟨hsel, hother⟩ := (chk_at hchk ho).2.1 him
      have htake : (l.take m)[i]? = some o := by rw [List.getElem?_take]; simp [him, ho]
      obtain ⟨σ', hσ', hok⟩ := hstep i o him ho (fun j => listed.getD j false) σ w hcl h0 hp hI
      have hmove := stepOk_move (Q := Q) (i := i) (a := puts (fun j => listed.getD j false) σ 0 (l.take m) a) (by simpa using ho) hsel (by rw [puts_size, puts_size]) (fun t ht => by
        refine puts_agree t _ 0 a a rfl rfl fun j oj hoj hd => ?_
        have hjm : j < m := by have := (List.getElem?_eq_some_iff.1 hoj).1; simp at this; omega
        have hoj' : l[j]? = some oj := by rw [List.getElem?_take] at hoj; simpa [hjm] using hoj
        simp only [Nat.zero_add]
        have := (hother j oj t hjm hoj' hd).2 ht
        exact ⟨hp j this, fun _ => hσ' j this⟩) hok
      refine wpOp_mono ?_ hmove
      rintro a' w' ⟨v, rfl, hI'⟩
      have hD : (fun j => (listed.setIfInBounds i true).getD j false) = upd (fun j => listed.getD j false) i true := funext fun j => getD_set (by omega)
      have hput := puts_upd (D := fun j => listed.getD j false) (σ := σ) v (l.take m) 0 i a o htake (by simpa using h0) (fun j oj hoj hne t ht hjt => by
        have hjm : j < m := by have := (List.getElem?_eq_some_iff.1 hoj).1; simp at this; omega
        have hoj' : l[j]? = some oj := by rw [List.getElem?_take] at hoj; simpa [hjm] using hoj
        exact (hother j oj t hjm hoj' hjt).1 hne ht)
      simp only [Nat.zero_add] at hput
      have hnext := ih (listed.setIfInBounds i true) (upd σ i v) w' (by simpa using hsz) ?_ ?_ ?_ (by rw [hD]; exact hI')
      · rw [hD, hput] at hnext
        exact hnext
      · have hlt : unlisted (listed.setIfInBounds i true) l.length < unlisted listed l.length := by
          refine filter_lt _ i (List.mem_range.2 hil) (by simpa using h0) (by rw [getD_set (by omega)]; simp [upd]) fun j hj => ?_
          rw [getD_set (by omega)] at hj
          by_cases hji : j = i
          · subst hji; simpa using h0
          · rw [upd_ne hji] at hj; exact hj
        omega
      · intro j hj
        rw [getD_set (by omega), upd_ne (by omega)]
        exact hlate j hj
      · intro j oj hoj hj k hk
        rw [getD_set (by omega)] at hj ⊢
        by_cases hki : k = i
        · subst hki; simp [upd]
        · rw [upd_ne hki]
          by_cases hji : j = i
          · subst hji
            have e : oj = o := Option.some.inj (hoj.symm.trans ho)
            subst e
            exact hp k hk
          · rw [upd_ne hji] at hj
            exact hcl j oj hoj hj k hk

/-- THE LAW. l: the region's operations; m: how many of them are met freely; I: what holds of the world, by what is done and what it yielded. -/
theorem wp_region_inv {P : Program} {id : Nat} {l : List Oper} {Q : Exit → Act → World → Prop} {a : Act} {w : World} (hmix : P.follows .mixedOrders = true) (m f : Nat) (hchk : freeChk l m f = true)
    (I : (Nat → Bool) → (Nat → Value) → World → Prop) (hI : I (fun _ => false) (fun _ => undef) w.drew)
    (hstep : ∀ i o, i < m → l[i]? = some o → ∀ (D : Nat → Bool) (σ : Nat → Value) (w : World), (∀ i' o', l[i']? = some o' → D i' = true → ∀ j ∈ preds o', D j = true) → D i = false → (∀ j ∈ preds o, D j = true) → I D σ w →
      ∃ σ' : Nat → Value, (∀ j ∈ preds o, σ j = σ' j) ∧ StepOk P l.toArray o (fun v w' => I (upd D i true) (upd σ i v) w') (puts (fun _ => true) σ' 0 (l.take m) a) w)
    (hfin : ∀ (σ : Nat → Value) (w : World), I (fun j => decide (j < m)) σ w → wpList P l.toArray Q (l.drop m) (puts (fun _ => true) σ 0 (l.take m) a) w) :
    (Code.region id l.toArray true).wp P Q a w := by
  refine wp_region_any hmix ?_
  have e0 : (fun j => (Array.replicate l.length false).getD j false) = fun _ => false := funext fun j => by
    simp [Array.getD]
  have h := free_sound (P := P) (Q := Q) hchk a I hstep hfin l.length (Array.replicate l.length false) (fun _ => undef) { w with drawn := w.drawn + 1 } (by simp) ?_ ?_ ?_ (by rw [e0]; exact hI)
  · have e : puts (fun j => (Array.replicate l.length false).getD j false) (fun _ => undef) 0 (l.take m) a = a := by
      have : ∀ (x : List Oper) (k : Nat) (b : Act), puts (fun j => (Array.replicate l.length false).getD j false) (fun _ => undef) k x b = b := by
        intro x
        induction x with
        | nil => intro k b; rfl
        | cons o rest ih =>
          intro k b
          simp only [puts]
          rw [ih, if_neg (by simp [Array.getD, Array.getElem_replicate]; try split <;> simp)]
      exact this _ _ _
    rw [e] at h
    simpa using h
  · unfold unlisted
    exact Nat.le_trans (List.length_filter_le _ _) (by simp)
  · intro j _; simp [Array.getD]
  · intro i o _ hi; simp [Array.getD] at hi

/-! ### Where each operation's value is known ahead -/
theorem puts_again {σ : Nat → Value} : ∀ (l : List Oper) (k i : Nat) (a : Act) (o : Oper), l[i]? = some o → (∀ j oj, l[j]? = some oj → j ≠ i → ∀ t, o.dst = some t → oj.dst ≠ some t) →
    (puts (fun _ => true) σ k l a).put o.dst (σ (k + i)) = puts (fun _ => true) σ k l a
  | [], _, _, _, _, h, _ => by simp at h
  | o' :: rest, k, 0, a, o, h, hd => by
    simp only [List.getElem?_cons_zero, Option.some.injEq] at h
    subst h
    simp only [puts, if_true, Nat.add_zero]
    rw [puts_put _ _ rest (k + 1) a fun oj hoj t ht => by
      obtain ⟨j, hj⟩ := List.mem_iff_getElem?.1 hoj
      exact hd (j + 1) oj (by simpa using hj) (by omega) t ht]
    cases o'.dst with
    | none => rfl
    | some d => simp [Act.put]
  | o' :: rest, k, i + 1, a, o, h, hd => by
    simp only [puts, if_true]
    rw [show k + (i + 1) = k + 1 + i from by omega]
    exact puts_again rest (k + 1) i _ o (by simpa using h) fun j oj hj hne t ht => hd (j + 1) oj (by simpa using hj) (by omega) t ht

/-- In the full frame a, which bears the value v at the operation's own slot already, the operation runs and leaves the frame as it is; at most new blocks are made. -/
def PureOk (P : Program) (ops : Array Oper) (o : Oper) (v : Value) (a : Act) (w : World) : Prop :=
  (Region.wanted o (yielded ops a.tmps) = true ∧ ∀ K : Act → World → Prop, (∀ w', Below w.heap.size w w' → K a w') → o.wp P a w K (fun _ _ _ => False)) ∨
  (Region.wanted o (yielded ops a.tmps) = false ∧ v = undef)

def PureAll (P : Program) (ops : Array Oper) (vs : Nat → Value) (a : Act) (w0 : World) : Nat → List Oper → Prop
  | _, [] => True
  | i, o :: rest => (∀ w, Below w0.heap.size w0 w → PureOk P ops o (vs i) a w) ∧ PureAll P ops vs a w0 (i + 1) rest

theorem pureAll_at {P : Program} {ops : Array Oper} {vs : Nat → Value} {a : Act} {w0 : World} : ∀ (l : List Oper) (k i : Nat) (o : Oper), PureAll P ops vs a w0 k l → l[i]? = some o → ∀ w, Below w0.heap.size w0 w → PureOk P ops o (vs (k + i)) a w
  | [], _, _, _, _, h, _, _ => by simp at h
  | o' :: rest, k, 0, o, hp, h, w, hb => by
    simp only [List.getElem?_cons_zero, Option.some.injEq] at h
    subst h
    exact hp.1 w hb
  | o' :: rest, k, i + 1, o, hp, h, w, hb => by
    rw [show k + (i + 1) = k + 1 + i from by omega]
    exact pureAll_at rest (k + 1) i o hp.2 (by simpa using h) w hb

/-- THE LAW, where the value of each of the first m operations is known: vs; J: what holds of the world, by what is done. -/
theorem wp_region_known {P : Program} {id : Nat} {l : List Oper} {Q : Exit → Act → World → Prop} {a : Act} {w : World} (hmix : P.follows .mixedOrders = true) (m f : Nat) (hchk : freeChk l m f = true)
    (vs : List Value) (b : Act) (hb : puts (fun _ => true) (fun i => vs.getD i undef) 0 (l.take m) a = b) (J : (Nat → Bool) → World → Prop) (hJ : J (fun _ => false) w.drew)
    (hstep : ∀ i o, i < m → l[i]? = some o → ∀ (D : Nat → Bool) (w : World), (∀ i' o', l[i']? = some o' → D i' = true → ∀ j ∈ preds o', D j = true) → D i = false → (∀ j ∈ preds o, D j = true) → J D w →
      (Region.wanted o (yielded l.toArray b.tmps) = true ∧ ∀ K : Act → World → Prop, (∀ w', J (upd D i true) w' → K b w') → o.wp P b w K (fun _ _ _ => False)) ∨
      (Region.wanted o (yielded l.toArray b.tmps) = false ∧ vs.getD i undef = undef ∧ J (upd D i true) w))
    (hfin : ∀ w', J (fun j => decide (j < m)) w' → wpList P l.toArray Q (l.drop m) b w') :
    (Code.region id l.toArray true).wp P Q a w := by
  subst hb
  refine wp_region_inv hmix m f hchk (fun D σ w => (∀ j, D j = true → σ j = vs.getD j undef) ∧ J D w) ⟨fun _ h => absurd h Bool.false_ne_true, hJ⟩ ?_ ?_
  · intro i o him ho D σ w' hcl hDi hp ⟨hσ, hJw⟩
    refine ⟨fun i => vs.getD i undef, fun j hj => hσ j (hp j hj), ?_⟩
    have htake : (l.take m)[i]? = some o := by rw [List.getElem?_take]; simp [him, ho]
    have hupd : ∀ j, upd D i true j = true → upd σ i (vs.getD i undef) j = vs.getD j undef := fun j hj => by
      by_cases hji : j = i
      · subst hji; rw [upd_same]
      · rw [upd_ne hji] at hj ⊢; exact hσ j hj
    unfold StepOk
    rcases hstep i o him ho D w' hcl hDi hp hJw with ⟨hwt, hk⟩ | ⟨hwt, hv, hj⟩
    · rw [if_pos hwt]
      refine hk _ fun w'' hw'' => ⟨vs.getD i undef, ?_, hupd, hw''⟩
      have := puts_again (σ := fun i => vs.getD i undef) (l.take m) 0 i a o htake fun j oj hoj hne t ht hjt => by
        have hjm : j < m := by have := (List.getElem?_eq_some_iff.1 hoj).1; simp at this; omega
        have hoj' : l[j]? = some oj := by rw [List.getElem?_take] at hoj; simpa [hjm] using hoj
        exact (((chk_at hchk ho).2.1 him).2 j oj t hjm hoj' hjt).1 hne ht
      rw [Nat.zero_add] at this
      exact this.symm
    · rw [if_neg (by rw [hwt]; exact Bool.false_ne_true)]
      refine ⟨?_, hj⟩
      rw [hv] at hupd
      exact hupd
  · intro σ w' ⟨hσ, hJw⟩
    have e : puts (fun _ => true) σ 0 (l.take m) a = puts (fun _ => true) (fun i => vs.getD i undef) 0 (l.take m) a := by
      have key : ∀ (x : List Oper) (k : Nat) (b : Act), k + x.length ≤ m → puts (fun _ => true) σ k x b = puts (fun _ => true) (fun i => vs.getD i undef) k x b := by
        intro x
        induction x with
        | nil => intro k b _; rfl
        | cons o rest ih =>
          intro k b hk
          simp only [List.length_cons] at hk
          simp only [puts, if_true]
          rw [ih (k + 1) _ (by omega), hσ k (by simp; omega)]
      exact key _ 0 a (by simp; omega)
    rw [e]
    exact hfin w' hJw

/-- THE LAW, where moreover each of them makes at most new blocks. -/
theorem wp_region_pure {P : Program} {id : Nat} {l : List Oper} {Q : Exit → Act → World → Prop} {a : Act} {w : World} (hmix : P.follows .mixedOrders = true) (m f : Nat) (hchk : freeChk l m f = true)
    (vs : List Value) (b : Act) (hb : puts (fun _ => true) (fun i => vs.getD i undef) 0 (l.take m) a = b)
    (hstep : PureAll P l.toArray (fun i => vs.getD i undef) b w 0 (l.take m))
    (hfin : ∀ w', Below w.heap.size w w' → wpList P l.toArray Q (l.drop m) b w') :
    (Code.region id l.toArray true).wp P Q a w := by
  refine wp_region_known hmix m f hchk vs b hb (fun _ w' => Below w.heap.size w w') (Below.refl _ _).drew ?_ hfin
  intro i o him ho D w' _ _ _ hw'
  have htake : (l.take m)[i]? = some o := by rw [List.getElem?_take]; simp [him, ho]
  have hpure := pureAll_at (l.take m) 0 i o hstep htake w' hw'
  rw [Nat.zero_add] at hpure
  rcases hpure with ⟨hwt, hk⟩ | ⟨hwt, hv⟩
  · exact .inl ⟨hwt, fun K hK => hk K fun w'' hw'' => hK w'' (hw'.trans (hw''.mono hw'.size))⟩
  · exact .inr ⟨hwt, hv, hw'⟩

/-! ### Where one of them, the operation st, writes what is there -/
/-- As 'PureAll', but for the operation st: it turns what J0 tells of into what J1 tells of. 'early': must the operation come ahead of st? Then it meets J0 alone. -/
def StoreAll (P : Program) (ops : Array Oper) (vs : Nat → Value) (a : Act) (J0 J1 : World → Prop) (st : Nat) (early : Nat → Bool) : Nat → List Oper → Prop
  | _, [] => True
  | i, o :: rest => (if i = st then ∀ w, J0 w → Region.wanted o (yielded ops a.tmps) = true ∧ ∀ K : Act → World → Prop, (∀ w', J1 w' → K a w') → o.wp P a w K (fun _ _ _ => False)
      else ∀ w, (J0 w ∨ early i = false ∧ J1 w) → PureOk P ops o (vs i) a w) ∧ StoreAll P ops vs a J0 J1 st early (i + 1) rest

theorem storeAll_at {P : Program} {ops : Array Oper} {vs : Nat → Value} {a : Act} {J0 J1 : World → Prop} {st : Nat} {early : Nat → Bool} : ∀ (l : List Oper) (k i : Nat) (o : Oper), StoreAll P ops vs a J0 J1 st early k l → l[i]? = some o →
    if k + i = st then ∀ w, J0 w → Region.wanted o (yielded ops a.tmps) = true ∧ ∀ K : Act → World → Prop, (∀ w', J1 w' → K a w') → o.wp P a w K (fun _ _ _ => False)
      else ∀ w, (J0 w ∨ early (k + i) = false ∧ J1 w) → PureOk P ops o (vs (k + i)) a w
  | [], _, _, _, _, h => by simp at h
  | o' :: rest, k, 0, o, hp, h => by
    simp only [List.getElem?_cons_zero, Option.some.injEq] at h
    subst h
    exact hp.1
  | o' :: rest, k, i + 1, o, hp, h => by
    rw [show k + (i + 1) = k + 1 + i from by omega]
    exact storeAll_at rest (k + 1) i o hp.2 (by simpa using h)

theorem wp_region_store {P : Program} {id : Nat} {l : List Oper} {Q : Exit → Act → World → Prop} {a : Act} {w : World} (hmix : P.follows .mixedOrders = true) (m f st : Nat) (hchk : freeChk l m f = true) (hst : st < m)
    (vs : List Value) (b : Act) (hb : puts (fun _ => true) (fun i => vs.getD i undef) 0 (l.take m) a = b) (J0 J1 : World → Prop)
    (h0 : J0 w.drew) (hJ0 : ∀ w w', Below w.heap.size w w' → J0 w → J0 w') (hJ1 : ∀ w w', Below w.heap.size w w' → J1 w → J1 w')
    (hstep : StoreAll P l.toArray (fun i => vs.getD i undef) b J0 J1 st (fun i => (anc l f st).contains i) 0 (l.take m))
    (hfin : ∀ w', J1 w' → wpList P l.toArray Q (l.drop m) b w') :
    (Code.region id l.toArray true).wp P Q a w := by
  refine wp_region_known hmix m f hchk vs b hb (fun D w' => if D st then J1 w' else J0 w') h0 ?_ (fun w' hw' => hfin w' (by simpa [hst] using hw'))
  intro i o him ho D w' hcl hDi hp hw'
  have htake : (l.take m)[i]? = some o := by rw [List.getElem?_take]; simp [him, ho]
  have h := storeAll_at (l.take m) 0 i o hstep htake
  rw [Nat.zero_add] at h
  by_cases hi : i = st
  · subst hi
    rw [if_pos rfl] at h
    have hw0 : J0 w' := by rw [hDi] at hw'; exact hw'
    obtain ⟨hwt, hk⟩ := h w' hw0
    exact .inl ⟨hwt, fun K hK => hk K fun w'' hw'' => hK w'' (by simpa [upd] using hw'')⟩
  · rw [if_neg hi] at h
    have hsame : ∀ x, (if upd D i true st = true then J1 x else J0 x) = if D st = true then J1 x else J0 x := fun x => by rw [upd_ne (fun e => hi e.symm)]
    have hpre : J0 w' ∨ (anc l f st).contains i = false ∧ J1 w' := by
      by_cases hD : D st = true
      · rw [if_pos hD] at hw'
        cases hc : (anc l f st).contains i with
        | true =>
          have hlst : l[st]? = some (l[st]'(by have := chk_m hchk; omega)) := List.getElem?_eq_getElem _
          have := anc_closed hcl f st _ hlst (hcl st _ hlst hD) i (by simpa using hc)
          rw [hDi] at this
          cases this
        | false => exact .inr ⟨rfl, hw'⟩
      · rw [if_neg hD] at hw'
        exact .inl hw'
    rcases h w' hpre with ⟨hwt, hk⟩ | ⟨hwt, hv⟩
    · refine .inl ⟨hwt, fun K hK => hk K fun w'' hw'' => hK w'' ?_⟩
      rw [hsame]
      split at hw'
      · rename_i hD; rw [if_pos hD]; exact hJ1 _ _ hw'' hw'
      · rename_i hD; rw [if_neg hD]; exact hJ0 _ _ hw'' hw'
    · exact .inr ⟨hwt, hv, by rw [hsame]; exact hw'⟩

/-! ### Where what is yielded hangs on a ghost γ (a new block's number, say) -/
theorem wp_region_ghost {P : Program} {id : Nat} {l : List Oper} {Q : Exit → Act → World → Prop} {a : Act} {w : World} (hmix : P.follows .mixedOrders = true) (m f : Nat) (hchk : freeChk l m f = true)
    {G : Type} (γ0 : G) (val : G → Nat → Value) (b : G → Act) (hb : ∀ γ, puts (fun _ => true) (val γ) 0 (l.take m) a = b γ) (J : (Nat → Bool) → G → World → Prop) (hJ : J (fun _ => false) γ0 w.drew)
    (hstep : ∀ i o, i < m → l[i]? = some o → ∀ (D : Nat → Bool) (γ : G) (w : World), (∀ i' o', l[i']? = some o' → D i' = true → ∀ j ∈ preds o', D j = true) → D i = false → (∀ j ∈ preds o, D j = true) → J D γ w →
      (Region.wanted o (yielded l.toArray (b γ).tmps) = true ∧ ∀ K : Act → World → Prop, (∀ γ' w', (∀ j, D j = true → val γ' j = val γ j) → J (upd D i true) γ' w' → K ((b γ).put o.dst (val γ' i)) w') → o.wp P (b γ) w K (fun _ _ _ => False)) ∨
      (Region.wanted o (yielded l.toArray (b γ).tmps) = false ∧ val γ i = undef ∧ J (upd D i true) γ w))
    (hfin : ∀ γ w', J (fun j => decide (j < m)) γ w' → wpList P l.toArray Q (l.drop m) (b γ) w') :
    (Code.region id l.toArray true).wp P Q a w := by
  obtain rfl : b = fun γ => puts (fun _ => true) (val γ) 0 (l.take m) a := funext fun γ => (hb γ).symm
  refine wp_region_inv hmix m f hchk (fun D σ w => ∃ γ, (∀ j, D j = true → σ j = val γ j) ∧ J D γ w) ⟨γ0, fun _ h => absurd h Bool.false_ne_true, hJ⟩ ?_ ?_
  · intro i o him ho D σ w' hcl hDi hp ⟨γ, hσ, hJw⟩
    refine ⟨val γ, fun j hj => hσ j (hp j hj), ?_⟩
    unfold StepOk
    rcases hstep i o him ho D γ w' hcl hDi hp hJw with ⟨hwt, hk⟩ | ⟨hwt, hv, hj⟩
    · rw [if_pos hwt]
      refine hk _ fun γ' w'' hag hw'' => ⟨val γ' i, rfl, γ', fun j hj => ?_, hw''⟩
      by_cases hji : j = i
      · subst hji; rw [upd_same]
      · rw [upd_ne hji] at hj ⊢; rw [hσ j hj, hag j hj]
    · rw [if_neg (by rw [hwt]; exact Bool.false_ne_true)]
      refine ⟨γ, fun j hj' => ?_, hj⟩
      by_cases hji : j = i
      · subst hji; rw [upd_same, hv]
      · rw [upd_ne hji] at hj' ⊢; exact hσ j hj'
  · intro σ w' ⟨γ, hσ, hJw⟩
    have e : puts (fun _ => true) σ 0 (l.take m) a = puts (fun _ => true) (val γ) 0 (l.take m) a := by
      have key : ∀ (x : List Oper) (k : Nat) (b : Act), k + x.length ≤ m → puts (fun _ => true) σ k x b = puts (fun _ => true) (val γ) k x b := by
        intro x
        induction x with
        | nil => intro k b _; rfl
        | cons o rest ih =>
          intro k b hk
          simp only [List.length_cons] at hk
          simp only [puts, if_true]
          rw [ih (k + 1) _ (by omega), hσ k (by simp; omega)]
      exact key _ 0 a (by simp; omega)
    rw [e]
    exact hfin γ w' hJw

/-- One of the operations, al, makes a new block (cells z); another one, st, fills it (cells y); what each other one yields is known, and it makes at most new blocks. -/
def AllocAll (P : Program) (ops : Array Oper) (vs : Nat → Value) (b : Nat → Act) (w0 : World) (z y : Obj) (al st : Nat) : Nat → List Oper → Prop
  | _, [] => True
  | i, o :: rest => (if i = al then ∀ bx w, Region.wanted o (yielded ops (b bx).tmps) = true ∧ ∀ K : Act → World → Prop, K ((b bx).put o.dst (.pointer (some ⟨w.heap.size, 0, none⟩))) (w.alloc z) → o.wp P (b bx) w K (fun _ _ _ => False)
      else if i = st then ∀ bx w, Below w0.heap.size w0 w → w0.heap.size ≤ bx → w.heap[bx]? = some z → Region.wanted o (yielded ops (b bx).tmps) = true ∧ ∀ K : Act → World → Prop, (∀ w', Below w0.heap.size w0 w' → w'.heap[bx]? = some y → K (b bx) w') → o.wp P (b bx) w K (fun _ _ _ => False)
      else ∀ bx w, Below w0.heap.size w0 w → PureOk P ops o (vs i) (b bx) w) ∧ AllocAll P ops vs b w0 z y al st (i + 1) rest

theorem allocAll_at {P : Program} {ops : Array Oper} {vs : Nat → Value} {b : Nat → Act} {w0 : World} {z y : Obj} {al st : Nat} : ∀ (l : List Oper) (k i : Nat) (o : Oper), AllocAll P ops vs b w0 z y al st k l → l[i]? = some o →
    if k + i = al then ∀ bx w, Region.wanted o (yielded ops (b bx).tmps) = true ∧ ∀ K : Act → World → Prop, K ((b bx).put o.dst (.pointer (some ⟨w.heap.size, 0, none⟩))) (w.alloc z) → o.wp P (b bx) w K (fun _ _ _ => False)
      else if k + i = st then ∀ bx w, Below w0.heap.size w0 w → w0.heap.size ≤ bx → w.heap[bx]? = some z → Region.wanted o (yielded ops (b bx).tmps) = true ∧ ∀ K : Act → World → Prop, (∀ w', Below w0.heap.size w0 w' → w'.heap[bx]? = some y → K (b bx) w') → o.wp P (b bx) w K (fun _ _ _ => False)
      else ∀ bx w, Below w0.heap.size w0 w → PureOk P ops o (vs (k + i)) (b bx) w
  | [], _, _, _, _, h => by simp at h
  | o' :: rest, k, 0, o, hp, h => by
    simp only [List.getElem?_cons_zero, Option.some.injEq] at h
    subst h
    exact hp.1
  | o' :: rest, k, i + 1, o, hp, h => by
    rw [show k + (i + 1) = k + 1 + i from by omega]
    exact allocAll_at rest (k + 1) i o hp.2 (by simpa using h)

theorem heap_push (w : World) (o : Obj) (i : Nat) : (w.alloc o).heap[i]? = if i = w.heap.size then some o else w.heap[i]? := by
  show (w.heap.push o)[i]? = _
  rw [Array.getElem?_push]

theorem wp_region_alloc {P : Program} {id : Nat} {l : List Oper} {Q : Exit → Act → World → Prop} {a : Act} {w : World} (hmix : P.follows .mixedOrders = true) (m f al st : Nat) (hchk : freeChk l m f = true) (hal : al < m) (hst : st < m) (hne : al ≠ st)
    (vs : List Value) (b : Nat → Act) (hb : ∀ bx, puts (fun _ => true) (fun i => if i = al then .pointer (some ⟨bx, 0, none⟩) else vs.getD i undef) 0 (l.take m) a = b bx) (z y : Obj) (hdep : (l[st]?.map fun o => (preds o).contains al) = some true)
    (hstep : AllocAll P l.toArray (fun i => vs.getD i undef) b w z y al st 0 (l.take m))
    (hfin : ∀ bx w', Below w.heap.size w w' → w.heap.size ≤ bx → w'.heap[bx]? = some y → wpList P l.toArray Q (l.drop m) (b bx) w') :
    (Code.region id l.toArray true).wp P Q a w := by
  refine wp_region_ghost hmix m f hchk 0 (fun bx i => if i = al then .pointer (some ⟨bx, 0, none⟩) else vs.getD i undef) b hb
    (fun D bx w' => Below w.heap.size w w' ∧ (D al = true → w.heap.size ≤ bx ∧ w'.heap[bx]? = some (if D st = true then y else z))) ⟨(Below.refl _ _).drew, fun h => absurd h Bool.false_ne_true⟩ ?_ ?_
  · intro i o him ho D bx w' hcl hDi hp ⟨hbw, hblk⟩
    have htake : (l.take m)[i]? = some o := by rw [List.getElem?_take]; simp [him, ho]
    have h := allocAll_at (l.take m) 0 i o hstep htake
    rw [Nat.zero_add] at h
    have hself : ∀ v, v = (if i = al then Value.pointer (some ⟨bx, 0, none⟩) else vs.getD i undef) → (b bx).put o.dst v = b bx := fun v hv => by
      subst hv
      rw [← hb bx]
      have := puts_again (σ := fun i => if i = al then Value.pointer (some ⟨bx, 0, none⟩) else vs.getD i undef) (l.take m) 0 i a o htake fun j oj hoj hne t ht hjt => by
        have hjm : j < m := by have := (List.getElem?_eq_some_iff.1 hoj).1; simp at this; omega
        have hoj' : l[j]? = some oj := by rw [List.getElem?_take] at hoj; simpa [hjm] using hoj
        exact (((chk_at hchk ho).2.1 him).2 j oj t hjm hoj' hjt).1 hne ht
      rw [Nat.zero_add] at this
      exact this
    by_cases hia : i = al
    · subst hia
      rw [if_pos rfl] at h
      obtain ⟨hwt, hk⟩ := h bx w'
      refine .inl ⟨hwt, fun K hK => hk K ?_⟩
      have hDst : D st = false := by
        cases hD : D st with
        | false => rfl
        | true =>
          obtain ⟨os, hos, hc⟩ := Option.map_eq_some_iff.1 hdep
          have := hcl st os hos hD i (by simpa using hc)
          rw [hDi] at this
          cases this
      have hlook := hK w'.heap.size (w'.alloc z) (fun j hj => by
        have : j ≠ i := fun e => by rw [e, hDi] at hj; cases hj
        simp [this]) ⟨hbw.alloc hbw.size z, fun _ => ⟨hbw.size, by rw [heap_push, if_pos rfl, upd_ne (Ne.symm hne), hDst]; simp⟩⟩
      simpa using hlook
    · rw [if_neg hia] at h
      have hDal : upd D i true al = D al := upd_ne (fun e => hia e.symm)
      by_cases his : i = st
      · subst his
        rw [if_pos rfl] at h
        obtain ⟨os, hos, hc⟩ := Option.map_eq_some_iff.1 hdep
        have eo : os = o := Option.some.inj (hos.symm.trans ho)
        subst eo
        have hDa := hp al (by simpa using hc)
        obtain ⟨hle, hcell⟩ := hblk hDa
        rw [hDi] at hcell
        obtain ⟨hwt, hk⟩ := h bx w' hbw hle (by simpa using hcell)
        refine .inl ⟨hwt, fun K hK => hk K fun w'' hw'' hy => ?_⟩
        have := hK bx w'' (fun _ _ => rfl) ⟨hw'', fun _ => ⟨hle, by rw [upd_same]; simpa using hy⟩⟩
        rw [hself _ rfl] at this
        exact this
      · rw [if_neg his] at h
        have hDst : upd D i true st = D st := upd_ne (fun e => his e.symm)
        rcases h bx w' hbw with ⟨hwt, hk⟩ | ⟨hwt, hv⟩
        · refine .inl ⟨hwt, fun K hK => hk K fun w'' hw'' => ?_⟩
          have := hK bx w'' (fun _ _ => rfl) ⟨hbw.trans (hw''.mono hbw.size), fun hd => by
            rw [hDal] at hd
            obtain ⟨hle, hcell⟩ := hblk hd
            refine ⟨hle, ?_⟩
            rw [hDst]
            exact (hw''.block bx (Array.getElem?_eq_some_iff.1 hcell).1).trans hcell⟩
          rw [hself _ rfl] at this
          exact this
        · refine .inr ⟨hwt, by simp only [if_neg hia]; exact hv, hbw, fun hd => ?_⟩
          rw [hDal] at hd
          rw [hDst]
          exact hblk hd
  · intro bx w' ⟨hbw, hblk⟩
    have hla : decide (al < m) = true := decide_eq_true hal
    have hls : decide (st < m) = true := decide_eq_true hst
    obtain ⟨hle, hcell⟩ := hblk hla
    simp only [hls, if_true] at hcell
    exact hfin bx w' hbw hle hcell

/-- The same, operation by operation. -/
def GhostAll (P : Program) (ops : Array Oper) {G : Type} (val : G → Nat → Value) (b : G → Act) (J : (Nat → Bool) → G → World → Prop) : Nat → List Oper → Prop
  | _, [] => True
  | i, o :: rest => (∀ (D : Nat → Bool) (γ : G) (w : World), D i = false → (∀ j ∈ preds o, D j = true) → J D γ w →
      (Region.wanted o (yielded ops (b γ).tmps) = true ∧ ∀ K : Act → World → Prop, (∀ γ' w', (∀ j, D j = true → val γ' j = val γ j) → J (upd D i true) γ' w' → K ((b γ).put o.dst (val γ' i)) w') → o.wp P (b γ) w K (fun _ _ _ => False)) ∨
      (Region.wanted o (yielded ops (b γ).tmps) = false ∧ val γ i = undef ∧ J (upd D i true) γ w)) ∧ GhostAll P ops val b J (i + 1) rest

theorem ghostAll_at {P : Program} {ops : Array Oper} {G : Type} {val : G → Nat → Value} {b : G → Act} {J : (Nat → Bool) → G → World → Prop} : ∀ (l : List Oper) (k i : Nat) (o : Oper), GhostAll P ops val b J k l → l[i]? = some o →
    ∀ (D : Nat → Bool) (γ : G) (w : World), D (k + i) = false → (∀ j ∈ preds o, D j = true) → J D γ w →
      (Region.wanted o (yielded ops (b γ).tmps) = true ∧ ∀ K : Act → World → Prop, (∀ γ' w', (∀ j, D j = true → val γ' j = val γ j) → J (upd D (k + i) true) γ' w' → K ((b γ).put o.dst (val γ' (k + i))) w') → o.wp P (b γ) w K (fun _ _ _ => False)) ∨
      (Region.wanted o (yielded ops (b γ).tmps) = false ∧ val γ (k + i) = undef ∧ J (upd D (k + i) true) γ w)
  | [], _, _, _, _, h => by simp at h
  | o' :: rest, k, 0, o, hp, h => by
    simp only [List.getElem?_cons_zero, Option.some.injEq] at h
    subst h
    exact hp.1
  | o' :: rest, k, i + 1, o, hp, h => by
    rw [show k + (i + 1) = k + 1 + i from by omega]
    exact ghostAll_at rest (k + 1) i o hp.2 (by simpa using h)

theorem wp_region_ghosts {P : Program} {id : Nat} {l : List Oper} {Q : Exit → Act → World → Prop} {a : Act} {w : World} (hmix : P.follows .mixedOrders = true) (m f : Nat) (hchk : freeChk l m f = true)
    {G : Type} (γ0 : G) (val : G → Nat → Value) (b : G → Act) (hb : ∀ γ, puts (fun _ => true) (val γ) 0 (l.take m) a = b γ) (J : (Nat → Bool) → G → World → Prop) (hJ : J (fun _ => false) γ0 w.drew)
    (hstep : GhostAll P l.toArray val b J 0 (l.take m))
    (hfin : ∀ γ w', J (fun j => decide (j < m)) γ w' → wpList P l.toArray Q (l.drop m) (b γ) w') :
    (Code.region id l.toArray true).wp P Q a w := by
  refine wp_region_ghost hmix m f hchk γ0 val b hb J hJ (fun i o him ho D γ w' _ hDi hp hJw => ?_) hfin
  have h := ghostAll_at (l.take m) 0 i o hstep (by rw [List.getElem?_take]; simp [him, ho])
  rw [Nat.zero_add] at h
  exact h D γ w' hDi hp hJw

end Draw
end Go.Proofs.Ytgjdkdfgfbonfaa
