/- What leaves memory as it was but for one block (a source's), and the pure form of an act. No program is named here. Conditions: none. -/
import Derived.Test.YtgjdkdfgfbonfaaMx
namespace Go.Proofs.Ytgjdkdfgfbonfaa
open Go.RowKit

structure But (g : Nat) (w w' : World) : Prop where
  os : w'.os = w.os
  tape : w'.tape = w.tape
  output : w'.output = w.output
  size : w.heap.size ≤ w'.heap.size
  block : ∀ k, k < w.heap.size → k ≠ g → w'.heap[k]? = w.heap[k]?

theorem But.refl (g : Nat) (w : World) : But g w w := ⟨rfl, rfl, rfl, Nat.le_refl _, fun _ _ _ => rfl⟩
theorem But.of_below {g : Nat} {w w' : World} (h : Below w.heap.size w w') : But g w w' := ⟨h.os, h.tape, h.output, h.size, fun k hk _ => h.block k hk⟩
theorem But.trans {g : Nat} {a b c : World} (h : But g a b) (k : But g b c) : But g a c :=
  ⟨k.os.trans h.os, k.tape.trans h.tape, k.output.trans h.output, Nat.le_trans h.size k.size, fun i hi hne => (k.block i (Nat.lt_of_lt_of_le hi h.size) hne).trans (h.block i hi hne)⟩
theorem But.below {g : Nat} {a b c : World} (h : But g a b) (k : Below b.heap.size b c) : But g a c := h.trans (But.of_below k)
theorem But.drew {g : Nat} {a w : World} (h : But g a w) : But g a w.drew := ⟨h.os, h.tape, h.output, h.size, h.block⟩
theorem But.alloc {g : Nat} {a w : World} (h : But g a w) (o : Obj) : But g a (w.alloc o) := h.below ((Below.refl _ _).alloc (Nat.le_refl _) _)
theorem But.setAt {g : Nat} {a w : World} (h : But g a w) (j : Nat) (u : Value) : But g a (w.setCell ⟨g, j, none⟩ u) :=
  ⟨h.os, h.tape, h.output, by simpa using h.size, fun k hk hne => (Below.heap_setCell w _ u k hne).trans (h.block k hk hne)⟩
theorem But.setNew {g : Nat} {a w : World} (h : But g a w) {b : Nat} (hb : a.heap.size ≤ b) (j : Nat) (u : Value) : But g a (w.setCell ⟨b, j, none⟩ u) :=
  ⟨h.os, h.tape, h.output, by simpa using h.size, fun k hk hne => (Below.heap_setCell w _ u k (by show k ≠ b; omega)).trans (h.block k hk hne)⟩
/-- Where the one block is a new one, nothing that was there is turned. -/
theorem But.toBelow {g n : Nat} {w w' : World} (h : But g w w') (hn : n ≤ w.heap.size) (hg : n ≤ g) : Below n w w' :=
  ⟨h.os, h.tape, h.output, h.size, fun k hk => h.block k (by omega) (by omega)⟩

abbrev src (s : Int) : Obj := .cells #[.int .u64 s] 30

theorem kept_but {g : Nat} {w w' : World} (hb : But g w w') {s : Int} (hg : w.heap[g]? = some (src s)) {b : Nat} {cs : Array Value} {t : TypeId} (h : w.heap[b]? = some (.cells cs t)) (ht : t ≠ 30) : w'.heap[b]? = some (.cells cs t) := by
  by_cases hbg : b = g
  · subst hbg
    rw [hg] at h
    simp at h
    exact absurd h.2.symm ht
  · exact (hb.block b (lt_of_heap h) hbg).trans h

theorem TextsAt.but {g : Nat} {w w' : World} {s : Int} {v : Value} {l : List ByteArray} (h : TextsAt w v l) (hg : w.heap[g]? = some (src s)) (hb : But g w w') : TextsAt w' v l := by
  obtain ⟨a, cap, rfl, hm, h⟩ := h
  refine ⟨a, cap, rfl, hm, ?_⟩
  rcases h with h | ⟨b, off, rfl, hlt, hc⟩
  · exact .inl h
  · by_cases hbg : b = g
    · subst hbg
      rcases l with _ | ⟨x, l⟩
      · exact .inl rfl
      · have := hc 0 x rfl
        rw [cell_of hg] at this
        rcases off with _ | off
        · simp at this
        · simp at this
    · refine .inr ⟨b, off, rfl, Nat.lt_of_lt_of_le hlt hb.size, fun i s' hi => ?_⟩
      rw [World.cell?_of_block (w := w) (hb.block b hlt hbg)]
      exact hc i s' hi

/-! ### Acts -/
structure Ac where
  k : Nat
  a : Int
  n : Int
  p : ByteArray
  v : ByteArray
  keep : List Int

def nxi (s : Int) : Nat → Int
  | 0 => s
  | k + 1 => nx (nxi s k)
def keeps (s : Int) (n : Nat) : List Int := (List.range n).map fun i => dr (nxi s i) 3
def pick (l : List ByteArray) (s : Int) : ByteArray := l.getD (dr s l.length).toNat ⟨#[]⟩

/-- The act that is drawn from a source, and how many draws it takes. -/
def actOf (M : Mx) (s : Int) : Ac :=
  let k := kindN M (dr s (sumW M.W 18))
  let s1 := nx s
  if k = 11 then ⟨k, 1 + dr s1 M.tk, 0, ⟨#[]⟩, ⟨#[]⟩, []⟩
  else if k = 12 ∨ k = 13 ∨ k = 14 then ⟨k, dr s1 M.pk, 0, ⟨#[]⟩, ⟨#[]⟩, []⟩
  else if k = 1 then ⟨k, dr s1 M.nd, 0, pick M.P (nx s1), pick M.V (nx (nx s1)), []⟩
  else if k = 2 ∨ k = 3 ∨ k = 4 then ⟨k, dr s1 M.nd, 0, pick M.P (nx s1), ⟨#[]⟩, []⟩
  else if k = 15 then ⟨k, dr s1 M.nd, 0, ⟨#[]⟩, ⟨#[]⟩, keeps (nx (nx s1)) (dr (nx s1) 5).toNat⟩
  else if k = 16 then ⟨k, dr s1 M.nd, dr (nx s1) 20, ⟨#[]⟩, ⟨#[]⟩, []⟩
  else ⟨k, dr s1 M.nd, 0, ⟨#[]⟩, ⟨#[]⟩, []⟩
def actNext (M : Mx) (s : Int) : Int :=
  let k := kindN M (dr s (sumW M.W 18))
  let s1 := nx s
  if k = 11 then nx s1
  else if k = 12 ∨ k = 13 ∨ k = 14 then nx s1
  else if k = 1 then nx (nx (nx s1))
  else if k = 2 ∨ k = 3 ∨ k = 4 then nx (nx s1)
  else if k = 15 then nxi (nx (nx s1)) (dr (nx s1) 5).toNat
  else if k = 16 then nx (nx s1)
  else nx s1

section
variable {M : Mx} {s : Int} {k : Nat}
theorem act_tick (h : kindN M (dr s (sumW M.W 18)) = k) (hk : k = 11) : actOf M s = ⟨k, 1 + dr (nx s) M.tk, 0, ⟨#[]⟩, ⟨#[]⟩, []⟩ ∧ actNext M s = nx (nx s) := by
  subst hk; simp [actOf, actNext, h]
theorem act_pkt (h : kindN M (dr s (sumW M.W 18)) = k) (hk : k = 12 ∨ k = 13 ∨ k = 14) : actOf M s = ⟨k, dr (nx s) M.pk, 0, ⟨#[]⟩, ⟨#[]⟩, []⟩ ∧ actNext M s = nx (nx s) := by
  rcases hk with rfl | rfl | rfl <;> simp [actOf, actNext, h]
theorem act_put (h : kindN M (dr s (sumW M.W 18)) = k) (hk : k = 1) : actOf M s = ⟨k, dr (nx s) M.nd, 0, pick M.P (nx (nx s)), pick M.V (nx (nx (nx s))), []⟩ ∧ actNext M s = nx (nx (nx (nx s))) := by
  subst hk; simp [actOf, actNext, h]
theorem act_path (h : kindN M (dr s (sumW M.W 18)) = k) (hk : k = 2 ∨ k = 3 ∨ k = 4) : actOf M s = ⟨k, dr (nx s) M.nd, 0, pick M.P (nx (nx s)), ⟨#[]⟩, []⟩ ∧ actNext M s = nx (nx (nx s)) := by
  rcases hk with rfl | rfl | rfl <;> simp [actOf, actNext, h]
theorem act_crash (h : kindN M (dr s (sumW M.W 18)) = k) (hk : k = 15) : actOf M s = ⟨k, dr (nx s) M.nd, 0, ⟨#[]⟩, ⟨#[]⟩, keeps (nx (nx (nx s))) (dr (nx (nx s)) 5).toNat⟩ ∧ actNext M s = nxi (nx (nx (nx s))) (dr (nx (nx s)) 5).toNat := by
  subst hk; simp [actOf, actNext, h]
theorem act_fuse (h : kindN M (dr s (sumW M.W 18)) = k) (hk : k = 16) : actOf M s = ⟨k, dr (nx s) M.nd, dr (nx (nx s)) 20, ⟨#[]⟩, ⟨#[]⟩, []⟩ ∧ actNext M s = nx (nx (nx s)) := by
  subst hk; simp [actOf, actNext, h]
theorem act_else (h : kindN M (dr s (sumW M.W 18)) = k) (hk : k = 0 ∨ (5 ≤ k ∧ k ≤ 10) ∨ 17 ≤ k) : actOf M s = ⟨k, dr (nx s) M.nd, 0, ⟨#[]⟩, ⟨#[]⟩, []⟩ ∧ actNext M s = nx (nx s) := by
  have h1 : k ≠ 11 := by omega
  have h2 : ¬ (k = 12 ∨ k = 13 ∨ k = 14) := by omega
  have h3 : k ≠ 1 := by omega
  have h4 : ¬ (k = 2 ∨ k = 3 ∨ k = 4) := by omega
  have h5 : k ≠ 15 := by omega
  have h6 : k ≠ 16 := by omega
  simp only [actOf, actNext, h, if_neg h1, if_neg h2, if_neg h3, if_neg h4, if_neg h5, if_neg h6, and_self]
end

theorem keeps_succ (s : Int) (k : Nat) : keeps s (k + 1) = keeps s k ++ [dr (nxi s k) 3] := by
  simp [keeps, List.range_succ]
theorem keeps_length (s : Int) (k : Nat) : (keeps s k).length = k := by simp [keeps]

end Go.Proofs.Ytgjdkdfgfbonfaa
