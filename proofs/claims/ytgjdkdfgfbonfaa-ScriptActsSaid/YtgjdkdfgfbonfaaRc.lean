/- What the document's draws leave as it was; the contract of its Draw. Conditions: none. -/
import Derived.Test.YtgjdkdfgfbonfaaN6
import Derived.Test.YtgjdkdfgfbonfaaD1
import Derived.Test.YtgjdkdfgfbonfaaCt
import Derived.Test.YtgjdkdfgfbonfaaM2
namespace Go.Proofs.Ytgjdkdfgfbonfaa
open Go.RowKit

abbrev srd (s : Int) : Obj := .cells #[.int .u64 s] 57

theorem kept_butD {g : Nat} {w w' : World} (hb : But g w w') {s : Int} (hg : w.heap[g]? = some (srd s)) {b : Nat} {cs : Array Value} {t : TypeId} (h : w.heap[b]? = some (.cells cs t)) (ht : t ≠ 57) : w'.heap[b]? = some (.cells cs t) := by
  by_cases hbg : b = g
  · subst hbg
    rw [hg] at h
    simp at h
    exact absurd h.2.symm ht
  · exact (hb.block b (lt_of_heap h) hbg).trans h

theorem TextsAt.butD {g : Nat} {w w' : World} {s : Int} {v : Value} {l : List ByteArray} (h : TextsAt w v l) (hg : w.heap[g]? = some (srd s)) (hb : But g w w') : TextsAt w' v l := by
  obtain ⟨a, cap, rfl, hm, h⟩ := h
  refine ⟨a, cap, rfl, hm, ?_⟩
  rcases h with h | ⟨b, off, rfl, hlt, hc⟩
  · exact .inl h
  · by_cases hbg : b = g
    · subst hbg
      rcases l with _ | ⟨x, l⟩
      · exact .inl rfl
      · have := hc 0 x rfl
        rw [cell_of hg] at this
        rcases off with _ | off
        · simp at this
        · simp at this
    · refine .inr ⟨b, off, rfl, Nat.lt_of_lt_of_le hlt hb.size, fun i s' hi => ?_⟩
      rw [World.cell?_of_block (w := w) (hb.block b hlt hbg)]
      exact hc i s' hi

theorem MixAt.butD {g : Nat} {w w' : World} {s : Int} {C : Array Value} {M : Mx} (h : MixAt w C M) (hg : w.heap[g]? = some (srd s)) (hb : But g w w') : MixAt w' C M := by
  obtain ⟨vp, vv, h1, h2, h3⟩ := h.ex
  exact ⟨vp, vv, h1, h2.butD hg hb, h3.butD hg hb⟩

/-- Where an act's drawing stands: w: the world ahead of the call, W: the world now, s: the source, c: the act's cells. -/
structure StD (w : World) (g bx : Nat) (C : Array Value) (W : World) (s : Int) (c : Array Value) : Prop where
  hg : W.heap[g]? = some (srd s)
  hK : W.heap[w.heap.size]? = some (.cells C 51)
  h4 : W.heap[w.heap.size + 1]? = some (.cells #[.int .u8 0, .int .i64 0, .int .i64 0, .int .i64 0, .string ⟨#[]⟩, .string ⟨#[]⟩, .slice none 0 0] 35)
  h5 : W.heap[bx]? = some (.cells c 35)
  hbx : w.heap.size + 2 ≤ bx
  hB : But g w W

theorem StD.tell {w : World} {g bx : Nat} {C : Array Value} {W W' : World} {s s' : Int} {c : Array Value} (h : StD w g bx C W s c) (hg : W'.heap[g]? = some (srd s')) (hb : But g W W') : StD w g bx C W' s' c :=
  ⟨hg, kept_butD hb h.hg h.hK (by decide), kept_butD hb h.hg h.h4 (by decide), kept_butD hb h.hg h.h5 (by decide), h.hbx, h.hB.trans hb⟩
theorem StD.gne {w : World} {g bx : Nat} {C : Array Value} {W : World} {s : Int} {c : Array Value} (h : StD w g bx C W s c) : g ≠ bx := by
  intro e
  have := h.hg
  rw [e, h.h5] at this
  simp at this
theorem StD.gne4 {w : World} {g bx : Nat} {C : Array Value} {W : World} {s : Int} {c : Array Value} (h : StD w g bx C W s c) : g ≠ w.heap.size + 1 := by
  intro e
  have := h.hg
  rw [e, h.h4] at this
  simp at this
theorem StD.set {w : World} {g bx : Nat} {C : Array Value} {W : World} {s : Int} {c : Array Value} (h : StD w g bx C W s c) (j : Nat) (u : Value) : StD w g bx C (W.setCell ⟨bx, j, none⟩ u) s (c.setIfInBounds j u) := by
  have hbx := h.hbx
  exact ⟨set_ne h.gne h.hg, set_ne (by omega) h.hK, set_ne (by omega) h.h4, set_at h.h5, hbx, h.hB.setNew (by omega) _ _⟩
theorem StD.row {w : World} {g bx : Nat} {C : Array Value} {W : World} {s : Int} {c : Array Value} (h : StD w g bx C W s c) (c' : Array Value) : StD w g bx C (W.setRow bx c') s c' := by
  have hbx := h.hbx
  have hsz := h.hB.size
  refine ⟨(setRow_other _ _ _ _ h.gne).trans h.hg, (setRow_other _ _ _ _ (by omega)).trans h.hK, (setRow_other _ _ _ _ (by omega)).trans h.h4, setRow_heap _ _ _ _ _ _ h.h5, hbx, ?_⟩
  exact ⟨h.hB.os, h.hB.tape, h.hB.output, by simpa using hsz, fun k hk hne => (setRow_other _ _ _ _ (by omega)).trans (h.hB.block k hk hne)⟩
theorem StD.done {w : World} {g bx : Nat} {C : Array Value} {W : World} {s : Int} {c : Array Value} (h : StD w g bx C W s c) (c' : Array Value) : (W.setRow (w.heap.size + 1) c').heap[g]? = some (srd s) ∧ But g w (W.setRow (w.heap.size + 1) c') := by
  have hsz := h.hB.size
  refine ⟨(setRow_other _ _ _ _ h.gne4).trans h.hg, ?_⟩
  exact ⟨h.hB.os, h.hB.tape, h.hB.output, by simpa using hsz, fun k hk hne => (setRow_other _ _ _ _ (by omega)).trans (h.hB.block k hk hne)⟩
theorem StD.drew {w : World} {g bx : Nat} {C : Array Value} {W : World} {s : Int} {c : Array Value} (h : StD w g bx C W s c) : StD w g bx C W.drew s c :=
  ⟨h.hg, h.hK, h.h4, h.h5, h.hbx, h.hB.drew⟩
theorem own_butD {g : Nat} {W W' : World} {base : Nat} {e : TypeId} {size : Nat} {v : Value} {n : Nat} {xs : List Value} (h : W.ownsRow base e size v n xs) {s : Int} (hg : W.heap[g]? = some (srd s)) (hb : But g W W') (he : e ≠ 57) : W'.ownsRow base e size v n xs :=
  own_keep h fun _ _ _ hh => (kept_butD hb hg hh he).trans hh.symm
theorem StD.grown {w : World} {g bx : Nat} {C : Array Value} {W W' : World} {s : Int} {c : Array Value} (h : StD w g bx C W s c) {v : Value} {n : Nat} {xs : List Value} (ho : W.ownsRow w.heap.size 3 1 v n xs) (hgr : W.grownBy W' v.ownBlock) : StD w g bx C W' s c := by
  refine ⟨(hgr.block _ (lt_of_heap h.hg) (own_ne ho h.hg (by decide))).trans h.hg, (hgr.block _ (lt_of_heap h.hK) (own_ne ho h.hK (by decide))).trans h.hK, (hgr.block _ (lt_of_heap h.h4) (own_ne ho h.h4 (by decide))).trans h.h4, (hgr.block _ (lt_of_heap h.h5) (own_ne ho h.h5 (by decide))).trans h.h5, h.hbx, ?_⟩
  refine ⟨hgr.os.trans h.hB.os, hgr.tape.trans h.hB.tape, hgr.output.trans h.hB.output, Nat.le_trans h.hB.size hgr.size, fun k hk hne => (hgr.block k (Nat.lt_of_lt_of_le hk h.hB.size) ?_).trans (h.hB.block k hk hne)⟩
  intro e
  have := ho.lt k e.symm
  omega


theorem dr_mostD (s n : Int) (h1 : 1 ≤ n) (h2 : n ≤ 2147483648) : IntKind.i64.wrap (tl (nx s) * n) = tl (nx s) * n ∧ (tl (nx s) * n).tdiv 4294967296 = dr s n ∧ IntKind.i64.wrap (dr s n) = dr s n := by
  obtain ⟨t0, t1⟩ := tl_range (nx_range s).1 (nx_range s).2
  obtain ⟨m0, m1⟩ := mul_hi t0 t1 h1
  have hr := dr_range s n h1
  exact ⟨IntWalk.i64_in _ (by omega), Int.tdiv_eq_ediv_of_nonneg m0, IntWalk.i64_in _ (by omega)⟩

set_option maxRecDepth 100000 in
set_option maxHeartbeats 1600000 in
theorem of_srcS (g : Nat) (s n : Int) (w : World) (hn0 : 1 ≤ n) (hn1 : n ≤ 2147483648) (hg : w.heap[g]? = some (srd s)) :
    Calls Try.prog 38 #[.pointer (some ⟨g, 0, none⟩), .int .i64 n] w fun e w' => e = .returned (.int .i64 (dr s n)) ∧ w'.heap[g]? = some (srd (nx s)) ∧ But g w w' ∧ w'.heap.size = w.heap.size := by
  obtain ⟨c0, f0⟩ := cells1 hg
  have hnr := nx_range s
  have g1 : (w.setCell ⟨g, 0, none⟩ (.int .u64 (nx s))).heap[g]? = some (srd (nx s)) := by simpa using set_at (j := 0) (u := .int .u64 (nx s)) hg
  have hb1 : But g w (w.setCell ⟨g, 0, none⟩ (.int .u64 (nx s))) := (But.refl _ _).setAt _ _
  have hz1 : (w.setCell ⟨g, 0, none⟩ (.int .u64 (nx s))).heap.size = w.heap.size := by simp
  obtain ⟨d0, _⟩ := cells1 g1
  go_enter Try.func38, Try.ntmps38
  go_wp2_with fail
  refine (refNext_any _ _).mono ?_
  rintro e u3 ⟨rfl, rfl⟩
  go_wp2_with fail
  refine (refTells_any _ hnr.1 hnr.2 _).mono ?_
  rintro e u4 ⟨rfl, rfl⟩
  obtain ⟨q1, q2, q3⟩ := dr_mostD s n hn0 hn1
  go_wp2_with fail
  go_ret
  exact ⟨rfl, g1, hb1, hz1⟩
theorem refSum18 (C : Array Value) (M : Mx) (vp vv : Value) (hC : IsC C M vp vv) (hok : okW M.W = true) (w : World) : Calls Try.prog 37 #[.agg C, .int .i64 17] w fun e w' => e = .returned (.int .i64 (sumW M.W 18)) ∧ Below w.heap.size w w' :=
  refSum_any C M vp vv hC hok 17 (by omega) w
theorem kind_not0 {M : Mx} (hr : rightB M = true) (s : Int) : kindN M (dr s (sumW M.W 18)) ≠ 0 := by
  have hF := fit_of hr
  have hd := dr_range s (sumW M.W 18) (by have := hF.sum; omega)
  have h := kind_in hr hd.1 hd.2
  have h0 : M.W 0 = 0 := by simp only [rightB, Bool.and_eq_true] at hr; exact beq_iff_eq.1 hr.1.1.1.1.1.1.2
  intro e
  rw [e] at h
  have e0 : sumW M.W 0 = 0 := rfl
  omega
theorem of_src (g : Nat) (s n : Int) (w : World) (hn0 : 1 ≤ n) (hn1 : n ≤ 2147483648) (hg : w.heap[g]? = some (srd s)) :
    Calls Try.prog 38 #[.pointer (some ⟨g, 0, none⟩), .int .i64 n] w fun e w' => e = .returned (.int .i64 (dr s n)) ∧ w'.heap[g]? = some (srd (nx s)) ∧ But g w w' := by
  refine (of_srcS g s n w hn0 hn1 hg).mono ?_
  rintro e w' ⟨rfl, h1, h2, _⟩
  exact ⟨rfl, h1, h2⟩

end Go.Proofs.Ytgjdkdfgfbonfaa
