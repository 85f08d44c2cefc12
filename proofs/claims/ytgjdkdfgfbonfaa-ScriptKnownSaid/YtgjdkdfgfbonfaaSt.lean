/- The contract of act. Conditions: none. -/
import Derived.Test.YtgjdkdfgfbonfaaN4
import Derived.Test.YtgjdkdfgfbonfaaBut
import Derived.Test.YtgjdkdfgfbonfaaDraw
namespace Go.Proofs.Ytgjdkdfgfbonfaa
open Go.RowKit

theorem mixed : Try.prog.follows .mixedOrders = true := by kernel_rfl

theorem tell_src (g : Nat) (s n : Int) (w : World) (hn0 : 1 ≤ n) (hn1 : n ≤ 2147483648) (hg : w.heap[g]? = some (src s)) :
    Calls Try.prog 16 #[.pointer (some ⟨g, 0, none⟩), .int .i64 n] w fun e w' => e = .returned (.int .i64 (dr s n)) ∧ w'.heap[g]? = some (src (nx s)) ∧ But g w w' := by
  refine (tell_any g 0 s n w hn0 hn1 (cells1 hg).1 (cells1 hg).2).mono ?_
  rintro e w' ⟨rfl, rfl⟩
  exact ⟨rfl, by simpa using set_at (j := 0) (u := .int .u64 (nx s)) hg, (But.refl _ _).setAt _ _⟩

theorem tell_srcS (g : Nat) (s n : Int) (w : World) (hn0 : 1 ≤ n) (hn1 : n ≤ 2147483648) (hg : w.heap[g]? = some (src s)) :
    Calls Try.prog 16 #[.pointer (some ⟨g, 0, none⟩), .int .i64 n] w fun e w' => e = .returned (.int .i64 (dr s n)) ∧ w'.heap[g]? = some (src (nx s)) ∧ But g w w' ∧ w'.heap.size = w.heap.size := by
  refine (tell_any g 0 s n w hn0 hn1 (cells1 hg).1 (cells1 hg).2).mono ?_
  rintro e w' ⟨rfl, rfl⟩
  exact ⟨rfl, by simpa using set_at (j := 0) (u := .int .u64 (nx s)) hg, (But.refl _ _).setAt _ _, by simp⟩

theorem TextsAt.open1 {w : World} {v : Value} {l : List ByteArray} (h : TextsAt w v l) (h1 : 1 ≤ l.length) : ∃ b off cap, v = .slice (some ⟨b, off, none⟩) l.length cap := by
  obtain ⟨a, cap, rfl, hm, h⟩ := h
  rcases h with rfl | ⟨b, off, rfl, hb, hc⟩
  · simp at h1
  · exact ⟨b, off, cap, rfl⟩
theorem TextsAt.cell {w : World} {b off n cap : Nat} {l : List ByteArray} (h : TextsAt w (.slice (some ⟨b, off, none⟩) n cap) l) {i : Nat} (hi : i < l.length) : w.cell? ⟨b, off + i, none⟩ = some (.string (l.getD i ⟨#[]⟩)) := by
  obtain ⟨a, cap', hv, hm, h⟩ := h
  obtain ⟨rfl, _, _⟩ : some ⟨b, off, none⟩ = a ∧ n = l.length ∧ cap = cap' := by simpa using hv
  rcases h with rfl | ⟨b', off', hbo, hb, hc⟩
  · simp at hi
  · obtain ⟨rfl, rfl⟩ : b = b' ∧ off = off' := by simpa using hbo
    rw [hc i _ (List.getElem?_eq_getElem hi)]
    simp [List.getD, List.getElem?_eq_getElem hi]

theorem MixAt.but {g : Nat} {w w' : World} {s : Int} {C : Array Value} {M : Mx} (h : MixAt w C M) (hg : w.heap[g]? = some (src s)) (hb : But g w w') : MixAt w' C M := by
  obtain ⟨vp, vv, h1, h2, h3⟩ := h.ex
  exact ⟨vp, vv, h1, h2.but hg hb, h3.but hg hb⟩

/-- What holds of a right mix. -/
structure Fit (M : Mx) : Prop where
  ok : okW M.W = true
  sum : 0 < sumW M.W 18
  nd : 1 ≤ M.nd ∧ M.nd ≤ 1000
  pk : 1 ≤ M.pk ∧ M.pk ≤ 1000
  tk : 1 ≤ M.tk ∧ M.tk ≤ 1000
  p : 1 ≤ M.P.length ∧ M.P.length ≤ 50
  v : 1 ≤ M.V.length ∧ M.V.length ≤ 50
theorem fit_of {M : Mx} (h : rightB M = true) : Fit M := by
  simp only [rightB, textsB, countB, Bool.and_eq_true, decide_eq_true_eq] at h
  obtain ⟨⟨⟨⟨⟨⟨⟨h1, h2⟩, h3⟩, h4⟩, h5⟩, h6⟩, h7⟩, h8⟩ := h
  exact ⟨h1, h3, h4, h5, h6, h7.1, h8.1⟩

/-- The result: an act's value. -/
def acv (x : Ac) (ks : Value) : Value := .agg #[.int .u8 x.k, .int .i64 x.a, .int .i64 0, .int .i64 x.n, .string x.p, .string x.v, ks]

/-- Where an act's drawing stands: w: the world ahead of the call, W: the world now, s: the source, c: the act's cells. -/
structure St (w : World) (g bx : Nat) (C : Array Value) (W : World) (s : Int) (c : Array Value) : Prop where
  hg : W.heap[g]? = some (src s)
  hK : W.heap[w.heap.size]? = some (.cells C 25)
  h4 : W.heap[w.heap.size + 1]? = some (.cells #[.int .u8 0, .int .i64 0, .int .i64 0, .int .i64 0, .string ⟨#[]⟩, .string ⟨#[]⟩, .slice none 0 0] 35)
  h5 : W.heap[bx]? = some (.cells c 35)
  hbx : w.heap.size + 2 ≤ bx
  hB : But g w W

theorem St.tell {w : World} {g bx : Nat} {C : Array Value} {W W' : World} {s s' : Int} {c : Array Value} (h : St w g bx C W s c) (hg : W'.heap[g]? = some (src s')) (hb : But g W W') : St w g bx C W' s' c :=
  ⟨hg, kept_but hb h.hg h.hK (by decide), kept_but hb h.hg h.h4 (by decide), kept_but hb h.hg h.h5 (by decide), h.hbx, h.hB.trans hb⟩
theorem St.gne {w : World} {g bx : Nat} {C : Array Value} {W : World} {s : Int} {c : Array Value} (h : St w g bx C W s c) : g ≠ bx := by
  intro e
  have := h.hg
  rw [e, h.h5] at this
  simp at this
theorem St.gne4 {w : World} {g bx : Nat} {C : Array Value} {W : World} {s : Int} {c : Array Value} (h : St w g bx C W s c) : g ≠ w.heap.size + 1 := by
  intro e
  have := h.hg
  rw [e, h.h4] at this
  simp at this
theorem St.set {w : World} {g bx : Nat} {C : Array Value} {W : World} {s : Int} {c : Array Value} (h : St w g bx C W s c) (j : Nat) (u : Value) : St w g bx C (W.setCell ⟨bx, j, none⟩ u) s (c.setIfInBounds j u) := by
  have hbx := h.hbx
  exact ⟨set_ne h.gne h.hg, set_ne (by omega) h.hK, set_ne (by omega) h.h4, set_at h.h5, hbx, h.hB.setNew (by omega) _ _⟩
theorem St.row {w : World} {g bx : Nat} {C : Array Value} {W : World} {s : Int} {c : Array Value} (h : St w g bx C W s c) (c' : Array Value) : St w g bx C (W.setRow bx c') s c' := by
  have hbx := h.hbx
  have hsz := h.hB.size
  refine ⟨(setRow_other _ _ _ _ h.gne).trans h.hg, (setRow_other _ _ _ _ (by omega)).trans h.hK, (setRow_other _ _ _ _ (by omega)).trans h.h4, setRow_heap _ _ _ _ _ _ h.h5, hbx, ?_⟩
  exact ⟨h.hB.os, h.hB.tape, h.hB.output, by simpa using hsz, fun k hk hne => (setRow_other _ _ _ _ (by omega)).trans (h.hB.block k hk hne)⟩
theorem St.done {w : World} {g bx : Nat} {C : Array Value} {W : World} {s : Int} {c : Array Value} (h : St w g bx C W s c) (c' : Array Value) : (W.setRow (w.heap.size + 1) c').heap[g]? = some (src s) ∧ But g w (W.setRow (w.heap.size + 1) c') := by
  have hsz := h.hB.size
  refine ⟨(setRow_other _ _ _ _ h.gne4).trans h.hg, ?_⟩
  exact ⟨h.hB.os, h.hB.tape, h.hB.output, by simpa using hsz, fun k hk hne => (setRow_other _ _ _ _ (by omega)).trans (h.hB.block k hk hne)⟩
theorem St.drew {w : World} {g bx : Nat} {C : Array Value} {W : World} {s : Int} {c : Array Value} (h : St w g bx C W s c) : St w g bx C W.drew s c :=
  ⟨h.hg, h.hK, h.h4, h.h5, h.hbx, h.hB.drew⟩
theorem cell7 {w : World} {b : Nat} {v0 v1 v2 v3 v4 v5 v6 : Value} {t : TypeId} (h : w.heap[b]? = some (.cells #[v0, v1, v2, v3, v4, v5, v6] t)) :
    w.cell? ⟨b, 0, none⟩ = some v0 ∧ w.cell? ⟨b, 1, none⟩ = some v1 ∧ w.cell? ⟨b, 3, none⟩ = some v3 ∧ w.cell? ⟨b, 4, none⟩ = some v4 ∧ w.cell? ⟨b, 5, none⟩ = some v5 ∧ w.cell? ⟨b, 6, none⟩ = some v6 ∧
      w.frozen? ⟨b, 1, none⟩ = false ∧ w.frozen? ⟨b, 3, none⟩ = false ∧ w.frozen? ⟨b, 4, none⟩ = false ∧ w.frozen? ⟨b, 5, none⟩ = false ∧ w.frozen? ⟨b, 6, none⟩ = false := by
  simp [World.cell?, World.frozen?, h]

theorem size35 : (Try.prog.info? 35).map (·.size) = some 7 := by kernel_rfl


theorem own_keep {W W' : World} {base : Nat} {e : TypeId} {size : Nat} {v : Value} {n : Nat} {xs : List Value} (h : W.ownsRow base e size v n xs)
    (hk : ∀ b cur, v.ownBlock = some b → W.heap[b]? = some (.cells cur e (0, 0)) → W'.heap[b]? = W.heap[b]?) : W'.ownsRow base e size v n xs := by
  obtain ⟨h1, h2⟩ := h
  refine ⟨h1, ?_⟩
  rcases h2 with h2 | ⟨g, cap, cur, rfl, hg, hh, h3⟩
  · exact .inl h2
  · exact .inr ⟨g, cap, cur, rfl, hg, (hk g cur rfl hh).trans hh, h3⟩
theorem own_but {g : Nat} {W W' : World} {base : Nat} {e : TypeId} {size : Nat} {v : Value} {n : Nat} {xs : List Value} (h : W.ownsRow base e size v n xs) {s : Int} (hg : W.heap[g]? = some (src s)) (hb : But g W W') (he : e ≠ 30) : W'.ownsRow base e size v n xs :=
  own_keep h fun _ _ _ hh => (kept_but hb hg hh he).trans hh.symm
theorem own_ne {W : World} {base : Nat} {e t : TypeId} {size : Nat} {v : Value} {n b : Nat} {xs : List Value} {cs : Array Value} (h : W.ownsRow base e size v n xs) (hb : W.heap[b]? = some (.cells cs t)) (ht : t ≠ e) : some b ≠ v.ownBlock := by
  obtain ⟨h1, h2⟩ := h
  rcases h2 with ⟨rfl, _⟩ | ⟨g, cap, cur, rfl, hg, hh, h3⟩
  · simp [Value.ownBlock]
  · intro e
    simp only [Value.ownBlock, Option.some.injEq] at e
    rw [e, hh] at hb
    simp at hb
    exact ht hb.2.symm
theorem own_set {W : World} {base : Nat} {e t : TypeId} {size : Nat} {v : Value} {n b : Nat} {xs : List Value} {cs : Array Value} (h : W.ownsRow base e size v n xs) (hb : W.heap[b]? = some (.cells cs t)) (ht : t ≠ e) (j : Nat) (u : Value) : (W.setCell ⟨b, j, none⟩ u).ownsRow base e size v n xs :=
  own_keep h fun k cur hk _ => Below.heap_setCell _ _ _ _ fun e => own_ne h hb ht (by rw [hk, e])
theorem own_row {W : World} {base : Nat} {e t : TypeId} {size : Nat} {v : Value} {n b : Nat} {xs : List Value} {cs : Array Value} (h : W.ownsRow base e size v n xs) (hb : W.heap[b]? = some (.cells cs t)) (ht : t ≠ e) (c' : Array Value) : (W.setRow b c').ownsRow base e size v n xs :=
  own_keep h fun k cur hk _ => setRow_other _ _ _ _ fun e => own_ne h hb ht (by rw [hk, e])
theorem St.grown {w : World} {g bx : Nat} {C : Array Value} {W W' : World} {s : Int} {c : Array Value} (h : St w g bx C W s c) {v : Value} {n : Nat} {xs : List Value} (ho : W.ownsRow w.heap.size 3 1 v n xs) (hgr : W.grownBy W' v.ownBlock) : St w g bx C W' s c := by
  refine ⟨(hgr.block _ (lt_of_heap h.hg) (own_ne ho h.hg (by decide))).trans h.hg, (hgr.block _ (lt_of_heap h.hK) (own_ne ho h.hK (by decide))).trans h.hK, (hgr.block _ (lt_of_heap h.h4) (own_ne ho h.h4 (by decide))).trans h.h4, (hgr.block _ (lt_of_heap h.h5) (own_ne ho h.h5 (by decide))).trans h.h5, h.hbx, ?_⟩
  refine ⟨hgr.os.trans h.hB.os, hgr.tape.trans h.hB.tape, hgr.output.trans h.hB.output, Nat.le_trans h.hB.size hgr.size, fun k hk hne => (hgr.block k (Nat.lt_of_lt_of_le hk h.hB.size) ?_).trans (h.hB.block k hk hne)⟩
  intro e
  have := ho.lt k e.symm
  omega

theorem own_slice {W : World} {base : Nat} {e : TypeId} {size : Nat} {v : Value} {n : Nat} {xs : List Value} (h : W.ownsRow base e size v n xs) : ∃ a n c, v = .slice a n c := by
  obtain ⟨_, ⟨rfl, _⟩ | ⟨g, cap, cur, rfl, _⟩⟩ := h
  · exact ⟨_, _, _, rfl⟩
  · exact ⟨_, _, _, rfl⟩
theorem info3 : ∃ i, Try.prog.info? 3 = some i ∧ i.zero = some (.int .i64 0) ∧ i.size = 1 ∧ i.bytes = 8 := ⟨_, rfl, rfl, rfl, rfl⟩
end Go.Proofs.Ytgjdkdfgfbonfaa
