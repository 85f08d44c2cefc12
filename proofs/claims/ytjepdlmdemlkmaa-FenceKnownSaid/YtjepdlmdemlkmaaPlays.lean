/- FencePlays: the same of any row of acts, from a blank one on. Conditions: none. -/
import Derived.Test.YtjepdlmdemlkmaaDoes
namespace Go.Proofs.Ytjepdlmdemlkmaa
open Go.RowKit Go.ChangeShapes Go.WideShapes Go.ChangeAt

/-- What is known of a row of acts: n of them at a place of old memory. -/
structure ActsAt (w : World) (b off n : Nat) (D E : Nat → Int) : Prop where
  old : b < w.heap.size
  few : n ≤ 300
  kind : ∀ i, i < n → w.cell? ⟨b, off + i * 2, none⟩ = some (.int .u8 (D i)) ∧ 0 ≤ D i ∧ D i ≤ 255
  epoch : ∀ i, i < n → w.cell? ⟨b, off + i * 2 + 1, none⟩ = some (.int .i64 (E i))

theorem below_keep {w W w1 : World} (h : Below w.heap.size w W) (hb : Below W.heap.size W w1) : Below w.heap.size w w1 := below_of hb h

/-- A block of three cells, each stored anew. -/
theorem set3 {w : World} {b : Nat} {v0 v1 v2 u0 u1 u2 : Value} {t : TypeId} (h : w.heap[b]? = some (.cells #[v0, v1, v2] t)) :
    (((w.setCell ⟨b, 0, none⟩ u0).setCell ⟨b, 1, none⟩ u1).setCell ⟨b, 2, none⟩ u2).heap[b]? = some (.cells #[u0, u1, u2] t) := by
  simp [World.setCell, Array.getElem?_modify, h]
theorem set3_ne {w : World} {b c : Nat} {u0 u1 u2 : Value} {o : Obj} (hne : c ≠ b) (h : w.heap[c]? = some o) :
    (((w.setCell ⟨b, 0, none⟩ u0).setCell ⟨b, 1, none⟩ u1).setCell ⟨b, 2, none⟩ u2).heap[c]? = some o := by
  simp [World.setCell, Array.getElem?_modify, h, Ne.symm hne]
theorem below_set3 {w w1 : World} {b : Nat} {u0 u1 u2 : Value} (h : Below w.heap.size w w1) (hb : w.heap.size ≤ b) :
    Below w.heap.size w (((w1.setCell ⟨b, 0, none⟩ u0).setCell ⟨b, 1, none⟩ u1).setCell ⟨b, 2, none⟩ u2) := ((h.setCell hb _).setCell hb _).setCell hb _

theorem does_is (r s g d ep : Int) (y : St × Int) (h : 0 ≤ d) (hy : Hid (doesN r s g d ep = y)) (w : World) :
    Calls Try.prog 16 #[.agg #[.int .i64 r, .int .i64 s, .int .i64 g], .agg #[.int .u8 d, .int .i64 ep]] w fun e w' => e = .returned (.tuple #[.agg #[.int .i64 y.1.r, .int .i64 y.1.s, .int .i64 y.1.g], .int .i64 y.2]) ∧ Below w.heap.size w w' := by
  have h' := does_any r s g d ep h w
  rw [hy.out] at h'
  exact h'
theorem rdoes_is (r s g d ep : Int) (y : St × Int) (h : 0 ≤ d) (h5 : d ≤ 5) (hy : Hid (doesN r s g d ep = y)) (w : World) :
    Calls Try.prog 17 #[.agg #[.int .i64 r, .int .i64 s, .int .i64 g], .int .i64 d, .int .i64 ep] w fun e w' => e = .returned (.tuple #[.agg #[.int .i64 y.1.r, .int .i64 y.1.s, .int .i64 y.1.g], .int .i64 y.2]) ∧ Below w.heap.size w w' := by
  have h' := rdoes_any r s g d ep h h5 w
  rw [hy.out] at h'
  exact h'

set_option maxHeartbeats 4000000 in
theorem plays_loop (b off n cap : Nat) (D E : Nat → Int) (_hcap : n ≤ cap) (w : World) (hl : ActsAt w b off n D E) :
    Calls Try.prog 5 #[.slice (some ⟨b, off, none⟩) n cap] w fun e w' => e = .returned (.bool true) ∧ Below w.heap.size w w' := by
  have hn := hl.few
  have hbo := hl.old
  go_enter Try.func5, Try.ntmps5
  go_wp2_with fail
  go_loopw [5] (fun i wr => ∃ (k : Nat) (x : St), k ≤ n ∧ i = .int .i64 k ∧ wr.heap[w.heap.size]? = some (.cells #[.int .i64 x.r, .int .i64 x.s, .int .i64 x.g] 23) ∧ wr.heap[w.heap.size + 1]? = some (.cells #[.int .i64 x.r, .int .i64 x.s, .int .i64 x.g] 32) ∧ Below w.heap.size w wr)
    (fun i _ => n - (intOf i).toNat)
  case atStart => exact ⟨0, ⟨0, 0, 0⟩, Nat.zero_le _, rfl, old_alloc new_alloc, by rw [show w.heap.size + 1 = (w.alloc (.cells #[.int .i64 0, .int .i64 0, .int .i64 0] 23)).heap.size from by simp]; exact new_alloc, by repeat (first | exact Below.refl _ _ | refine Below.alloc ?_ (by simp <;> omega) _ | refine Below.setCell ?_ (by simp <;> omega) _)⟩
  case round =>
    obtain ⟨k, x, hk, rfl, hs, hw, hbel⟩ := hrel
    by_cases hlt : k < n
    · obtain ⟨hc0, hd0, hd1⟩ := hl.kind k hlt
      have hc1 := hl.epoch k hlt
      have e0 := (hbel.cell (p := ⟨b, off + k * 2, none⟩) hbo).trans hc0
      have e1 := (hbel.cell (p := ⟨b, off + k * 2 + 1, none⟩) hbo).trans hc1
      generalize D k = d at *
      generalize E k = ep at *
      clear hl
      by_cases h5 : 5 < d
      · clear hc0 hc1
        go_wp2_with fail
        go_roundw
        case rel => exact ⟨k + 1, x, by omega, by go_num, hs, hw, hbel⟩
        case measure => simp [intOf]; omega
      · have H0 : Hid (w.cell? ⟨b, off + k * 2, none⟩ = some (.int .u8 d)) := hc0
        have H1 : Hid (w.cell? ⟨b, off + k * 2 + 1, none⟩ = some (.int .i64 ep)) := hc1
        clear hc0 hc1
        obtain ⟨y, hy⟩ : ∃ y, Hid (doesN x.r x.s x.g d ep = y) := ⟨_, rfl⟩
        go_wp2_with fail
        clear e0 e1
        have hc0 := H0.out
        have hc1 := H1.out
        clear H0 H1
        refine Draw.wp_region_store mixed 11 3 9 (by kernel_rfl) (by omega) [.agg #[.int .i64 x.r, .int .i64 x.s, .int .i64 x.g], .slice (some ⟨b, off, none⟩) n cap, .int .i64 k, .pointer (some ⟨b, off + k * 2, none⟩), .agg #[.int .u8 d, .int .i64 ep], .tuple #[.agg #[.int .i64 y.1.r, .int .i64 y.1.s, .int .i64 y.1.g], .int .i64 y.2], .tuple #[.agg #[.int .i64 y.1.r, .int .i64 y.1.s, .int .i64 y.1.g], .int .i64 y.2], .agg #[.int .i64 y.1.r, .int .i64 y.1.s, .int .i64 y.1.g], .int .i64 y.2, undef, .int .i64 y.2] _ rfl (fun w1 => Below w.heap.size w w1 ∧ w1.heap[w.heap.size]? = some (.cells #[.int .i64 x.r, .int .i64 x.s, .int .i64 x.g] 23) ∧ w1.heap[w.heap.size + 1]? = some (.cells #[.int .i64 x.r, .int .i64 x.s, .int .i64 x.g] 32)) (fun w1 => Below w.heap.size w w1 ∧ w1.heap[w.heap.size]? = some (.cells #[.int .i64 y.1.r, .int .i64 y.1.s, .int .i64 y.1.g] 23) ∧ w1.heap[w.heap.size + 1]? = some (.cells #[.int .i64 x.r, .int .i64 x.s, .int .i64 x.g] 32)) ⟨hbel.drew, hs, hw⟩ (fun _ _ hb h => ⟨below_keep h.1 hb, kept hb h.2.1, kept hb h.2.2⟩) (fun _ _ hb h => ⟨below_keep h.1 hb, kept hb h.2.1, kept hb h.2.2⟩) ?_ ?_
        · simp only [Draw.puts, List.take_succ_cons, List.take_zero, if_true, Act.put, List.setIfInBounds_toArray, List.set_cons_zero, List.set_cons_succ, Nat.zero_add, Nat.reduceAdd, List.getD_cons_zero, List.getD_cons_succ]
          refine ⟨?_, ?_, ?_, ?_, ?_, ?_, ?_, ?_, ?_, ?_, ?_, trivial⟩
          · rw [if_neg (by decide)]
            intro w1 hw1
            rcases hw1 with ⟨hb1, k0, k1⟩ | ⟨he, _⟩
            · obtain ⟨c0, c1, c2, f0, f1, f2⟩ := cells3 k0
              refine .inl ⟨rfl, fun K hK => ?_⟩
              go_simp
              exact hK _ (Below.refl _ _)
            · exact absurd he (by decide)
          · rw [if_neg (by decide)]
            intro w1 hw1
            have hb1 : Below w.heap.size w w1 := by rcases hw1 with h | ⟨_, h⟩ <;> exact h.1
            have e0 := (hb1.cell (p := ⟨b, off + k * 2, none⟩) hbo).trans hc0
            have e1 := (hb1.cell (p := ⟨b, off + k * 2 + 1, none⟩) hbo).trans hc1
            clear hw1
            refine .inl ⟨rfl, fun K hK => ?_⟩
            go_simp
            try go_bits
            first
              | exact hK _ (Below.refl _ _)
              | (refine (does_is _ _ _ _ _ y hd0 hy _).mono ?_; rintro e w2 ⟨rfl, hb2⟩; exact hK _ hb2)
          · rw [if_neg (by decide)]
            intro w1 hw1
            have hb1 : Below w.heap.size w w1 := by rcases hw1 with h | ⟨_, h⟩ <;> exact h.1
            have e0 := (hb1.cell (p := ⟨b, off + k * 2, none⟩) hbo).trans hc0
            have e1 := (hb1.cell (p := ⟨b, off + k * 2 + 1, none⟩) hbo).trans hc1
            clear hw1
            refine .inl ⟨rfl, fun K hK => ?_⟩
            go_simp
            try go_bits
            first
              | exact hK _ (Below.refl _ _)
              | (refine (does_is _ _ _ _ _ y hd0 hy _).mono ?_; rintro e w2 ⟨rfl, hb2⟩; exact hK _ hb2)
          · rw [if_neg (by decide)]
            intro w1 hw1
            have hb1 : Below w.heap.size w w1 := by rcases hw1 with h | ⟨_, h⟩ <;> exact h.1
            have e0 := (hb1.cell (p := ⟨b, off + k * 2, none⟩) hbo).trans hc0
            have e1 := (hb1.cell (p := ⟨b, off + k * 2 + 1, none⟩) hbo).trans hc1
            clear hw1
            refine .inl ⟨rfl, fun K hK => ?_⟩
            go_simp
            try go_bits
            first
              | exact hK _ (Below.refl _ _)
              | (refine (does_is _ _ _ _ _ y hd0 hy _).mono ?_; rintro e w2 ⟨rfl, hb2⟩; exact hK _ hb2)
          · rw [if_neg (by decide)]
            intro w1 hw1
            have hb1 : Below w.heap.size w w1 := by rcases hw1 with h | ⟨_, h⟩ <;> exact h.1
            have e0 := (hb1.cell (p := ⟨b, off + k * 2, none⟩) hbo).trans hc0
            have e1 := (hb1.cell (p := ⟨b, off + k * 2 + 1, none⟩) hbo).trans hc1
            clear hw1
            refine .inl ⟨rfl, fun K hK => ?_⟩
            go_simp
            try go_bits
            first
              | exact hK _ (Below.refl _ _)
              | (refine (does_is _ _ _ _ _ y hd0 hy _).mono ?_; rintro e w2 ⟨rfl, hb2⟩; exact hK _ hb2)
          · rw [if_neg (by decide)]
            intro w1 hw1
            have hb1 : Below w.heap.size w w1 := by rcases hw1 with h | ⟨_, h⟩ <;> exact h.1
            have e0 := (hb1.cell (p := ⟨b, off + k * 2, none⟩) hbo).trans hc0
            have e1 := (hb1.cell (p := ⟨b, off + k * 2 + 1, none⟩) hbo).trans hc1
            clear hw1
            refine .inl ⟨rfl, fun K hK => ?_⟩
            go_simp
            try go_bits
            first
              | exact hK _ (Below.refl _ _)
              | (refine (does_is _ _ _ _ _ y hd0 hy _).mono ?_; rintro e w2 ⟨rfl, hb2⟩; exact hK _ hb2)
          · rw [if_neg (by decide)]
            intro w1 hw1
            have hb1 : Below w.heap.size w w1 := by rcases hw1 with h | ⟨_, h⟩ <;> exact h.1
            have e0 := (hb1.cell (p := ⟨b, off + k * 2, none⟩) hbo).trans hc0
            have e1 := (hb1.cell (p := ⟨b, off + k * 2 + 1, none⟩) hbo).trans hc1
            clear hw1
            refine .inl ⟨rfl, fun K hK => ?_⟩
            go_simp
            try go_bits
            first
              | exact hK _ (Below.refl _ _)
              | (refine (does_is _ _ _ _ _ y hd0 hy _).mono ?_; rintro e w2 ⟨rfl, hb2⟩; exact hK _ hb2)
          · rw [if_neg (by decide)]
            intro w1 hw1
            have hb1 : Below w.heap.size w w1 := by rcases hw1 with h | ⟨_, h⟩ <;> exact h.1
            have e0 := (hb1.cell (p := ⟨b, off + k * 2, none⟩) hbo).trans hc0
            have e1 := (hb1.cell (p := ⟨b, off + k * 2 + 1, none⟩) hbo).trans hc1
            clear hw1
            refine .inl ⟨rfl, fun K hK => ?_⟩
            go_simp
            try go_bits
            first
              | exact hK _ (Below.refl _ _)
              | (refine (does_is _ _ _ _ _ y hd0 hy _).mono ?_; rintro e w2 ⟨rfl, hb2⟩; exact hK _ hb2)
          · rw [if_neg (by decide)]
            intro w1 hw1
            have hb1 : Below w.heap.size w w1 := by rcases hw1 with h | ⟨_, h⟩ <;> exact h.1
            have e0 := (hb1.cell (p := ⟨b, off + k * 2, none⟩) hbo).trans hc0
            have e1 := (hb1.cell (p := ⟨b, off + k * 2 + 1, none⟩) hbo).trans hc1
            clear hw1
            refine .inl ⟨rfl, fun K hK => ?_⟩
            go_simp
            try go_bits
            first
              | exact hK _ (Below.refl _ _)
              | (refine (does_is _ _ _ _ _ y hd0 hy _).mono ?_; rintro e w2 ⟨rfl, hb2⟩; exact hK _ hb2)
          · rw [if_pos rfl]
            intro w1 ⟨hb1, k0, k1⟩
            obtain ⟨c0, c1, c2, f0, f1, f2⟩ := cells3 k0
            refine ⟨rfl, fun K hK => ?_⟩
            go_simp
            refine hK _ ⟨below_set3 hb1 (Nat.le_refl _), set3 k0, set3_ne (by omega) k1⟩
          · rw [if_neg (by decide)]
            intro w1 hw1
            have hb1 : Below w.heap.size w w1 := by rcases hw1 with h | ⟨_, h⟩ <;> exact h.1
            have e0 := (hb1.cell (p := ⟨b, off + k * 2, none⟩) hbo).trans hc0
            have e1 := (hb1.cell (p := ⟨b, off + k * 2 + 1, none⟩) hbo).trans hc1
            clear hw1
            refine .inl ⟨rfl, fun K hK => ?_⟩
            go_simp
            try go_bits
            first
              | exact hK _ (Below.refl _ _)
              | (refine (does_is _ _ _ _ _ y hd0 hy _).mono ?_; rintro e w2 ⟨rfl, hb2⟩; exact hK _ hb2)
        · simp only [Draw.puts, List.take_succ_cons, List.take_zero, List.drop_succ_cons, List.drop_nil, if_true, Act.put, List.setIfInBounds_toArray, List.set_cons_zero, List.set_cons_succ, Nat.zero_add, Nat.reduceAdd, List.getD_cons_zero, List.getD_cons_succ]
          intro wr ⟨hbel, hs, hw⟩
          go_wp2_with fail
          refine Draw.wp_region_store mixed 18 3 16 (by kernel_rfl) (by omega) [.agg #[.int .i64 x.r, .int .i64 x.s, .int .i64 x.g], .slice (some ⟨b, off, none⟩) n cap, .int .i64 k, .pointer (some ⟨b, off + k * 2, none⟩), .pointer (some ⟨b, off + k * 2, none⟩), .int .u8 d, .int .i64 d, .slice (some ⟨b, off, none⟩) n cap, .int .i64 k, .pointer (some ⟨b, off + k * 2, none⟩), .pointer (some ⟨b, off + k * 2 + 1, none⟩), .int .i64 ep, .tuple #[.agg #[.int .i64 y.1.r, .int .i64 y.1.s, .int .i64 y.1.g], .int .i64 y.2], .tuple #[.agg #[.int .i64 y.1.r, .int .i64 y.1.s, .int .i64 y.1.g], .int .i64 y.2], .agg #[.int .i64 y.1.r, .int .i64 y.1.s, .int .i64 y.1.g], .int .i64 y.2, undef, .int .i64 y.2] _ rfl (fun w1 => Below w.heap.size w w1 ∧ w1.heap[w.heap.size]? = some (.cells #[.int .i64 y.1.r, .int .i64 y.1.s, .int .i64 y.1.g] 23) ∧ w1.heap[w.heap.size + 1]? = some (.cells #[.int .i64 x.r, .int .i64 x.s, .int .i64 x.g] 32)) (fun w1 => Below w.heap.size w w1 ∧ w1.heap[w.heap.size]? = some (.cells #[.int .i64 y.1.r, .int .i64 y.1.s, .int .i64 y.1.g] 23) ∧ w1.heap[w.heap.size + 1]? = some (.cells #[.int .i64 y.1.r, .int .i64 y.1.s, .int .i64 y.1.g] 32)) ⟨hbel.drew, hs, hw⟩ (fun _ _ hb h => ⟨below_keep h.1 hb, kept hb h.2.1, kept hb h.2.2⟩) (fun _ _ hb h => ⟨below_keep h.1 hb, kept hb h.2.1, kept hb h.2.2⟩) ?_ ?_
          · simp only [Draw.puts, List.take_succ_cons, List.take_zero, if_true, Act.put, List.setIfInBounds_toArray, List.set_cons_zero, List.set_cons_succ, Nat.zero_add, Nat.reduceAdd, List.getD_cons_zero, List.getD_cons_succ]
            refine ⟨?_, ?_, ?_, ?_, ?_, ?_, ?_, ?_, ?_, ?_, ?_, ?_, ?_, ?_, ?_, ?_, ?_, ?_, trivial⟩
            · rw [if_neg (by decide)]
              intro w1 hw1
              rcases hw1 with ⟨hb1, k0, k1⟩ | ⟨he, _⟩
              · obtain ⟨c0, c1, c2, f0, f1, f2⟩ := cells3 k1
                refine .inl ⟨rfl, fun K hK => ?_⟩
                go_simp
                exact hK _ (Below.refl _ _)
              · exact absurd he (by decide)
            · rw [if_neg (by decide)]
              intro w1 hw1
              have hb1 : Below w.heap.size w w1 := by rcases hw1 with h | ⟨_, h⟩ <;> exact h.1
              have e0 := (hb1.cell (p := ⟨b, off + k * 2, none⟩) hbo).trans hc0
              have e1 := (hb1.cell (p := ⟨b, off + k * 2 + 1, none⟩) hbo).trans hc1
              clear hw1
              refine .inl ⟨rfl, fun K hK => ?_⟩
              go_simp
              try go_bits
              first
                | exact hK _ (Below.refl _ _)
                | (refine (rdoes_is _ _ _ _ _ y hd0 (by omega) hy _).mono ?_; rintro e w2 ⟨rfl, hb2⟩; exact hK _ hb2)
            · rw [if_neg (by decide)]
              intro w1 hw1
              have hb1 : Below w.heap.size w w1 := by rcases hw1 with h | ⟨_, h⟩ <;> exact h.1
              have e0 := (hb1.cell (p := ⟨b, off + k * 2, none⟩) hbo).trans hc0
              have e1 := (hb1.cell (p := ⟨b, off + k * 2 + 1, none⟩) hbo).trans hc1
              clear hw1
              refine .inl ⟨rfl, fun K hK => ?_⟩
              go_simp
              try go_bits
              first
                | exact hK _ (Below.refl _ _)
                | (refine (rdoes_is _ _ _ _ _ y hd0 (by omega) hy _).mono ?_; rintro e w2 ⟨rfl, hb2⟩; exact hK _ hb2)
            · rw [if_neg (by decide)]
              intro w1 hw1
              have hb1 : Below w.heap.size w w1 := by rcases hw1 with h | ⟨_, h⟩ <;> exact h.1
              have e0 := (hb1.cell (p := ⟨b, off + k * 2, none⟩) hbo).trans hc0
              have e1 := (hb1.cell (p := ⟨b, off + k * 2 + 1, none⟩) hbo).trans hc1
              clear hw1
              refine .inl ⟨rfl, fun K hK => ?_⟩
              go_simp
              try go_bits
              first
                | exact hK _ (Below.refl _ _)
                | (refine (rdoes_is _ _ _ _ _ y hd0 (by omega) hy _).mono ?_; rintro e w2 ⟨rfl, hb2⟩; exact hK _ hb2)
            · rw [if_neg (by decide)]
              intro w1 hw1
              have hb1 : Below w.heap.size w w1 := by rcases hw1 with h | ⟨_, h⟩ <;> exact h.1
              have e0 := (hb1.cell (p := ⟨b, off + k * 2, none⟩) hbo).trans hc0
              have e1 := (hb1.cell (p := ⟨b, off + k * 2 + 1, none⟩) hbo).trans hc1
              clear hw1
              refine .inl ⟨rfl, fun K hK => ?_⟩
              go_simp
              try go_bits
              first
                | exact hK _ (Below.refl _ _)
                | (refine (rdoes_is _ _ _ _ _ y hd0 (by omega) hy _).mono ?_; rintro e w2 ⟨rfl, hb2⟩; exact hK _ hb2)
            · rw [if_neg (by decide)]
              intro w1 hw1
              have hb1 : Below w.heap.size w w1 := by rcases hw1 with h | ⟨_, h⟩ <;> exact h.1
              have e0 := (hb1.cell (p := ⟨b, off + k * 2, none⟩) hbo).trans hc0
              have e1 := (hb1.cell (p := ⟨b, off + k * 2 + 1, none⟩) hbo).trans hc1
              clear hw1
              refine .inl ⟨rfl, fun K hK => ?_⟩
              go_simp
              try go_bits
              first
                | exact hK _ (Below.refl _ _)
                | (refine (rdoes_is _ _ _ _ _ y hd0 (by omega) hy _).mono ?_; rintro e w2 ⟨rfl, hb2⟩; exact hK _ hb2)
            · rw [if_neg (by decide)]
              intro w1 hw1
              have hb1 : Below w.heap.size w w1 := by rcases hw1 with h | ⟨_, h⟩ <;> exact h.1
              have e0 := (hb1.cell (p := ⟨b, off + k * 2, none⟩) hbo).trans hc0
              have e1 := (hb1.cell (p := ⟨b, off + k * 2 + 1, none⟩) hbo).trans hc1
              clear hw1
              refine .inl ⟨rfl, fun K hK => ?_⟩
              go_simp
              try go_bits
              first
                | exact hK _ (Below.refl _ _)
                | (refine (rdoes_is _ _ _ _ _ y hd0 (by omega) hy _).mono ?_; rintro e w2 ⟨rfl, hb2⟩; exact hK _ hb2)
            · rw [if_neg (by decide)]
              intro w1 hw1
              have hb1 : Below w.heap.size w w1 := by rcases hw1 with h | ⟨_, h⟩ <;> exact h.1
              have e0 := (hb1.cell (p := ⟨b, off + k * 2, none⟩) hbo).trans hc0
              have e1 := (hb1.cell (p := ⟨b, off + k * 2 + 1, none⟩) hbo).trans hc1
              clear hw1
              refine .inl ⟨rfl, fun K hK => ?_⟩
              go_simp
              try go_bits
              first
                | exact hK _ (Below.refl _ _)
                | (refine (rdoes_is _ _ _ _ _ y hd0 (by omega) hy _).mono ?_; rintro e w2 ⟨rfl, hb2⟩; exact hK _ hb2)
            · rw [if_neg (by decide)]
              intro w1 hw1
              have hb1 : Below w.heap.size w w1 := by rcases hw1 with h | ⟨_, h⟩ <;> exact h.1
              have e0 := (hb1.cell (p := ⟨b, off + k * 2, none⟩) hbo).trans hc0
              have e1 := (hb1.cell (p := ⟨b, off + k * 2 + 1, none⟩) hbo).trans hc1
              clear hw1
              refine .inl ⟨rfl, fun K hK => ?_⟩
              go_simp
              try go_bits
              first
                | exact hK _ (Below.refl _ _)
                | (refine (rdoes_is _ _ _ _ _ y hd0 (by omega) hy _).mono ?_; rintro e w2 ⟨rfl, hb2⟩; exact hK _ hb2)
            · rw [if_neg (by decide)]
              intro w1 hw1
              have hb1 : Below w.heap.size w w1 := by rcases hw1 with h | ⟨_, h⟩ <;> exact h.1
              have e0 := (hb1.cell (p := ⟨b, off + k * 2, none⟩) hbo).trans hc0
              have e1 := (hb1.cell (p := ⟨b, off + k * 2 + 1, none⟩) hbo).trans hc1
              clear hw1
              refine .inl ⟨rfl, fun K hK => ?_⟩
              go_simp
              try go_bits
              first
                | exact hK _ (Below.refl _ _)
                | (refine (rdoes_is _ _ _ _ _ y hd0 (by omega) hy _).mono ?_; rintro e w2 ⟨rfl, hb2⟩; exact hK _ hb2)
            · rw [if_neg (by decide)]
              intro w1 hw1
              have hb1 : Below w.heap.size w w1 := by rcases hw1 with h | ⟨_, h⟩ <;> exact h.1
              have e0 := (hb1.cell (p := ⟨b, off + k * 2, none⟩) hbo).trans hc0
              have e1 := (hb1.cell (p := ⟨b, off + k * 2 + 1, none⟩) hbo).trans hc1
              clear hw1
              refine .inl ⟨rfl, fun K hK => ?_⟩
              go_simp
              try go_bits
              first
                | exact hK _ (Below.refl _ _)
                | (refine (rdoes_is _ _ _ _ _ y hd0 (by omega) hy _).mono ?_; rintro e w2 ⟨rfl, hb2⟩; exact hK _ hb2)
            · rw [if_neg (by decide)]
              intro w1 hw1
              have hb1 : Below w.heap.size w w1 := by rcases hw1 with h | ⟨_, h⟩ <;> exact h.1
              have e0 := (hb1.cell (p := ⟨b, off + k * 2, none⟩) hbo).trans hc0
              have e1 := (hb1.cell (p := ⟨b, off + k * 2 + 1, none⟩) hbo).trans hc1
              clear hw1
              refine .inl ⟨rfl, fun K hK => ?_⟩
              go_simp
              try go_bits
              first
                | exact hK _ (Below.refl _ _)
                | (refine (rdoes_is _ _ _ _ _ y hd0 (by omega) hy _).mono ?_; rintro e w2 ⟨rfl, hb2⟩; exact hK _ hb2)
            · rw [if_neg (by decide)]
              intro w1 hw1
              have hb1 : Below w.heap.size w w1 := by rcases hw1 with h | ⟨_, h⟩ <;> exact h.1
              have e0 := (hb1.cell (p := ⟨b, off + k * 2, none⟩) hbo).trans hc0
              have e1 := (hb1.cell (p := ⟨b, off + k * 2 + 1, none⟩) hbo).trans hc1
              clear hw1
              refine .inl ⟨rfl, fun K hK => ?_⟩
              go_simp
              try go_bits
              first
                | exact hK _ (Below.refl _ _)
                | (refine (rdoes_is _ _ _ _ _ y hd0 (by omega) hy _).mono ?_; rintro e w2 ⟨rfl, hb2⟩; exact hK _ hb2)
            · rw [if_neg (by decide)]
              intro w1 hw1
              have hb1 : Below w.heap.size w w1 := by rcases hw1 with h | ⟨_, h⟩ <;> exact h.1
              have e0 := (hb1.cell (p := ⟨b, off + k * 2, none⟩) hbo).trans hc0
              have e1 := (hb1.cell (p := ⟨b, off + k * 2 + 1, none⟩) hbo).trans hc1
              clear hw1
              refine .inl ⟨rfl, fun K hK => ?_⟩
              go_simp
              try go_bits
              first
                | exact hK _ (Below.refl _ _)
                | (refine (rdoes_is _ _ _ _ _ y hd0 (by omega) hy _).mono ?_; rintro e w2 ⟨rfl, hb2⟩; exact hK _ hb2)
            · rw [if_neg (by decide)]
              intro w1 hw1
              have hb1 : Below w.heap.size w w1 := by rcases hw1 with h | ⟨_, h⟩ <;> exact h.1
              have e0 := (hb1.cell (p := ⟨b, off + k * 2, none⟩) hbo).trans hc0
              have e1 := (hb1.cell (p := ⟨b, off + k * 2 + 1, none⟩) hbo).trans hc1
              clear hw1
              refine .inl ⟨rfl, fun K hK => ?_⟩
              go_simp
              try go_bits
              first
                | exact hK _ (Below.refl _ _)
                | (refine (rdoes_is _ _ _ _ _ y hd0 (by omega) hy _).mono ?_; rintro e w2 ⟨rfl, hb2⟩; exact hK _ hb2)
            · rw [if_neg (by decide)]
              intro w1 hw1
              have hb1 : Below w.heap.size w w1 := by rcases hw1 with h | ⟨_, h⟩ <;> exact h.1
              have e0 := (hb1.cell (p := ⟨b, off + k * 2, none⟩) hbo).trans hc0
              have e1 := (hb1.cell (p := ⟨b, off + k * 2 + 1, none⟩) hbo).trans hc1
              clear hw1
              refine .inl ⟨rfl, fun K hK => ?_⟩
              go_simp
              try go_bits
              first
                | exact hK _ (Below.refl _ _)
                | (refine (rdoes_is _ _ _ _ _ y hd0 (by omega) hy _).mono ?_; rintro e w2 ⟨rfl, hb2⟩; exact hK _ hb2)
            · rw [if_pos rfl]
              intro w1 ⟨hb1, k0, k1⟩
              obtain ⟨c0, c1, c2, f0, f1, f2⟩ := cells3 k1
              refine ⟨rfl, fun K hK => ?_⟩
              go_simp
              refine hK _ ⟨below_set3 hb1 (Nat.le_succ _), set3_ne (by omega) k0, set3 k1⟩
            · rw [if_neg (by decide)]
              intro w1 hw1
              have hb1 : Below w.heap.size w w1 := by rcases hw1 with h | ⟨_, h⟩ <;> exact h.1
              have e0 := (hb1.cell (p := ⟨b, off + k * 2, none⟩) hbo).trans hc0
              have e1 := (hb1.cell (p := ⟨b, off + k * 2 + 1, none⟩) hbo).trans hc1
              clear hw1
              refine .inl ⟨rfl, fun K hK => ?_⟩
              go_simp
              try go_bits
              first
                | exact hK _ (Below.refl _ _)
                | (refine (rdoes_is _ _ _ _ _ y hd0 (by omega) hy _).mono ?_; rintro e w2 ⟨rfl, hb2⟩; exact hK _ hb2)
          · simp only [Draw.puts, List.take_succ_cons, List.take_zero, List.drop_succ_cons, List.drop_nil, if_true, Act.put, List.setIfInBounds_toArray, List.set_cons_zero, List.set_cons_succ, Nat.zero_add, Nat.reduceAdd, List.getD_cons_zero, List.getD_cons_succ]
            intro wr ⟨hbel, hs, hw⟩
            go_wp2_with fail
            refine Draw.wp_region_pure mixed 21 3 (by kernel_rfl) [.int .i64 y.2, .int .i64 y.2, .bool false, .bool false, .agg #[.int .i64 y.1.r, .int .i64 y.1.s, .int .i64 y.1.g], .pointer (some ⟨w.heap.size + 1, 0, none⟩), .int .i64 y.1.r, .pointer (some ⟨w.heap.size + 1, 1, none⟩), .int .i64 y.1.s, .pointer (some ⟨w.heap.size + 1, 2, none⟩), .int .i64 y.1.g, .agg #[.int .i64 y.1.r, .int .i64 y.1.s, .int .i64 y.1.g], .bool false, .bool false, .bool false, .agg #[.int .i64 y.1.r, .int .i64 y.1.s, .int .i64 y.1.g], .int .i64 (writesN y.1.r y.1.s y.1.g), .agg #[.int .i64 y.1.r, .int .i64 y.1.s, .int .i64 y.1.g], .int .i64 (writesN y.1.r y.1.s y.1.g), .bool false, .bool false] _ rfl ?_ ?_
            · simp only [Draw.puts, List.take_succ_cons, List.take_zero, if_true, Act.put, List.setIfInBounds_toArray, List.set_cons_zero, List.set_cons_succ, Nat.zero_add, Nat.reduceAdd, List.getD_cons_zero, List.getD_cons_succ]
              refine ⟨?_, ?_, ?_, ?_, ?_, ?_, ?_, ?_, ?_, ?_, ?_, ?_, ?_, ?_, ?_, ?_, ?_, ?_, ?_, ?_, ?_, trivial⟩
              all_goals intro w1 hb1
              all_goals obtain ⟨c0, c1, c2, f0, f1, f2⟩ := cells3 (kept hb1 hs)
              all_goals obtain ⟨d0, d1, d2, g0, g1, g2⟩ := cells3 (kept hb1 hw)
              all_goals refine .inl ⟨rfl, fun K hK => ?_⟩
              all_goals go_simp
              all_goals first
                | exact hK _ (Below.refl _ _)
                | (go_at_call 14; refine (writes_any _ _ _ _).mono ?_; rintro e w2 ⟨rfl, hb2⟩; exact hK _ hb2)
                | (go_at_call 15; refine (rwrites_any _ _ _ _).mono ?_; rintro e w2 ⟨rfl, hb2⟩; exact hK _ hb2)
            · simp only [Draw.puts, List.take_succ_cons, List.take_zero, List.drop_succ_cons, List.drop_nil, if_true, Act.put, List.setIfInBounds_toArray, List.set_cons_zero, List.set_cons_succ, Nat.zero_add, Nat.reduceAdd, List.getD_cons_zero, List.getD_cons_succ]
              intro w2 hb2
              go_wp2_with fail
              go_roundw
              case rel => exact ⟨k + 1, y.1, by omega, by go_num, kept hb2 hs, kept hb2 hw, below_of hb2 hbel⟩
              case measure => simp [intOf]; omega
    · go_wp2_with fail
      refine (wakes_any _).mono ?_
      rintro e w4 ⟨rfl, hb4⟩
      go_wp2_with fail
      go_ret
      exact ⟨rfl, below_of hb4 hbel⟩

end Go.Proofs.Ytjepdlmdemlkmaa
