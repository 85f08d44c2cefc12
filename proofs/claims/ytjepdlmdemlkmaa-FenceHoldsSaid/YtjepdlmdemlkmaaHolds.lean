/- FenceHolds: whatever befalls a blank stand it is right, and the rest of the law. Conditions: none. -/
import Derived.Test.YtjepdlmdemlkmaaPlays2
import Derived.Test.YtjepdlmdemlkmaaPlain2
namespace Go.Proofs.Ytjepdlmdemlkmaa
open Go.RowKit Go.ChangeShapes Go.WideShapes Go.ChangeAt

set_option maxRecDepth 100000 in
set_option maxHeartbeats 4000000 in
theorem holds_loop (b off n cap : Nat) (D E : Nat → Int) (w : World) (hl : ActsAt w b off n D E) :
    Calls Try.prog 6 #[.slice (some ⟨b, off, none⟩) n cap] w fun e w' => e = .returned (.bool true) ∧ Below w.heap.size w w' := by
  have hn := hl.few
  have hbo := hl.old
  go_enter Try.func6, Try.ntmps6
  go_wp2_with fail
  go_loopw [4, 5, 6] (fun most granted i wr => ∃ (k : Nat) (x : St), k ≤ n ∧ i = .int .i64 k ∧ most = .int .i64 x.s ∧ granted = .int .i64 x.g ∧ rightP x.r x.s x.g ∧ wr.heap[w.heap.size]? = some (.cells #[.int .i64 x.r, .int .i64 x.s, .int .i64 x.g] 23) ∧ Below w.heap.size w wr)
    (fun _ _ i _ => n - (intOf i).toNat)
  case atStart => exact ⟨0, ⟨0, 0, 0⟩, Nat.zero_le _, rfl, rfl, rfl, by decide, new_alloc, by repeat (first | exact Below.refl _ _ | refine Below.alloc ?_ (by simp <;> omega) _ | refine Below.setCell ?_ (by simp <;> omega) _)⟩
  case round =>
    obtain ⟨k, ⟨r, s, g⟩, hk, rfl, rfl, rfl, hr, hs, hbel⟩ := hrel
    dsimp only at *
    by_cases hlt : k < n
    · obtain ⟨hc0, hd0, hd1⟩ := hl.kind k hlt
      have hc1 := hl.epoch k hlt
      generalize D k = d at *
      generalize E k = ep at *
      clear hl
      have HR : Hid (rightP r s g) := hr
      clear hr
      obtain ⟨y, hy⟩ : ∃ y, Hid (doesN r s g d ep = y) := ⟨_, rfl⟩
      have H0 : Hid (w.cell? ⟨b, off + k * 2, none⟩ = some (.int .u8 d)) := hc0
      have H1 : Hid (w.cell? ⟨b, off + k * 2 + 1, none⟩ = some (.int .i64 ep)) := hc1
      have hbelA : Below w.heap.size w (wr.alloc (.cells #[.int .i64 r, .int .i64 s, .int .i64 g] 23)) := hbel.alloc hbel.size _
      clear hc0 hc1
      have hsw : w.heap.size < wr.heap.size := (Array.getElem?_eq_some_iff.1 hs).1
      obtain ⟨c0, c1, c2, f0, f1, f2⟩ := cells3 hs
      go_wp2_with fail
      clear c0 c1 c2 f0 f1 f2
      have hc0 := H0.out
      have hc1 := H1.out
      clear H0 H1
      refine Draw.wp_region_alloc mixed 12 3 9 10 (by kernel_rfl) (by omega) (by omega) (by omega) [.agg #[.int .i64 r, .int .i64 s, .int .i64 g], .slice (some ⟨b, off, none⟩) n cap, .int .i64 k, .pointer (some ⟨b, off + k * 2, none⟩), .agg #[.int .u8 d, .int .i64 ep], .tuple #[.agg #[.int .i64 y.1.r, .int .i64 y.1.s, .int .i64 y.1.g], .int .i64 y.2], .tuple #[.agg #[.int .i64 y.1.r, .int .i64 y.1.s, .int .i64 y.1.g], .int .i64 y.2], .agg #[.int .i64 y.1.r, .int .i64 y.1.s, .int .i64 y.1.g], .int .i64 y.2, undef, undef, .int .i64 y.2] _ (fun _ => rfl) (.cells #[.int .i64 0, .int .i64 0, .int .i64 0] 23) (.cells #[.int .i64 y.1.r, .int .i64 y.1.s, .int .i64 y.1.g] 23) (by kernel_rfl) ?_ ?_
      · simp only [Draw.puts, List.take_succ_cons, List.take_zero, if_true, Act.put, List.setIfInBounds_toArray, List.set_cons_zero, List.set_cons_succ, Nat.zero_add, Nat.reduceAdd, List.getD_cons_zero, List.getD_cons_succ]
        refine ⟨?_, ?_, ?_, ?_, ?_, ?_, ?_, ?_, ?_, ?_, ?_, ?_, trivial⟩
        · rw [if_neg (by decide), if_neg (by decide)]
          intro bx w1 hb1
          obtain ⟨c0, c1, c2, f0, f1, f2⟩ := cells3 (kept hb1 (old_alloc hs))
          refine .inl ⟨rfl, fun K hK => ?_⟩
          go_simp
          exact hK _ (Below.refl _ _)
        · rw [if_neg (by decide), if_neg (by decide)]
          intro bx w1 hb1
          have e0 := ((below_of hb1 hbelA).cell (p := ⟨b, off + k * 2, none⟩) hbo).trans hc0
          have e1 := ((below_of hb1 hbelA).cell (p := ⟨b, off + k * 2 + 1, none⟩) hbo).trans hc1
          refine .inl ⟨rfl, fun K hK => ?_⟩
          go_simp
          try go_bits
          first
            | exact hK _ (Below.refl _ _)
            | (refine (does_is _ _ _ _ _ y hd0 hy _).mono ?_; rintro e w2 ⟨rfl, hb2⟩; exact hK _ hb2)
        · rw [if_neg (by decide), if_neg (by decide)]
          intro bx w1 hb1
          have e0 := ((below_of hb1 hbelA).cell (p := ⟨b, off + k * 2, none⟩) hbo).trans hc0
          have e1 := ((below_of hb1 hbelA).cell (p := ⟨b, off + k * 2 + 1, none⟩) hbo).trans hc1
          refine .inl ⟨rfl, fun K hK => ?_⟩
          go_simp
          try go_bits
          first
            | exact hK _ (Below.refl _ _)
            | (refine (does_is _ _ _ _ _ y hd0 hy _).mono ?_; rintro e w2 ⟨rfl, hb2⟩; exact hK _ hb2)
        · rw [if_neg (by decide), if_neg (by decide)]
          intro bx w1 hb1
          have e0 := ((below_of hb1 hbelA).cell (p := ⟨b, off + k * 2, none⟩) hbo).trans hc0
          have e1 := ((below_of hb1 hbelA).cell (p := ⟨b, off + k * 2 + 1, none⟩) hbo).trans hc1
          refine .inl ⟨rfl, fun K hK => ?_⟩
          go_simp
          try go_bits
          first
            | exact hK _ (Below.refl _ _)
            | (refine (does_is _ _ _ _ _ y hd0 hy _).mono ?_; rintro e w2 ⟨rfl, hb2⟩; exact hK _ hb2)
        · rw [if_neg (by decide), if_neg (by decide)]
          intro bx w1 hb1
          have e0 := ((below_of hb1 hbelA).cell (p := ⟨b, off + k * 2, none⟩) hbo).trans hc0
          have e1 := ((below_of hb1 hbelA).cell (p := ⟨b, off + k * 2 + 1, none⟩) hbo).trans hc1
          refine .inl ⟨rfl, fun K hK => ?_⟩
          go_simp
          try go_bits
          first
            | exact hK _ (Below.refl _ _)
            | (refine (does_is _ _ _ _ _ y hd0 hy _).mono ?_; rintro e w2 ⟨rfl, hb2⟩; exact hK _ hb2)
        · rw [if_neg (by decide), if_neg (by decide)]
          intro bx w1 hb1
          have e0 := ((below_of hb1 hbelA).cell (p := ⟨b, off + k * 2, none⟩) hbo).trans hc0
          have e1 := ((below_of hb1 hbelA).cell (p := ⟨b, off + k * 2 + 1, none⟩) hbo).trans hc1
          refine .inl ⟨rfl, fun K hK => ?_⟩
          go_simp
          try go_bits
          first
            | exact hK _ (Below.refl _ _)
            | (refine (does_is _ _ _ _ _ y hd0 hy _).mono ?_; rintro e w2 ⟨rfl, hb2⟩; exact hK _ hb2)
        · rw [if_neg (by decide), if_neg (by decide)]
          intro bx w1 hb1
          have e0 := ((below_of hb1 hbelA).cell (p := ⟨b, off + k * 2, none⟩) hbo).trans hc0
          have e1 := ((below_of hb1 hbelA).cell (p := ⟨b, off + k * 2 + 1, none⟩) hbo).trans hc1
          refine .inl ⟨rfl, fun K hK => ?_⟩
          go_simp
          try go_bits
          first
            | exact hK _ (Below.refl _ _)
            | (refine (does_is _ _ _ _ _ y hd0 hy _).mono ?_; rintro e w2 ⟨rfl, hb2⟩; exact hK _ hb2)
        · rw [if_neg (by decide), if_neg (by decide)]
          intro bx w1 hb1
          have e0 := ((below_of hb1 hbelA).cell (p := ⟨b, off + k * 2, none⟩) hbo).trans hc0
          have e1 := ((below_of hb1 hbelA).cell (p := ⟨b, off + k * 2 + 1, none⟩) hbo).trans hc1
          refine .inl ⟨rfl, fun K hK => ?_⟩
          go_simp
          try go_bits
          first
            | exact hK _ (Below.refl _ _)
            | (refine (does_is _ _ _ _ _ y hd0 hy _).mono ?_; rintro e w2 ⟨rfl, hb2⟩; exact hK _ hb2)
        · rw [if_neg (by decide), if_neg (by decide)]
          intro bx w1 hb1
          have e0 := ((below_of hb1 hbelA).cell (p := ⟨b, off + k * 2, none⟩) hbo).trans hc0
          have e1 := ((below_of hb1 hbelA).cell (p := ⟨b, off + k * 2 + 1, none⟩) hbo).trans hc1
          refine .inl ⟨rfl, fun K hK => ?_⟩
          go_simp
          try go_bits
          first
            | exact hK _ (Below.refl _ _)
            | (refine (does_is _ _ _ _ _ y hd0 hy _).mono ?_; rintro e w2 ⟨rfl, hb2⟩; exact hK _ hb2)
        · rw [if_pos rfl]
          intro bx w1
          refine ⟨rfl, fun K hK => ?_⟩
          simp only [Act.put, List.setIfInBounds_toArray, List.set_cons_zero, List.set_cons_succ] at hK
          go_simp
          exact hK
        · rw [if_neg (by decide), if_pos rfl]
          intro bx w1 hb1 hle hbx
          simp only [World.size_alloc] at hle
          obtain ⟨c0, c1, c2, f0, f1, f2⟩ := cells3 hbx
          refine ⟨rfl, fun K hK => ?_⟩
          go_simp
          refine hK _ (below_set3 hb1 (by simp only [World.size_alloc]; omega)) (set3 hbx)
        · rw [if_neg (by decide), if_neg (by decide)]
          intro bx w1 hb1
          have e0 := ((below_of hb1 hbelA).cell (p := ⟨b, off + k * 2, none⟩) hbo).trans hc0
          have e1 := ((below_of hb1 hbelA).cell (p := ⟨b, off + k * 2 + 1, none⟩) hbo).trans hc1
          refine .inl ⟨rfl, fun K hK => ?_⟩
          go_simp
          try go_bits
          first
            | exact hK _ (Below.refl _ _)
            | (refine (does_is _ _ _ _ _ y hd0 hy _).mono ?_; rintro e w2 ⟨rfl, hb2⟩; exact hK _ hb2)
      · simp only [Draw.puts, List.take_succ_cons, List.take_zero, List.drop_succ_cons, List.drop_nil, if_true, Act.put, List.setIfInBounds_toArray, List.set_cons_zero, List.set_cons_succ, Nat.zero_add, Nat.reduceAdd, List.getD_cons_zero, List.getD_cons_succ]
        intro bx w2 hb2 hle hbx
        simp only [World.size_alloc] at hle
        have hs2 := kept hb2 (old_alloc hs)
        have hw2 := kept hb2 (new_alloc (w := wr) (o := .cells #[.int .i64 r, .int .i64 s, .int .i64 g] 23))
        have hbel2 := below_of hb2 hbelA
        have e0 := (hbel2.cell (p := ⟨b, off + k * 2, none⟩) hbo).trans hc0
        have e1 := (hbel2.cell (p := ⟨b, off + k * 2 + 1, none⟩) hbo).trans hc1
        have hsz := hbel.size
        have hn1 : w.heap.size ≠ bx := by omega
        have hn2 : wr.heap.size ≠ bx := by omega
        have hn3 : w.heap.size < wr.heap.size := (Array.getElem?_eq_some_iff.1 hs).1
        have H0 : Hid (w.cell? ⟨b, off + k * 2, none⟩ = some (.int .u8 d)) := hc0
        have H1 : Hid (w.cell? ⟨b, off + k * 2 + 1, none⟩ = some (.int .i64 ep)) := hc1
        clear hs hb2 hc0 hc1 hbelA hle
        rcases round_cases r s g d ep y HR.out hd0 hy.out with (⟨e, rfl, he0, he1⟩ | ⟨rfl, hlt2, rfl, rfl⟩ | ⟨rfl, hlt2, hrr, rfl⟩) | (⟨rfl, hes, rfl⟩ | ⟨rfl, hlt2, rfl, rfl, rfl, rfl⟩ | ⟨rfl, hlt2, rfl, rfl, rfl, rfl⟩) | (⟨rfl, hlt2, rfl⟩ | ⟨rfl, rfl, rfl⟩ | ⟨h5, rfl⟩)
        all_goals clear hy
        all_goals dsimp only at *
        · rcases writes_cases r s g HR.out with ⟨hwx, rfl, rfl⟩ | ⟨hwx, rfl⟩ | ⟨v, hwx, hv0, hv32, hrr⟩
          · as_aux_lemma =>
              have HRy : Hid (rightP 1 g g) := HR.out
              have hRy : rightB 1 g g = true := rightB_of HRy.out
              obtain ⟨hbd1, hbd2⟩ := right_bounds HR.out
              obtain ⟨c0, c1, c2, f0, f1, f2⟩ := cells3 hs2
              obtain ⟨d0, d1, d2, g0, g1, g2⟩ := cells3 hw2
              obtain ⟨p0, p1, p2, q0, q1, q2⟩ := cells3 hbx
              go_wp2_with fail
              refine (writes_any _ _ _ _).mono ?_
              rintro e1 w3 ⟨rfl, hb3⟩
              have hs3 := kept hb3 (set3 hs2)
              have hw3 := kept hb3 (set3_ne (by omega) hw2)
              have hbel3 := below_of hb3 (below_set3 hbel2 (Nat.le_refl _))
              clear c0 c1 c2 f0 f1 f2 d0 d1 d2 g0 g1 g2 p0 p1 p2 q0 q1 q2 e0 e1 hs2 hw2 hbx hbel2 hb3
              have e0 := (hbel3.cell (p := ⟨b, off + k * 2, none⟩) hbo).trans H0.out
              have e1 := (hbel3.cell (p := ⟨b, off + k * 2 + 1, none⟩) hbo).trans H1.out
              obtain ⟨c0, c1, c2, f0, f1, f2⟩ := cells3 hs3
              obtain ⟨d0, d1, d2, g0, g1, g2⟩ := cells3 hw3
              have hz0 : w.heap.size < w3.heap.size := (Array.getElem?_eq_some_iff.1 hs3).1
              have hz1 : wr.heap.size < w3.heap.size := (Array.getElem?_eq_some_iff.1 hw3).1
              go_wp2_with (go_at_call 9; refine (right_any _ _ _ _).mono ?_; rintro e w' ⟨rfl, rfl⟩)
              refine (writes_any _ _ _ _).mono ?_
              rintro e2 w4 ⟨rfl, hb4⟩
              have hs4 := kept hb4 (old_alloc hs3)
              have hbel4 := below_of hb4 (hbel3.alloc hbel3.size _)
              clear c0 c1 c2 f0 f1 f2 d0 d1 d2 g0 g1 g2 e0 e1 hs3 hw3 hbel3 hb4 hz0 hz1
              have e0 := (hbel4.cell (p := ⟨b, off + k * 2, none⟩) hbo).trans H0.out
              have e1 := (hbel4.cell (p := ⟨b, off + k * 2 + 1, none⟩) hbo).trans H1.out
              go_wp2_with fail
              go_roundw
              case rel => exact ⟨k + 1, ⟨1, g, g⟩, by omega, by go_num, rfl, rfl, HRy.out, hs4, hbel4⟩
              case measure => simp [intOf]; omega
          · as_aux_lemma =>
              have HRy : Hid (rightP 3 s g) := HR.out
              have hRy : rightB 3 s g = true := rightB_of HRy.out
              obtain ⟨hbd1, hbd2⟩ := right_bounds HR.out
              obtain ⟨c0, c1, c2, f0, f1, f2⟩ := cells3 hs2
              obtain ⟨d0, d1, d2, g0, g1, g2⟩ := cells3 hw2
              obtain ⟨p0, p1, p2, q0, q1, q2⟩ := cells3 hbx
              go_wp2_with fail
              refine (writes_any _ _ _ _).mono ?_
              rintro e1 w3 ⟨rfl, hb3⟩
              have hs3 := kept hb3 (set3 hs2)
              have hw3 := kept hb3 (set3_ne (by omega) hw2)
              have hbel3 := below_of hb3 (below_set3 hbel2 (Nat.le_refl _))
              clear c0 c1 c2 f0 f1 f2 d0 d1 d2 g0 g1 g2 p0 p1 p2 q0 q1 q2 e0 e1 hs2 hw2 hbx hbel2 hb3
              have e0 := (hbel3.cell (p := ⟨b, off + k * 2, none⟩) hbo).trans H0.out
              have e1 := (hbel3.cell (p := ⟨b, off + k * 2 + 1, none⟩) hbo).trans H1.out
              obtain ⟨c0, c1, c2, f0, f1, f2⟩ := cells3 hs3
              obtain ⟨d0, d1, d2, g0, g1, g2⟩ := cells3 hw3
              have hz0 : w.heap.size < w3.heap.size := (Array.getElem?_eq_some_iff.1 hs3).1
              have hz1 : wr.heap.size < w3.heap.size := (Array.getElem?_eq_some_iff.1 hw3).1
              go_wp2_with (go_at_call 9; refine (right_any _ _ _ _).mono ?_; rintro e w' ⟨rfl, rfl⟩)
              refine (writes_any _ _ _ _).mono ?_
              rintro e2 w4 ⟨rfl, hb4⟩
              have hs4 := kept hb4 (old_alloc hs3)
              have hbel4 := below_of hb4 (hbel3.alloc hbel3.size _)
              clear c0 c1 c2 f0 f1 f2 d0 d1 d2 g0 g1 g2 e0 e1 hs3 hw3 hbel3 hb4 hz0 hz1
              have e0 := (hbel4.cell (p := ⟨b, off + k * 2, none⟩) hbo).trans H0.out
              have e1 := (hbel4.cell (p := ⟨b, off + k * 2 + 1, none⟩) hbo).trans H1.out
              go_wp2_with fail
              go_roundw
              case rel => exact ⟨k + 1, ⟨3, s, g⟩, by omega, by go_num, rfl, rfl, HRy.out, hs4, hbel4⟩
              case measure => simp [intOf]; omega
          · as_aux_lemma =>
              clear hrr
              have HRy : Hid (rightP r s g) := HR.out
              have hRy : rightB r s g = true := rightB_of HRy.out
              obtain ⟨hbd1, hbd2⟩ := right_bounds HR.out
              obtain ⟨c0, c1, c2, f0, f1, f2⟩ := cells3 hs2
              obtain ⟨d0, d1, d2, g0, g1, g2⟩ := cells3 hw2
              obtain ⟨p0, p1, p2, q0, q1, q2⟩ := cells3 hbx
              go_wp2_with fail
              refine (writes_any _ _ _ _).mono ?_
              rintro e1 w3 ⟨rfl, hb3⟩
              have hs3 := kept hb3 (set3 hs2)
              have hw3 := kept hb3 (set3_ne (by omega) hw2)
              have hbel3 := below_of hb3 (below_set3 hbel2 (Nat.le_refl _))
              clear c0 c1 c2 f0 f1 f2 d0 d1 d2 g0 g1 g2 p0 p1 p2 q0 q1 q2 e0 e1 hs2 hw2 hbx hbel2 hb3
              have e0 := (hbel3.cell (p := ⟨b, off + k * 2, none⟩) hbo).trans H0.out
              have e1 := (hbel3.cell (p := ⟨b, off + k * 2 + 1, none⟩) hbo).trans H1.out
              obtain ⟨c0, c1, c2, f0, f1, f2⟩ := cells3 hs3
              obtain ⟨d0, d1, d2, g0, g1, g2⟩ := cells3 hw3
              have hz0 : w.heap.size < w3.heap.size := (Array.getElem?_eq_some_iff.1 hs3).1
              have hz1 : wr.heap.size < w3.heap.size := (Array.getElem?_eq_some_iff.1 hw3).1
              go_wp2_with (go_at_call 9; refine (right_any _ _ _ _).mono ?_; rintro e w' ⟨rfl, rfl⟩)
              refine (writes_any _ _ _ _).mono ?_
              rintro e2 w4 ⟨rfl, hb4⟩
              have hs4 := kept hb4 (old_alloc hs3)
              have hbel4 := below_of hb4 (hbel3.alloc hbel3.size _)
              clear c0 c1 c2 f0 f1 f2 d0 d1 d2 g0 g1 g2 e0 e1 hs3 hw3 hbel3 hb4 hz0 hz1
              have e0 := (hbel4.cell (p := ⟨b, off + k * 2, none⟩) hbo).trans H0.out
              have e1 := (hbel4.cell (p := ⟨b, off + k * 2 + 1, none⟩) hbo).trans H1.out
              go_wp2_with fail
              go_roundw
              case rel => exact ⟨k + 1, ⟨r, s, g⟩, by omega, by go_num, rfl, rfl, HRy.out, hs4, hbel4⟩
              case measure => simp [intOf]; omega
        · as_aux_lemma =>
            have hwx : writesN 1 s g = 0 := writes_1 HR.out
            have HRy : Hid (rightP 3 ep g) := next_13 HR.out hlt2
            have hwy : writesN 3 ep g = 32 := writes_3' HRy.out
            have hRy : rightB 3 ep g = true := rightB_of HRy.out
            obtain ⟨hbd1, hbd2⟩ := right_bounds HR.out
            obtain ⟨c0, c1, c2, f0, f1, f2⟩ := cells3 hs2
            obtain ⟨d0, d1, d2, g0, g1, g2⟩ := cells3 hw2
            obtain ⟨p0, p1, p2, q0, q1, q2⟩ := cells3 hbx
            go_wp2_with fail
            refine (writes_any _ _ _ _).mono ?_
            rintro e1 w3 ⟨rfl, hb3⟩
            have hs3 := kept hb3 (set3 hs2)
            have hw3 := kept hb3 (set3_ne (by omega) hw2)
            have hbel3 := below_of hb3 (below_set3 hbel2 (Nat.le_refl _))
            clear c0 c1 c2 f0 f1 f2 d0 d1 d2 g0 g1 g2 p0 p1 p2 q0 q1 q2 e0 e1 hs2 hw2 hbx hbel2 hb3
            have e0 := (hbel3.cell (p := ⟨b, off + k * 2, none⟩) hbo).trans H0.out
            have e1 := (hbel3.cell (p := ⟨b, off + k * 2 + 1, none⟩) hbo).trans H1.out
            obtain ⟨c0, c1, c2, f0, f1, f2⟩ := cells3 hs3
            obtain ⟨d0, d1, d2, g0, g1, g2⟩ := cells3 hw3
            have hz0 : w.heap.size < w3.heap.size := (Array.getElem?_eq_some_iff.1 hs3).1
            have hz1 : wr.heap.size < w3.heap.size := (Array.getElem?_eq_some_iff.1 hw3).1
            go_wp2_with (go_at_call 9; refine (right_any _ _ _ _).mono ?_; rintro e w' ⟨rfl, rfl⟩)
            refine (writes_any _ _ _ _).mono ?_
            rintro e2 w4 ⟨rfl, hb4⟩
            have hs4 := kept hb4 (old_alloc hs3)
            have hbel4 := below_of hb4 (hbel3.alloc hbel3.size _)
            clear c0 c1 c2 f0 f1 f2 d0 d1 d2 g0 g1 g2 e0 e1 hs3 hw3 hbel3 hb4 hz0 hz1
            have e0 := (hbel4.cell (p := ⟨b, off + k * 2, none⟩) hbo).trans H0.out
            have e1 := (hbel4.cell (p := ⟨b, off + k * 2 + 1, none⟩) hbo).trans H1.out
            go_wp2_with fail
            go_roundw
            case rel => exact ⟨k + 1, ⟨3, ep, g⟩, by omega, by go_num, rfl, rfl, HRy.out, hs4, hbel4⟩
            case measure => simp [intOf]; omega
        · rcases hrr with rfl | rfl
          · as_aux_lemma =>
              have hwx : writesN 2 s g = 31 := writes_2 HR.out
              have HRy : Hid (rightP 2 ep g) := next_22 HR.out hlt2
              have hwy : writesN 2 ep g = 31 := writes_2 HRy.out
              have hRy : rightB 2 ep g = true := rightB_of HRy.out
              obtain ⟨hbd1, hbd2⟩ := right_bounds HR.out
              obtain ⟨c0, c1, c2, f0, f1, f2⟩ := cells3 hs2
              obtain ⟨d0, d1, d2, g0, g1, g2⟩ := cells3 hw2
              obtain ⟨p0, p1, p2, q0, q1, q2⟩ := cells3 hbx
              go_wp2_with fail
              refine (writes_any _ _ _ _).mono ?_
              rintro e1 w3 ⟨rfl, hb3⟩
              have hs3 := kept hb3 (set3 hs2)
              have hw3 := kept hb3 (set3_ne (by omega) hw2)
              have hbel3 := below_of hb3 (below_set3 hbel2 (Nat.le_refl _))
              clear c0 c1 c2 f0 f1 f2 d0 d1 d2 g0 g1 g2 p0 p1 p2 q0 q1 q2 e0 e1 hs2 hw2 hbx hbel2 hb3
              have e0 := (hbel3.cell (p := ⟨b, off + k * 2, none⟩) hbo).trans H0.out
              have e1 := (hbel3.cell (p := ⟨b, off + k * 2 + 1, none⟩) hbo).trans H1.out
              obtain ⟨c0, c1, c2, f0, f1, f2⟩ := cells3 hs3
              obtain ⟨d0, d1, d2, g0, g1, g2⟩ := cells3 hw3
              have hz0 : w.heap.size < w3.heap.size := (Array.getElem?_eq_some_iff.1 hs3).1
              have hz1 : wr.heap.size < w3.heap.size := (Array.getElem?_eq_some_iff.1 hw3).1
              go_wp2_with (go_at_call 9; refine (right_any _ _ _ _).mono ?_; rintro e w' ⟨rfl, rfl⟩)
              refine (writes_any _ _ _ _).mono ?_
              rintro e2 w4 ⟨rfl, hb4⟩
              have hs4 := kept hb4 (old_alloc hs3)
              have hbel4 := below_of hb4 (hbel3.alloc hbel3.size _)
              clear c0 c1 c2 f0 f1 f2 d0 d1 d2 g0 g1 g2 e0 e1 hs3 hw3 hbel3 hb4 hz0 hz1
              have e0 := (hbel4.cell (p := ⟨b, off + k * 2, none⟩) hbo).trans H0.out
              have e1 := (hbel4.cell (p := ⟨b, off + k * 2 + 1, none⟩) hbo).trans H1.out
              go_wp2_with fail
              go_roundw
              case rel => exact ⟨k + 1, ⟨2, ep, g⟩, by omega, by go_num, rfl, rfl, HRy.out, hs4, hbel4⟩
              case measure => simp [intOf]; omega
          · as_aux_lemma =>
              have hwx : writesN 3 s g = 32 := writes_3' HR.out
              have HRy : Hid (rightP 3 ep g) := next_33 HR.out hlt2
              have hwy : writesN 3 ep g = 32 := writes_3' HRy.out
              have hRy : rightB 3 ep g = true := rightB_of HRy.out
              obtain ⟨hbd1, hbd2⟩ := right_bounds HR.out
              obtain ⟨c0, c1, c2, f0, f1, f2⟩ := cells3 hs2
              obtain ⟨d0, d1, d2, g0, g1, g2⟩ := cells3 hw2
              obtain ⟨p0, p1, p2, q0, q1, q2⟩ := cells3 hbx
              go_wp2_with fail
              refine (writes_any _ _ _ _).mono ?_
              rintro e1 w3 ⟨rfl, hb3⟩
              have hs3 := kept hb3 (set3 hs2)
              have hw3 := kept hb3 (set3_ne (by omega) hw2)
              have hbel3 := below_of hb3 (below_set3 hbel2 (Nat.le_refl _))
              clear c0 c1 c2 f0 f1 f2 d0 d1 d2 g0 g1 g2 p0 p1 p2 q0 q1 q2 e0 e1 hs2 hw2 hbx hbel2 hb3
              have e0 := (hbel3.cell (p := ⟨b, off + k * 2, none⟩) hbo).trans H0.out
              have e1 := (hbel3.cell (p := ⟨b, off + k * 2 + 1, none⟩) hbo).trans H1.out
              obtain ⟨c0, c1, c2, f0, f1, f2⟩ := cells3 hs3
              obtain ⟨d0, d1, d2, g0, g1, g2⟩ := cells3 hw3
              have hz0 : w.heap.size < w3.heap.size := (Array.getElem?_eq_some_iff.1 hs3).1
              have hz1 : wr.heap.size < w3.heap.size := (Array.getElem?_eq_some_iff.1 hw3).1
              go_wp2_with (go_at_call 9; refine (right_any _ _ _ _).mono ?_; rintro e w' ⟨rfl, rfl⟩)
              refine (writes_any _ _ _ _).mono ?_
              rintro e2 w4 ⟨rfl, hb4⟩
              have hs4 := kept hb4 (old_alloc hs3)
              have hbel4 := below_of hb4 (hbel3.alloc hbel3.size _)
              clear c0 c1 c2 f0 f1 f2 d0 d1 d2 g0 g1 g2 e0 e1 hs3 hw3 hbel3 hb4 hz0 hz1
              have e0 := (hbel4.cell (p := ⟨b, off + k * 2, none⟩) hbo).trans H0.out
              have e1 := (hbel4.cell (p := ⟨b, off + k * 2 + 1, none⟩) hbo).trans H1.out
              go_wp2_with fail
              go_roundw
              case rel => exact ⟨k + 1, ⟨3, ep, g⟩, by omega, by go_num, rfl, rfl, HRy.out, hs4, hbel4⟩
              case measure => simp [intOf]; omega
        · obtain rfl : s = ep := hes.symm
          rcases writes_cases r s g HR.out with ⟨hwx, rfl, rfl⟩ | ⟨hwx, rfl⟩ | ⟨v, hwx, hv0, hv32, hrr⟩
          · as_aux_lemma =>
              have HRy : Hid (rightP 1 g g) := HR.out
              have hRy : rightB 1 g g = true := rightB_of HRy.out
              obtain ⟨hbd1, hbd2⟩ := right_bounds HR.out
              obtain ⟨c0, c1, c2, f0, f1, f2⟩ := cells3 hs2
              obtain ⟨d0, d1, d2, g0, g1, g2⟩ := cells3 hw2
              obtain ⟨p0, p1, p2, q0, q1, q2⟩ := cells3 hbx
              go_wp2_with fail
              refine (writes_any _ _ _ _).mono ?_
              rintro e1 w3 ⟨rfl, hb3⟩
              have hs3 := kept hb3 (set3 hs2)
              have hw3 := kept hb3 (set3_ne (by omega) hw2)
              have hbel3 := below_of hb3 (below_set3 hbel2 (Nat.le_refl _))
              clear c0 c1 c2 f0 f1 f2 d0 d1 d2 g0 g1 g2 p0 p1 p2 q0 q1 q2 e0 e1 hs2 hw2 hbx hbel2 hb3
              have e0 := (hbel3.cell (p := ⟨b, off + k * 2, none⟩) hbo).trans H0.out
              have e1 := (hbel3.cell (p := ⟨b, off + k * 2 + 1, none⟩) hbo).trans H1.out
              obtain ⟨c0, c1, c2, f0, f1, f2⟩ := cells3 hs3
              obtain ⟨d0, d1, d2, g0, g1, g2⟩ := cells3 hw3
              have hz0 : w.heap.size < w3.heap.size := (Array.getElem?_eq_some_iff.1 hs3).1
              have hz1 : wr.heap.size < w3.heap.size := (Array.getElem?_eq_some_iff.1 hw3).1
              go_wp2_with (go_at_call 9; refine (right_any _ _ _ _).mono ?_; rintro e w' ⟨rfl, rfl⟩)
              refine (writes_any _ _ _ _).mono ?_
              rintro e2 w4 ⟨rfl, hb4⟩
              have hs4 := kept hb4 (old_alloc hs3)
              have hbel4 := below_of hb4 (hbel3.alloc hbel3.size _)
              clear c0 c1 c2 f0 f1 f2 d0 d1 d2 g0 g1 g2 e0 e1 hs3 hw3 hbel3 hb4 hz0 hz1
              have e0 := (hbel4.cell (p := ⟨b, off + k * 2, none⟩) hbo).trans H0.out
              have e1 := (hbel4.cell (p := ⟨b, off + k * 2 + 1, none⟩) hbo).trans H1.out
              go_wp2_with fail
              go_roundw
              case rel => exact ⟨k + 1, ⟨1, g, g⟩, by omega, by go_num, rfl, rfl, HRy.out, hs4, hbel4⟩
              case measure => simp [intOf]; omega
          · as_aux_lemma =>
              have HRy : Hid (rightP 3 s g) := HR.out
              have hRy : rightB 3 s g = true := rightB_of HRy.out
              obtain ⟨hbd1, hbd2⟩ := right_bounds HR.out
              obtain ⟨c0, c1, c2, f0, f1, f2⟩ := cells3 hs2
              obtain ⟨d0, d1, d2, g0, g1, g2⟩ := cells3 hw2
              obtain ⟨p0, p1, p2, q0, q1, q2⟩ := cells3 hbx
              go_wp2_with fail
              refine (writes_any _ _ _ _).mono ?_
              rintro e1 w3 ⟨rfl, hb3⟩
              have hs3 := kept hb3 (set3 hs2)
              have hw3 := kept hb3 (set3_ne (by omega) hw2)
              have hbel3 := below_of hb3 (below_set3 hbel2 (Nat.le_refl _))
              clear c0 c1 c2 f0 f1 f2 d0 d1 d2 g0 g1 g2 p0 p1 p2 q0 q1 q2 e0 e1 hs2 hw2 hbx hbel2 hb3
              have e0 := (hbel3.cell (p := ⟨b, off + k * 2, none⟩) hbo).trans H0.out
              have e1 := (hbel3.cell (p := ⟨b, off + k * 2 + 1, none⟩) hbo).trans H1.out
              obtain ⟨c0, c1, c2, f0, f1, f2⟩ := cells3 hs3
              obtain ⟨d0, d1, d2, g0, g1, g2⟩ := cells3 hw3
              have hz0 : w.heap.size < w3.heap.size := (Array.getElem?_eq_some_iff.1 hs3).1
              have hz1 : wr.heap.size < w3.heap.size := (Array.getElem?_eq_some_iff.1 hw3).1
              go_wp2_with (go_at_call 9; refine (right_any _ _ _ _).mono ?_; rintro e w' ⟨rfl, rfl⟩)
              refine (writes_any _ _ _ _).mono ?_
              rintro e2 w4 ⟨rfl, hb4⟩
              have hs4 := kept hb4 (old_alloc hs3)
              have hbel4 := below_of hb4 (hbel3.alloc hbel3.size _)
              clear c0 c1 c2 f0 f1 f2 d0 d1 d2 g0 g1 g2 e0 e1 hs3 hw3 hbel3 hb4 hz0 hz1
              have e0 := (hbel4.cell (p := ⟨b, off + k * 2, none⟩) hbo).trans H0.out
              have e1 := (hbel4.cell (p := ⟨b, off + k * 2 + 1, none⟩) hbo).trans H1.out
              go_wp2_with fail
              go_roundw
              case rel => exact ⟨k + 1, ⟨3, s, g⟩, by omega, by go_num, rfl, rfl, HRy.out, hs4, hbel4⟩
              case measure => simp [intOf]; omega
          · as_aux_lemma =>
              clear hrr
              have HRy : Hid (rightP r s g) := HR.out
              have hRy : rightB r s g = true := rightB_of HRy.out
              obtain ⟨hbd1, hbd2⟩ := right_bounds HR.out
              obtain ⟨c0, c1, c2, f0, f1, f2⟩ := cells3 hs2
              obtain ⟨d0, d1, d2, g0, g1, g2⟩ := cells3 hw2
              obtain ⟨p0, p1, p2, q0, q1, q2⟩ := cells3 hbx
              go_wp2_with fail
              refine (writes_any _ _ _ _).mono ?_
              rintro e1 w3 ⟨rfl, hb3⟩
              have hs3 := kept hb3 (set3 hs2)
              have hw3 := kept hb3 (set3_ne (by omega) hw2)
              have hbel3 := below_of hb3 (below_set3 hbel2 (Nat.le_refl _))
              clear c0 c1 c2 f0 f1 f2 d0 d1 d2 g0 g1 g2 p0 p1 p2 q0 q1 q2 e0 e1 hs2 hw2 hbx hbel2 hb3
              have e0 := (hbel3.cell (p := ⟨b, off + k * 2, none⟩) hbo).trans H0.out
              have e1 := (hbel3.cell (p := ⟨b, off + k * 2 + 1, none⟩) hbo).trans H1.out
              obtain ⟨c0, c1, c2, f0, f1, f2⟩ := cells3 hs3
              obtain ⟨d0, d1, d2, g0, g1, g2⟩ := cells3 hw3
              have hz0 : w.heap.size < w3.heap.size := (Array.getElem?_eq_some_iff.1 hs3).1
              have hz1 : wr.heap.size < w3.heap.size := (Array.getElem?_eq_some_iff.1 hw3).1
              go_wp2_with (go_at_call 9; refine (right_any _ _ _ _).mono ?_; rintro e w' ⟨rfl, rfl⟩)
              refine (writes_any _ _ _ _).mono ?_
              rintro e2 w4 ⟨rfl, hb4⟩
              have hs4 := kept hb4 (old_alloc hs3)
              have hbel4 := below_of hb4 (hbel3.alloc hbel3.size _)
              clear c0 c1 c2 f0 f1 f2 d0 d1 d2 g0 g1 g2 e0 e1 hs3 hw3 hbel3 hb4 hz0 hz1
              have e0 := (hbel4.cell (p := ⟨b, off + k * 2, none⟩) hbo).trans H0.out
              have e1 := (hbel4.cell (p := ⟨b, off + k * 2 + 1, none⟩) hbo).trans H1.out
              go_wp2_with fail
              go_roundw
              case rel => exact ⟨k + 1, ⟨r, s, g⟩, by omega, by go_num, rfl, rfl, HRy.out, hs4, hbel4⟩
              case measure => simp [intOf]; omega
        · as_aux_lemma =>
            have hwx : writesN 0 0 0 = 30 := by decide
            have HRy : Hid (rightP 1 ep ep) := next_11 hlt2
            have hwy : writesN 1 ep ep = 0 := writes_1 HRy.out
            have hRy : rightB 1 ep ep = true := rightB_of HRy.out
            obtain ⟨hbd1, hbd2⟩ := right_bounds HR.out
            obtain ⟨c0, c1, c2, f0, f1, f2⟩ := cells3 hs2
            obtain ⟨d0, d1, d2, g0, g1, g2⟩ := cells3 hw2
            obtain ⟨p0, p1, p2, q0, q1, q2⟩ := cells3 hbx
            go_wp2_with fail
            refine (writes_any _ _ _ _).mono ?_
            rintro e1 w3 ⟨rfl, hb3⟩
            have hs3 := kept hb3 (set3 hs2)
            have hw3 := kept hb3 (set3_ne (by omega) hw2)
            have hbel3 := below_of hb3 (below_set3 hbel2 (Nat.le_refl _))
            clear c0 c1 c2 f0 f1 f2 d0 d1 d2 g0 g1 g2 p0 p1 p2 q0 q1 q2 e0 e1 hs2 hw2 hbx hbel2 hb3
            have e0 := (hbel3.cell (p := ⟨b, off + k * 2, none⟩) hbo).trans H0.out
            have e1 := (hbel3.cell (p := ⟨b, off + k * 2 + 1, none⟩) hbo).trans H1.out
            obtain ⟨c0, c1, c2, f0, f1, f2⟩ := cells3 hs3
            obtain ⟨d0, d1, d2, g0, g1, g2⟩ := cells3 hw3
            have hz0 : w.heap.size < w3.heap.size := (Array.getElem?_eq_some_iff.1 hs3).1
            have hz1 : wr.heap.size < w3.heap.size := (Array.getElem?_eq_some_iff.1 hw3).1
            go_wp2_with (go_at_call 9; refine (right_any _ _ _ _).mono ?_; rintro e w' ⟨rfl, rfl⟩)
            refine (writes_any _ _ _ _).mono ?_
            rintro e2 w4 ⟨rfl, hb4⟩
            have hs4 := kept hb4 (old_alloc hs3)
            have hbel4 := below_of hb4 (hbel3.alloc hbel3.size _)
            clear c0 c1 c2 f0 f1 f2 d0 d1 d2 g0 g1 g2 e0 e1 hs3 hw3 hbel3 hb4 hz0 hz1
            have e0 := (hbel4.cell (p := ⟨b, off + k * 2, none⟩) hbo).trans H0.out
            have e1 := (hbel4.cell (p := ⟨b, off + k * 2 + 1, none⟩) hbo).trans H1.out
            go_wp2_with fail
            go_roundw
            case rel => exact ⟨k + 1, ⟨1, ep, ep⟩, by omega, by go_num, rfl, rfl, HRy.out, hs4, hbel4⟩
            case measure => simp [intOf]; omega
        · as_aux_lemma =>
            have hwx : writesN 0 0 0 = 30 := by decide
            have HRy : Hid (rightP 2 ep 0) := next_20 hlt2
            have hwy : writesN 2 ep 0 = 31 := writes_2 HRy.out
            have hRy : rightB 2 ep 0 = true := rightB_of HRy.out
            obtain ⟨hbd1, hbd2⟩ := right_bounds HR.out
            obtain ⟨c0, c1, c2, f0, f1, f2⟩ := cells3 hs2
            obtain ⟨d0, d1, d2, g0, g1, g2⟩ := cells3 hw2
            obtain ⟨p0, p1, p2, q0, q1, q2⟩ := cells3 hbx
            go_wp2_with fail
            refine (writes_any _ _ _ _).mono ?_
            rintro e1 w3 ⟨rfl, hb3⟩
            have hs3 := kept hb3 (set3 hs2)
            have hw3 := kept hb3 (set3_ne (by omega) hw2)
            have hbel3 := below_of hb3 (below_set3 hbel2 (Nat.le_refl _))
            clear c0 c1 c2 f0 f1 f2 d0 d1 d2 g0 g1 g2 p0 p1 p2 q0 q1 q2 e0 e1 hs2 hw2 hbx hbel2 hb3
            have e0 := (hbel3.cell (p := ⟨b, off + k * 2, none⟩) hbo).trans H0.out
            have e1 := (hbel3.cell (p := ⟨b, off + k * 2 + 1, none⟩) hbo).trans H1.out
            obtain ⟨c0, c1, c2, f0, f1, f2⟩ := cells3 hs3
            obtain ⟨d0, d1, d2, g0, g1, g2⟩ := cells3 hw3
            have hz0 : w.heap.size < w3.heap.size := (Array.getElem?_eq_some_iff.1 hs3).1
            have hz1 : wr.heap.size < w3.heap.size := (Array.getElem?_eq_some_iff.1 hw3).1
            go_wp2_with (go_at_call 9; refine (right_any _ _ _ _).mono ?_; rintro e w' ⟨rfl, rfl⟩)
            refine (writes_any _ _ _ _).mono ?_
            rintro e2 w4 ⟨rfl, hb4⟩
            have hs4 := kept hb4 (old_alloc hs3)
            have hbel4 := below_of hb4 (hbel3.alloc hbel3.size _)
            clear c0 c1 c2 f0 f1 f2 d0 d1 d2 g0 g1 g2 e0 e1 hs3 hw3 hbel3 hb4 hz0 hz1
            have e0 := (hbel4.cell (p := ⟨b, off + k * 2, none⟩) hbo).trans H0.out
            have e1 := (hbel4.cell (p := ⟨b, off + k * 2 + 1, none⟩) hbo).trans H1.out
            go_wp2_with fail
            go_roundw
            case rel => exact ⟨k + 1, ⟨2, ep, 0⟩, by omega, by go_num, rfl, rfl, HRy.out, hs4, hbel4⟩
            case measure => simp [intOf]; omega
        · rcases writes_cases r s g HR.out with ⟨hwx, rfl, rfl⟩ | ⟨hwx, rfl⟩ | ⟨v, hwx, hv0, hv32, hrr⟩
          · as_aux_lemma =>

              have HRy : Hid (rightP 1 ep ep) := next_r1 HR.out hlt2
              have hwy : writesN 1 ep ep = 0 := writes_1 HRy.out
              have hRy : rightB 1 ep ep = true := rightB_of HRy.out
              obtain ⟨hbd1, hbd2⟩ := right_bounds HR.out
              obtain ⟨c0, c1, c2, f0, f1, f2⟩ := cells3 hs2
              obtain ⟨d0, d1, d2, g0, g1, g2⟩ := cells3 hw2
              obtain ⟨p0, p1, p2, q0, q1, q2⟩ := cells3 hbx
              go_wp2_with fail
              refine (writes_any _ _ _ _).mono ?_
              rintro e1 w3 ⟨rfl, hb3⟩
              have hs3 := kept hb3 (set3 hs2)
              have hw3 := kept hb3 (set3_ne (by omega) hw2)
              have hbel3 := below_of hb3 (below_set3 hbel2 (Nat.le_refl _))
              clear c0 c1 c2 f0 f1 f2 d0 d1 d2 g0 g1 g2 p0 p1 p2 q0 q1 q2 e0 e1 hs2 hw2 hbx hbel2 hb3
              have e0 := (hbel3.cell (p := ⟨b, off + k * 2, none⟩) hbo).trans H0.out
              have e1 := (hbel3.cell (p := ⟨b, off + k * 2 + 1, none⟩) hbo).trans H1.out
              obtain ⟨c0, c1, c2, f0, f1, f2⟩ := cells3 hs3
              obtain ⟨d0, d1, d2, g0, g1, g2⟩ := cells3 hw3
              have hz0 : w.heap.size < w3.heap.size := (Array.getElem?_eq_some_iff.1 hs3).1
              have hz1 : wr.heap.size < w3.heap.size := (Array.getElem?_eq_some_iff.1 hw3).1
              go_wp2_with (go_at_call 9; refine (right_any _ _ _ _).mono ?_; rintro e w' ⟨rfl, rfl⟩)
              refine (writes_any _ _ _ _).mono ?_
              rintro e2 w4 ⟨rfl, hb4⟩
              have hs4 := kept hb4 (old_alloc hs3)
              have hbel4 := below_of hb4 (hbel3.alloc hbel3.size _)
              clear c0 c1 c2 f0 f1 f2 d0 d1 d2 g0 g1 g2 e0 e1 hs3 hw3 hbel3 hb4 hz0 hz1
              have e0 := (hbel4.cell (p := ⟨b, off + k * 2, none⟩) hbo).trans H0.out
              have e1 := (hbel4.cell (p := ⟨b, off + k * 2 + 1, none⟩) hbo).trans H1.out
              go_wp2_with fail
              go_roundw
              case rel => exact ⟨k + 1, ⟨1, ep, ep⟩, by omega, by go_num, rfl, rfl, HRy.out, hs4, hbel4⟩
              case measure => simp [intOf]; omega
          · as_aux_lemma =>

              have HRy : Hid (rightP 1 ep ep) := next_r1 HR.out hlt2
              have hwy : writesN 1 ep ep = 0 := writes_1 HRy.out
              have hRy : rightB 1 ep ep = true := rightB_of HRy.out
              obtain ⟨hbd1, hbd2⟩ := right_bounds HR.out
              obtain ⟨c0, c1, c2, f0, f1, f2⟩ := cells3 hs2
              obtain ⟨d0, d1, d2, g0, g1, g2⟩ := cells3 hw2
              obtain ⟨p0, p1, p2, q0, q1, q2⟩ := cells3 hbx
              go_wp2_with fail
              refine (writes_any _ _ _ _).mono ?_
              rintro e1 w3 ⟨rfl, hb3⟩
              have hs3 := kept hb3 (set3 hs2)
              have hw3 := kept hb3 (set3_ne (by omega) hw2)
              have hbel3 := below_of hb3 (below_set3 hbel2 (Nat.le_refl _))
              clear c0 c1 c2 f0 f1 f2 d0 d1 d2 g0 g1 g2 p0 p1 p2 q0 q1 q2 e0 e1 hs2 hw2 hbx hbel2 hb3
              have e0 := (hbel3.cell (p := ⟨b, off + k * 2, none⟩) hbo).trans H0.out
              have e1 := (hbel3.cell (p := ⟨b, off + k * 2 + 1, none⟩) hbo).trans H1.out
              obtain ⟨c0, c1, c2, f0, f1, f2⟩ := cells3 hs3
              obtain ⟨d0, d1, d2, g0, g1, g2⟩ := cells3 hw3
              have hz0 : w.heap.size < w3.heap.size := (Array.getElem?_eq_some_iff.1 hs3).1
              have hz1 : wr.heap.size < w3.heap.size := (Array.getElem?_eq_some_iff.1 hw3).1
              go_wp2_with (go_at_call 9; refine (right_any _ _ _ _).mono ?_; rintro e w' ⟨rfl, rfl⟩)
              refine (writes_any _ _ _ _).mono ?_
              rintro e2 w4 ⟨rfl, hb4⟩
              have hs4 := kept hb4 (old_alloc hs3)
              have hbel4 := below_of hb4 (hbel3.alloc hbel3.size _)
              clear c0 c1 c2 f0 f1 f2 d0 d1 d2 g0 g1 g2 e0 e1 hs3 hw3 hbel3 hb4 hz0 hz1
              have e0 := (hbel4.cell (p := ⟨b, off + k * 2, none⟩) hbo).trans H0.out
              have e1 := (hbel4.cell (p := ⟨b, off + k * 2 + 1, none⟩) hbo).trans H1.out
              go_wp2_with fail
              go_roundw
              case rel => exact ⟨k + 1, ⟨1, ep, ep⟩, by omega, by go_num, rfl, rfl, HRy.out, hs4, hbel4⟩
              case measure => simp [intOf]; omega
          · as_aux_lemma =>
              clear hrr
              have HRy : Hid (rightP 1 ep ep) := next_r1 HR.out hlt2
              have hwy : writesN 1 ep ep = 0 := writes_1 HRy.out
              have hRy : rightB 1 ep ep = true := rightB_of HRy.out
              obtain ⟨hbd1, hbd2⟩ := right_bounds HR.out
              obtain ⟨c0, c1, c2, f0, f1, f2⟩ := cells3 hs2
              obtain ⟨d0, d1, d2, g0, g1, g2⟩ := cells3 hw2
              obtain ⟨p0, p1, p2, q0, q1, q2⟩ := cells3 hbx
              go_wp2_with fail
              refine (writes_any _ _ _ _).mono ?_
              rintro e1 w3 ⟨rfl, hb3⟩
              have hs3 := kept hb3 (set3 hs2)
              have hw3 := kept hb3 (set3_ne (by omega) hw2)
              have hbel3 := below_of hb3 (below_set3 hbel2 (Nat.le_refl _))
              clear c0 c1 c2 f0 f1 f2 d0 d1 d2 g0 g1 g2 p0 p1 p2 q0 q1 q2 e0 e1 hs2 hw2 hbx hbel2 hb3
              have e0 := (hbel3.cell (p := ⟨b, off + k * 2, none⟩) hbo).trans H0.out
              have e1 := (hbel3.cell (p := ⟨b, off + k * 2 + 1, none⟩) hbo).trans H1.out
              obtain ⟨c0, c1, c2, f0, f1, f2⟩ := cells3 hs3
              obtain ⟨d0, d1, d2, g0, g1, g2⟩ := cells3 hw3
              have hz0 : w.heap.size < w3.heap.size := (Array.getElem?_eq_some_iff.1 hs3).1
              have hz1 : wr.heap.size < w3.heap.size := (Array.getElem?_eq_some_iff.1 hw3).1
              go_wp2_with (go_at_call 9; refine (right_any _ _ _ _).mono ?_; rintro e w' ⟨rfl, rfl⟩)
              refine (writes_any _ _ _ _).mono ?_
              rintro e2 w4 ⟨rfl, hb4⟩
              have hs4 := kept hb4 (old_alloc hs3)
              have hbel4 := below_of hb4 (hbel3.alloc hbel3.size _)
              clear c0 c1 c2 f0 f1 f2 d0 d1 d2 g0 g1 g2 e0 e1 hs3 hw3 hbel3 hb4 hz0 hz1
              have e0 := (hbel4.cell (p := ⟨b, off + k * 2, none⟩) hbo).trans H0.out
              have e1 := (hbel4.cell (p := ⟨b, off + k * 2 + 1, none⟩) hbo).trans H1.out
              go_wp2_with fail
              go_roundw
              case rel => exact ⟨k + 1, ⟨1, ep, ep⟩, by omega, by go_num, rfl, rfl, HRy.out, hs4, hbel4⟩
              case measure => simp [intOf]; omega
        · as_aux_lemma =>
            have hwx : writesN 3 s g = 32 := writes_3' HR.out
            have HRy : Hid (rightP 2 s g) := next_32 HR.out
            have hwy : writesN 2 s g = 31 := writes_2 HRy.out
            have hRy : rightB 2 s g = true := rightB_of HRy.out
            obtain ⟨hbd1, hbd2⟩ := right_bounds HR.out
            obtain ⟨c0, c1, c2, f0, f1, f2⟩ := cells3 hs2
            obtain ⟨d0, d1, d2, g0, g1, g2⟩ := cells3 hw2
            obtain ⟨p0, p1, p2, q0, q1, q2⟩ := cells3 hbx
            go_wp2_with fail
            refine (writes_any _ _ _ _).mono ?_
            rintro e1 w3 ⟨rfl, hb3⟩
            have hs3 := kept hb3 (set3 hs2)
            have hw3 := kept hb3 (set3_ne (by omega) hw2)
            have hbel3 := below_of hb3 (below_set3 hbel2 (Nat.le_refl _))
            clear c0 c1 c2 f0 f1 f2 d0 d1 d2 g0 g1 g2 p0 p1 p2 q0 q1 q2 e0 e1 hs2 hw2 hbx hbel2 hb3
            have e0 := (hbel3.cell (p := ⟨b, off + k * 2, none⟩) hbo).trans H0.out
            have e1 := (hbel3.cell (p := ⟨b, off + k * 2 + 1, none⟩) hbo).trans H1.out
            obtain ⟨c0, c1, c2, f0, f1, f2⟩ := cells3 hs3
            obtain ⟨d0, d1, d2, g0, g1, g2⟩ := cells3 hw3
            have hz0 : w.heap.size < w3.heap.size := (Array.getElem?_eq_some_iff.1 hs3).1
            have hz1 : wr.heap.size < w3.heap.size := (Array.getElem?_eq_some_iff.1 hw3).1
            go_wp2_with (go_at_call 9; refine (right_any _ _ _ _).mono ?_; rintro e w' ⟨rfl, rfl⟩)
            refine (writes_any _ _ _ _).mono ?_
            rintro e2 w4 ⟨rfl, hb4⟩
            have hs4 := kept hb4 (old_alloc hs3)
            have hbel4 := below_of hb4 (hbel3.alloc hbel3.size _)
            clear c0 c1 c2 f0 f1 f2 d0 d1 d2 g0 g1 g2 e0 e1 hs3 hw3 hbel3 hb4 hz0 hz1
            have e0 := (hbel4.cell (p := ⟨b, off + k * 2, none⟩) hbo).trans H0.out
            have e1 := (hbel4.cell (p := ⟨b, off + k * 2 + 1, none⟩) hbo).trans H1.out
            go_wp2_with fail
            go_roundw
            case rel => exact ⟨k + 1, ⟨2, s, g⟩, by omega, by go_num, rfl, rfl, HRy.out, hs4, hbel4⟩
            case measure => simp [intOf]; omega
        · have hd1' : (d == 1) = false := beq_eq_false_iff_ne.2 (by omega)
          have hd3' : (d == 3) = false := beq_eq_false_iff_ne.2 (by omega)
          rcases writes_cases r s g HR.out with ⟨hwx, rfl, rfl⟩ | ⟨hwx, rfl⟩ | ⟨v, hwx, hv0, hv32, hrr⟩
          · as_aux_lemma =>
              have HRy : Hid (rightP 1 g g) := HR.out
              have hRy : rightB 1 g g = true := rightB_of HRy.out
              obtain ⟨hbd1, hbd2⟩ := right_bounds HR.out
              obtain ⟨c0, c1, c2, f0, f1, f2⟩ := cells3 hs2
              obtain ⟨d0, d1, d2, g0, g1, g2⟩ := cells3 hw2
              obtain ⟨p0, p1, p2, q0, q1, q2⟩ := cells3 hbx
              go_wp2_with fail
              refine (writes_any _ _ _ _).mono ?_
              rintro e1 w3 ⟨rfl, hb3⟩
              have hs3 := kept hb3 (set3 hs2)
              have hw3 := kept hb3 (set3_ne (by omega) hw2)
              have hbel3 := below_of hb3 (below_set3 hbel2 (Nat.le_refl _))
              clear c0 c1 c2 f0 f1 f2 d0 d1 d2 g0 g1 g2 p0 p1 p2 q0 q1 q2 e0 e1 hs2 hw2 hbx hbel2 hb3
              have e0 := (hbel3.cell (p := ⟨b, off + k * 2, none⟩) hbo).trans H0.out
              have e1 := (hbel3.cell (p := ⟨b, off + k * 2 + 1, none⟩) hbo).trans H1.out
              obtain ⟨c0, c1, c2, f0, f1, f2⟩ := cells3 hs3
              obtain ⟨d0, d1, d2, g0, g1, g2⟩ := cells3 hw3
              have hz0 : w.heap.size < w3.heap.size := (Array.getElem?_eq_some_iff.1 hs3).1
              have hz1 : wr.heap.size < w3.heap.size := (Array.getElem?_eq_some_iff.1 hw3).1
              go_wp2_with (go_at_call 9; refine (right_any _ _ _ _).mono ?_; rintro e w' ⟨rfl, rfl⟩)
              refine (writes_any _ _ _ _).mono ?_
              rintro e2 w4 ⟨rfl, hb4⟩
              have hs4 := kept hb4 (old_alloc hs3)
              have hbel4 := below_of hb4 (hbel3.alloc hbel3.size _)
              clear c0 c1 c2 f0 f1 f2 d0 d1 d2 g0 g1 g2 e0 e1 hs3 hw3 hbel3 hb4 hz0 hz1
              have e0 := (hbel4.cell (p := ⟨b, off + k * 2, none⟩) hbo).trans H0.out
              have e1 := (hbel4.cell (p := ⟨b, off + k * 2 + 1, none⟩) hbo).trans H1.out
              go_wp2_with fail
              go_roundw
              case rel => exact ⟨k + 1, ⟨1, g, g⟩, by omega, by go_num, rfl, rfl, HRy.out, hs4, hbel4⟩
              case measure => simp [intOf]; omega
          · as_aux_lemma =>
              have HRy : Hid (rightP 3 s g) := HR.out
              have hRy : rightB 3 s g = true := rightB_of HRy.out
              obtain ⟨hbd1, hbd2⟩ := right_bounds HR.out
              obtain ⟨c0, c1, c2, f0, f1, f2⟩ := cells3 hs2
              obtain ⟨d0, d1, d2, g0, g1, g2⟩ := cells3 hw2
              obtain ⟨p0, p1, p2, q0, q1, q2⟩ := cells3 hbx
              go_wp2_with fail
              refine (writes_any _ _ _ _).mono ?_
              rintro e1 w3 ⟨rfl, hb3⟩
              have hs3 := kept hb3 (set3 hs2)
              have hw3 := kept hb3 (set3_ne (by omega) hw2)
              have hbel3 := below_of hb3 (below_set3 hbel2 (Nat.le_refl _))
              clear c0 c1 c2 f0 f1 f2 d0 d1 d2 g0 g1 g2 p0 p1 p2 q0 q1 q2 e0 e1 hs2 hw2 hbx hbel2 hb3
              have e0 := (hbel3.cell (p := ⟨b, off + k * 2, none⟩) hbo).trans H0.out
              have e1 := (hbel3.cell (p := ⟨b, off + k * 2 + 1, none⟩) hbo).trans H1.out
              obtain ⟨c0, c1, c2, f0, f1, f2⟩ := cells3 hs3
              obtain ⟨d0, d1, d2, g0, g1, g2⟩ := cells3 hw3
              have hz0 : w.heap.size < w3.heap.size := (Array.getElem?_eq_some_iff.1 hs3).1
              have hz1 : wr.heap.size < w3.heap.size := (Array.getElem?_eq_some_iff.1 hw3).1
              go_wp2_with (go_at_call 9; refine (right_any _ _ _ _).mono ?_; rintro e w' ⟨rfl, rfl⟩)
              refine (writes_any _ _ _ _).mono ?_
              rintro e2 w4 ⟨rfl, hb4⟩
              have hs4 := kept hb4 (old_alloc hs3)
              have hbel4 := below_of hb4 (hbel3.alloc hbel3.size _)
              clear c0 c1 c2 f0 f1 f2 d0 d1 d2 g0 g1 g2 e0 e1 hs3 hw3 hbel3 hb4 hz0 hz1
              have e0 := (hbel4.cell (p := ⟨b, off + k * 2, none⟩) hbo).trans H0.out
              have e1 := (hbel4.cell (p := ⟨b, off + k * 2 + 1, none⟩) hbo).trans H1.out
              go_wp2_with fail
              go_roundw
              case rel => exact ⟨k + 1, ⟨3, s, g⟩, by omega, by go_num, rfl, rfl, HRy.out, hs4, hbel4⟩
              case measure => simp [intOf]; omega
          · as_aux_lemma =>
              clear hrr
              have HRy : Hid (rightP r s g) := HR.out
              have hRy : rightB r s g = true := rightB_of HRy.out
              obtain ⟨hbd1, hbd2⟩ := right_bounds HR.out
              obtain ⟨c0, c1, c2, f0, f1, f2⟩ := cells3 hs2
              obtain ⟨d0, d1, d2, g0, g1, g2⟩ := cells3 hw2
              obtain ⟨p0, p1, p2, q0, q1, q2⟩ := cells3 hbx
              go_wp2_with fail
              refine (writes_any _ _ _ _).mono ?_
              rintro e1 w3 ⟨rfl, hb3⟩
              have hs3 := kept hb3 (set3 hs2)
              have hw3 := kept hb3 (set3_ne (by omega) hw2)
              have hbel3 := below_of hb3 (below_set3 hbel2 (Nat.le_refl _))
              clear c0 c1 c2 f0 f1 f2 d0 d1 d2 g0 g1 g2 p0 p1 p2 q0 q1 q2 e0 e1 hs2 hw2 hbx hbel2 hb3
              have e0 := (hbel3.cell (p := ⟨b, off + k * 2, none⟩) hbo).trans H0.out
              have e1 := (hbel3.cell (p := ⟨b, off + k * 2 + 1, none⟩) hbo).trans H1.out
              obtain ⟨c0, c1, c2, f0, f1, f2⟩ := cells3 hs3
              obtain ⟨d0, d1, d2, g0, g1, g2⟩ := cells3 hw3
              have hz0 : w.heap.size < w3.heap.size := (Array.getElem?_eq_some_iff.1 hs3).1
              have hz1 : wr.heap.size < w3.heap.size := (Array.getElem?_eq_some_iff.1 hw3).1
              go_wp2_with (go_at_call 9; refine (right_any _ _ _ _).mono ?_; rintro e w' ⟨rfl, rfl⟩)
              refine (writes_any _ _ _ _).mono ?_
              rintro e2 w4 ⟨rfl, hb4⟩
              have hs4 := kept hb4 (old_alloc hs3)
              have hbel4 := below_of hb4 (hbel3.alloc hbel3.size _)
              clear c0 c1 c2 f0 f1 f2 d0 d1 d2 g0 g1 g2 e0 e1 hs3 hw3 hbel3 hb4 hz0 hz1
              have e0 := (hbel4.cell (p := ⟨b, off + k * 2, none⟩) hbo).trans H0.out
              have e1 := (hbel4.cell (p := ⟨b, off + k * 2 + 1, none⟩) hbo).trans H1.out
              go_wp2_with fail
              go_roundw
              case rel => exact ⟨k + 1, ⟨r, s, g⟩, by omega, by go_num, rfl, rfl, HRy.out, hs4, hbel4⟩
              case measure => simp [intOf]; omega
    · go_wp2_with fail
      refine (wakes_any _).mono ?_
      rintro e w4 ⟨rfl, hb4⟩
      go_wp2_with fail
      go_ret
      exact ⟨rfl, below_of hb4 hbel⟩

end Go.Proofs.Ytjepdlmdemlkmaa
