/- FenceOnce: two stands to each of which other epochs are granted never write by one epoch. Conditions: none. -/
import Derived.Test.YtjepdlmdemlkmaaPlays2
import Derived.Test.YtjepdlmdemlkmaaPlain3
import Derived.Deep.DeepCutAuto
namespace Go.Proofs.Ytjepdlmdemlkmaa
open Go.RowKit Go.ChangeShapes Go.WideShapes Go.ChangeAt

theorem bits_even (ep : Int) : bits .andNot .i64 ep 1 % 2 = 0 := by
  have hb : ((BitVec.ofInt 64 ep &&& ~~~BitVec.ofInt 64 1).toNat) % 2 = 0 := by
    have h : ((BitVec.ofInt 64 ep &&& ~~~BitVec.ofInt 64 1).toNat).testBit 0 = false := by
      rw [BitVec.testBit_toNat, BitVec.getLsbD_and, BitVec.getLsbD_not]
      simp
    rw [Nat.testBit_zero] at h
    have h' := of_decide_eq_false h
    generalize (BitVec.ofInt 64 ep &&& ~~~BitVec.ofInt 64 1).toNat = n at *
    omega
  show IntKind.i64.wrap ((BitVec.ofInt 64 ep &&& ~~~BitVec.ofInt 64 1).toNat : Int) % 2 = 0
  rw [IntKind.wrap_i64]
  omega
theorem bits_odd (ep : Int) : bits .or .i64 ep 1 % 2 = 1 := by
  have hb : ((BitVec.ofInt 64 ep ||| BitVec.ofInt 64 1).toNat) % 2 = 1 := by
    have h : ((BitVec.ofInt 64 ep ||| BitVec.ofInt 64 1).toNat).testBit 0 = true := by
      rw [BitVec.testBit_toNat, BitVec.getLsbD_or]
      simp
    rw [Nat.testBit_zero] at h
    exact of_decide_eq_true h
  show IntKind.i64.wrap ((BitVec.ofInt 64 ep ||| BitVec.ofInt 64 1).toNat : Int) % 2 = 1
  rw [IntKind.wrap_i64]
  omega

set_option maxRecDepth 100000 in
set_option maxHeartbeats 4000000 in
theorem once_loop (a a2 : Option Addr) (b off n cap : Nat) (D E : Nat → Int) (b2 off2 n2 cap2 : Nat) (D2 E2 : Nat → Int) (w : World) (hn : n ≤ 300) (hn2 : n2 ≤ 300) (hl : 0 < n → a = some ⟨b, off, none⟩ ∧ ActsAt w b off n D E) (hl2 : 0 < n2 → a2 = some ⟨b2, off2, none⟩ ∧ ActsAt w b2 off2 n2 D2 E2) :
    Calls Try.prog 7 #[.slice a n cap, .slice a2 n2 cap2] w fun e w' => e = .returned (.bool true) ∧ Below w.heap.size w w' := by
  go_enter Try.func7, Try.ntmps7
  go_wp2_with fail
  go_loopw [7] (fun i wr => ∃ (k : Nat) (x z : St), i = .int .i64 k ∧ k ≤ 300 ∧ wr.heap[w.heap.size]? = some (.cells #[.int .i64 x.r, .int .i64 x.s, .int .i64 x.g] 23) ∧ wr.heap[w.heap.size + 1]? = some (.cells #[.int .i64 z.r, .int .i64 z.s, .int .i64 z.g] 23) ∧ Below w.heap.size w wr ∧ Hid (rightP x.r x.s x.g) ∧ Hid (rightP z.r z.s z.g) ∧ Hid (x.g % 2 = 0) ∧ Hid (z.g = 0 ∨ z.g % 2 = 1))
    (fun i _ => 300 - (intOf i).toNat)
  case atStart => exact ⟨0, ⟨0, 0, 0⟩, ⟨0, 0, 0⟩, rfl, by omega, old_alloc new_alloc, by rw [show w.heap.size + 1 = (w.alloc (.cells #[.int .i64 0, .int .i64 0, .int .i64 0] 23)).heap.size from by simp]; exact new_alloc, by repeat (first | exact Below.refl _ _ | refine Below.alloc ?_ (by simp <;> omega) _ | refine Below.setCell ?_ (by simp <;> omega) _), by unfold Hid; decide, by unfold Hid; decide, by unfold Hid; decide, by unfold Hid; decide⟩
  case round =>
    obtain ⟨k, x, z, rfl, hk, hs, ht, hbel, HRx, HRz, HGx, HGz⟩ := hrel
    by_cases hina : k < n
    · have hk' : k < 300 := by omega
      have hX : wr.heap.size = wr.heap.size := rfl
      clear hX
      go_upto_if 34 with (fail)
      go_cut [] (fun wc => ∃ x z : St, wc.heap[w.heap.size]? = some (.cells #[.int .i64 x.r, .int .i64 x.s, .int .i64 x.g] 23) ∧ wc.heap[w.heap.size + 1]? = some (.cells #[.int .i64 z.r, .int .i64 z.s, .int .i64 z.g] 23) ∧ Below w.heap.size w wc ∧ Hid (rightP x.r x.s x.g) ∧ Hid (rightP z.r z.s z.g) ∧ Hid (x.g % 2 = 0) ∧ Hid (z.g = 0 ∨ z.g % 2 = 1))
      case first =>
        by_cases hlt : k < n
        · obtain ⟨rfl, hacts⟩ := hl (by omega)
          obtain ⟨hc0, hd0, hd1⟩ := hacts.kind k hlt
          have hc1 := hacts.epoch k hlt
          have hbo := hacts.old
          have e0 := (hbel.cell (p := ⟨b, off + k * 2, none⟩) hbo).trans hc0
          have e1 := (hbel.cell (p := ⟨b, off + k * 2 + 1, none⟩) hbo).trans hc1
          generalize D k = d at *
          generalize E k = ep at *
          clear hc0 hc1 hl hl2 hacts
          by_cases hd1 : d = 1
          · subst hd1

            obtain ⟨c0, c1, c2, f0, f1, f2⟩ := cells3 hs
            have hsz := (Array.getElem?_eq_some_iff.1 hs).1
            have htz := (Array.getElem?_eq_some_iff.1 ht).1
            go_wp2_with fail
            refine (does_any _ _ _ _ _ hd0 _).mono ?_
            rintro e2 w2 ⟨rfl, hb2⟩
            rw [retS_eq]
            clear c0 c1 c2 f0 f1 f2
            obtain ⟨c0, c1, c2, f0, f1, f2⟩ := cells3 (kept hb2 (old_alloc hs))
            go_wp2_with fail
            go_meet
            case rel => exact ⟨(doesN x.r x.s x.g 1 (bits .andNot .i64 ep 1)).1, z, set3 (kept hb2 (old_alloc hs)), set3_ne (by omega) (kept hb2 (old_alloc ht)), below_set3 (below_of hb2 (hbel.alloc hbel.size _)) (Nat.le_refl _), does_right (ep := bits .andNot .i64 ep 1) HRx.out hd0, HRz, even_next HRx.out hd0 HGx.out (bits_even ep) (fun _ => rfl), HGz⟩

          · by_cases hd3 : d = 3
            · subst hd3

              obtain ⟨c0, c1, c2, f0, f1, f2⟩ := cells3 hs
              have hsz := (Array.getElem?_eq_some_iff.1 hs).1
              have htz := (Array.getElem?_eq_some_iff.1 ht).1
              go_wp2_with fail
              refine (does_any _ _ _ _ _ hd0 _).mono ?_
              rintro e2 w2 ⟨rfl, hb2⟩
              rw [retS_eq]
              clear c0 c1 c2 f0 f1 f2
              obtain ⟨c0, c1, c2, f0, f1, f2⟩ := cells3 (kept hb2 (old_alloc hs))
              go_wp2_with fail
              go_meet
              case rel => exact ⟨(doesN x.r x.s x.g 3 (bits .andNot .i64 ep 1)).1, z, set3 (kept hb2 (old_alloc hs)), set3_ne (by omega) (kept hb2 (old_alloc ht)), below_set3 (below_of hb2 (hbel.alloc hbel.size _)) (Nat.le_refl _), does_right (ep := bits .andNot .i64 ep 1) HRx.out hd0, HRz, even_next HRx.out hd0 HGx.out (bits_even ep) (fun _ => rfl), HGz⟩

            · have h1 : (d == 1) = false := beq_eq_false_iff_ne.2 hd1
              have h3 : (d == 3) = false := beq_eq_false_iff_ne.2 hd3
              have hno : Hid (¬ (d = 1 ∨ d = 3)) := fun h => h.elim hd1 hd3
              clear hd1 hd3

              obtain ⟨c0, c1, c2, f0, f1, f2⟩ := cells3 hs
              have hsz := (Array.getElem?_eq_some_iff.1 hs).1
              have htz := (Array.getElem?_eq_some_iff.1 ht).1
              go_wp2_with fail
              refine (does_any _ _ _ _ _ hd0 _).mono ?_
              rintro e2 w2 ⟨rfl, hb2⟩
              rw [retS_eq]
              clear c0 c1 c2 f0 f1 f2
              obtain ⟨c0, c1, c2, f0, f1, f2⟩ := cells3 (kept hb2 (old_alloc hs))
              go_wp2_with fail
              go_meet
              case rel => exact ⟨(doesN x.r x.s x.g d (ep)).1, z, set3 (kept hb2 (old_alloc hs)), set3_ne (by omega) (kept hb2 (old_alloc ht)), below_set3 (below_of hb2 (hbel.alloc hbel.size _)) (Nat.le_refl _), does_right (ep := ep) HRx.out hd0, HRz, even_next HRx.out hd0 HGx.out (bits_even ep) (fun h => absurd h hno.out), HGz⟩

        · exact absurd hina hlt
      case rest =>
        clear hs ht hbel HRx HRz HGx HGz x z
        obtain ⟨x, z, hs, ht, hbel, HRx, HRz, HGx, HGz⟩ := hcut
        have hX : wr.heap.size = wr.heap.size := rfl
        clear hX
        go_upto_if 60 with (fail)
        go_cut [] (fun wc => ∃ x z : St, wc.heap[w.heap.size]? = some (.cells #[.int .i64 x.r, .int .i64 x.s, .int .i64 x.g] 23) ∧ wc.heap[w.heap.size + 1]? = some (.cells #[.int .i64 z.r, .int .i64 z.s, .int .i64 z.g] 23) ∧ Below w.heap.size w wc ∧ Hid (rightP x.r x.s x.g) ∧ Hid (rightP z.r z.s z.g) ∧ Hid (x.g % 2 = 0) ∧ Hid (z.g = 0 ∨ z.g % 2 = 1))
        case first =>
          by_cases hlt : k < n2
          · obtain ⟨rfl, hacts⟩ := hl2 (by omega)
            obtain ⟨hc0, hd0, hd1⟩ := hacts.kind k hlt
            have hc1 := hacts.epoch k hlt
            have hbo := hacts.old
            have e0 := (hbel.cell (p := ⟨b2, off2 + k * 2, none⟩) hbo).trans hc0
            have e1 := (hbel.cell (p := ⟨b2, off2 + k * 2 + 1, none⟩) hbo).trans hc1
            generalize D2 k = d at *
            generalize E2 k = ep at *
            clear hc0 hc1 hl hl2 hacts
            by_cases hd1 : d = 1
            · subst hd1

              obtain ⟨c0, c1, c2, f0, f1, f2⟩ := cells3 ht
              have hsz := (Array.getElem?_eq_some_iff.1 hs).1
              have htz := (Array.getElem?_eq_some_iff.1 ht).1
              go_wp2_with fail
              refine (does_any _ _ _ _ _ hd0 _).mono ?_
              rintro e2 w2 ⟨rfl, hb2⟩
              rw [retS_eq]
              clear c0 c1 c2 f0 f1 f2
              obtain ⟨c0, c1, c2, f0, f1, f2⟩ := cells3 (kept hb2 (old_alloc ht))
              go_wp2_with fail
              go_meet
              case rel => exact ⟨x, (doesN z.r z.s z.g 1 (bits .or .i64 ep 1)).1, set3_ne (by omega) (kept hb2 (old_alloc hs)), set3 (kept hb2 (old_alloc ht)), below_set3 (below_of hb2 (hbel.alloc hbel.size _)) (Nat.le_succ _), HRx, does_right (ep := bits .or .i64 ep 1) HRz.out hd0, HGx, odd_next HRz.out hd0 HGz.out (bits_odd ep) (fun _ => rfl)⟩

            · by_cases hd3 : d = 3
              · subst hd3

                obtain ⟨c0, c1, c2, f0, f1, f2⟩ := cells3 ht
                have hsz := (Array.getElem?_eq_some_iff.1 hs).1
                have htz := (Array.getElem?_eq_some_iff.1 ht).1
                go_wp2_with fail
                refine (does_any _ _ _ _ _ hd0 _).mono ?_
                rintro e2 w2 ⟨rfl, hb2⟩
                rw [retS_eq]
                clear c0 c1 c2 f0 f1 f2
                obtain ⟨c0, c1, c2, f0, f1, f2⟩ := cells3 (kept hb2 (old_alloc ht))
                go_wp2_with fail
                go_meet
                case rel => exact ⟨x, (doesN z.r z.s z.g 3 (bits .or .i64 ep 1)).1, set3_ne (by omega) (kept hb2 (old_alloc hs)), set3 (kept hb2 (old_alloc ht)), below_set3 (below_of hb2 (hbel.alloc hbel.size _)) (Nat.le_succ _), HRx, does_right (ep := bits .or .i64 ep 1) HRz.out hd0, HGx, odd_next HRz.out hd0 HGz.out (bits_odd ep) (fun _ => rfl)⟩

              · have h1 : (d == 1) = false := beq_eq_false_iff_ne.2 hd1
                have h3 : (d == 3) = false := beq_eq_false_iff_ne.2 hd3
                have hno : Hid (¬ (d = 1 ∨ d = 3)) := fun h => h.elim hd1 hd3
                clear hd1 hd3

                obtain ⟨c0, c1, c2, f0, f1, f2⟩ := cells3 ht
                have hsz := (Array.getElem?_eq_some_iff.1 hs).1
                have htz := (Array.getElem?_eq_some_iff.1 ht).1
                go_wp2_with fail
                refine (does_any _ _ _ _ _ hd0 _).mono ?_
                rintro e2 w2 ⟨rfl, hb2⟩
                rw [retS_eq]
                clear c0 c1 c2 f0 f1 f2
                obtain ⟨c0, c1, c2, f0, f1, f2⟩ := cells3 (kept hb2 (old_alloc ht))
                go_wp2_with fail
                go_meet
                case rel => exact ⟨x, (doesN z.r z.s z.g d (ep)).1, set3_ne (by omega) (kept hb2 (old_alloc hs)), set3 (kept hb2 (old_alloc ht)), below_set3 (below_of hb2 (hbel.alloc hbel.size _)) (Nat.le_succ _), HRx, does_right (ep := ep) HRz.out hd0, HGx, odd_next HRz.out hd0 HGz.out (bits_odd ep) (fun h => absurd h hno.out)⟩

          · go_wp2_with fail
            go_meet
            case rel => exact ⟨x, z, hs, ht, hbel, HRx, HRz, HGx, HGz⟩
        case rest =>
          clear hs ht hbel HRx HRz HGx HGz x z
          obtain ⟨x, z, hs, ht, hbel, HRx, HRz, HGx, HGz⟩ := hcut
          rcases once_ways HRx.out HRz.out HGx.out HGz.out with ⟨v, hwx, hv⟩ | ⟨hwx, v, hwz, hv⟩ | ⟨hwx, hwz, hne⟩
          · as_aux_lemma =>

              obtain ⟨c0, c1, c2, f0, f1, f2⟩ := cells3 hs
              obtain ⟨d0, d1, d2, g0, g1, g2⟩ := cells3 ht
              go_wp2_with fail
              refine (writes_any _ _ _ _).mono ?_
              rintro e2 w2 ⟨rfl, hb2⟩
              have hs2 := kept hb2 hs
              have ht2 := kept hb2 ht
              have hbel2 := below_of hb2 hbel
              clear c0 c1 c2 f0 f1 f2 d0 d1 d2 g0 g1 g2 hs ht hbel hb2
              obtain ⟨c0, c1, c2, f0, f1, f2⟩ := cells3 hs2
              obtain ⟨d0, d1, d2, g0, g1, g2⟩ := cells3 ht2
              go_wp2_with fail
              go_roundw
              case rel => exact ⟨k + 1, x, z, by go_num, by omega, hs2, ht2, hbel2, HRx, HRz, HGx, HGz⟩
              case measure => simp [intOf]; omega

          · as_aux_lemma =>

              obtain ⟨c0, c1, c2, f0, f1, f2⟩ := cells3 hs
              obtain ⟨d0, d1, d2, g0, g1, g2⟩ := cells3 ht
              go_wp2_with fail
              refine (writes_any _ _ _ _).mono ?_
              rintro e2 w2 ⟨rfl, hb2⟩
              have hs2 := kept hb2 hs
              have ht2 := kept hb2 ht
              have hbel2 := below_of hb2 hbel
              clear c0 c1 c2 f0 f1 f2 d0 d1 d2 g0 g1 g2 hs ht hbel hb2
              obtain ⟨c0, c1, c2, f0, f1, f2⟩ := cells3 hs2
              obtain ⟨d0, d1, d2, g0, g1, g2⟩ := cells3 ht2
              go_wp2_with fail
              refine (writes_any _ _ _ _).mono ?_
              rintro e3 w3 ⟨rfl, hb3⟩
              have hs3 := kept hb3 hs2
              have ht3 := kept hb3 ht2
              have hbel3 := below_of hb3 hbel2
              clear c0 c1 c2 f0 f1 f2 d0 d1 d2 g0 g1 g2 hs2 ht2 hbel2 hb3
              obtain ⟨c0, c1, c2, f0, f1, f2⟩ := cells3 hs3
              obtain ⟨d0, d1, d2, g0, g1, g2⟩ := cells3 ht3
              go_wp2_with fail
              go_roundw
              case rel => exact ⟨k + 1, x, z, by go_num, by omega, hs3, ht3, hbel3, HRx, HRz, HGx, HGz⟩
              case measure => simp [intOf]; omega

          · as_aux_lemma =>

              obtain ⟨c0, c1, c2, f0, f1, f2⟩ := cells3 hs
              obtain ⟨d0, d1, d2, g0, g1, g2⟩ := cells3 ht
              go_wp2_with fail
              refine (writes_any _ _ _ _).mono ?_
              rintro e2 w2 ⟨rfl, hb2⟩
              have hs2 := kept hb2 hs
              have ht2 := kept hb2 ht
              have hbel2 := below_of hb2 hbel
              clear c0 c1 c2 f0 f1 f2 d0 d1 d2 g0 g1 g2 hs ht hbel hb2
              obtain ⟨c0, c1, c2, f0, f1, f2⟩ := cells3 hs2
              obtain ⟨d0, d1, d2, g0, g1, g2⟩ := cells3 ht2
              go_wp2_with fail
              refine (writes_any _ _ _ _).mono ?_
              rintro e3 w3 ⟨rfl, hb3⟩
              have hs3 := kept hb3 hs2
              have ht3 := kept hb3 ht2
              have hbel3 := below_of hb3 hbel2
              clear c0 c1 c2 f0 f1 f2 d0 d1 d2 g0 g1 g2 hs2 ht2 hbel2 hb3
              obtain ⟨c0, c1, c2, f0, f1, f2⟩ := cells3 hs3
              obtain ⟨d0, d1, d2, g0, g1, g2⟩ := cells3 ht3
              go_wp2_with fail
              go_roundw
              case rel => exact ⟨k + 1, x, z, by go_num, by omega, hs3, ht3, hbel3, HRx, HRz, HGx, HGz⟩
              case measure => simp [intOf]; omega

    · by_cases hinb : k < n2
      · have hk' : k < 300 := by omega
        have hX : wr.heap.size = wr.heap.size := rfl
        clear hX
        go_upto_if 60 with (fail)
        go_cut [] (fun wc => ∃ x z : St, wc.heap[w.heap.size]? = some (.cells #[.int .i64 x.r, .int .i64 x.s, .int .i64 x.g] 23) ∧ wc.heap[w.heap.size + 1]? = some (.cells #[.int .i64 z.r, .int .i64 z.s, .int .i64 z.g] 23) ∧ Below w.heap.size w wc ∧ Hid (rightP x.r x.s x.g) ∧ Hid (rightP z.r z.s z.g) ∧ Hid (x.g % 2 = 0) ∧ Hid (z.g = 0 ∨ z.g % 2 = 1))
        case first =>
          by_cases hlt : k < n2
          · obtain ⟨rfl, hacts⟩ := hl2 (by omega)
            obtain ⟨hc0, hd0, hd1⟩ := hacts.kind k hlt
            have hc1 := hacts.epoch k hlt
            have hbo := hacts.old
            have e0 := (hbel.cell (p := ⟨b2, off2 + k * 2, none⟩) hbo).trans hc0
            have e1 := (hbel.cell (p := ⟨b2, off2 + k * 2 + 1, none⟩) hbo).trans hc1
            generalize D2 k = d at *
            generalize E2 k = ep at *
            clear hc0 hc1 hl hl2 hacts
            by_cases hd1 : d = 1
            · subst hd1

              obtain ⟨c0, c1, c2, f0, f1, f2⟩ := cells3 ht
              have hsz := (Array.getElem?_eq_some_iff.1 hs).1
              have htz := (Array.getElem?_eq_some_iff.1 ht).1
              go_wp2_with fail
              refine (does_any _ _ _ _ _ hd0 _).mono ?_
              rintro e2 w2 ⟨rfl, hb2⟩
              rw [retS_eq]
              clear c0 c1 c2 f0 f1 f2
              obtain ⟨c0, c1, c2, f0, f1, f2⟩ := cells3 (kept hb2 (old_alloc ht))
              go_wp2_with fail
              go_meet
              case rel => exact ⟨x, (doesN z.r z.s z.g 1 (bits .or .i64 ep 1)).1, set3_ne (by omega) (kept hb2 (old_alloc hs)), set3 (kept hb2 (old_alloc ht)), below_set3 (below_of hb2 (hbel.alloc hbel.size _)) (Nat.le_succ _), HRx, does_right (ep := bits .or .i64 ep 1) HRz.out hd0, HGx, odd_next HRz.out hd0 HGz.out (bits_odd ep) (fun _ => rfl)⟩

            · by_cases hd3 : d = 3
              · subst hd3

                obtain ⟨c0, c1, c2, f0, f1, f2⟩ := cells3 ht
                have hsz := (Array.getElem?_eq_some_iff.1 hs).1
                have htz := (Array.getElem?_eq_some_iff.1 ht).1
                go_wp2_with fail
                refine (does_any _ _ _ _ _ hd0 _).mono ?_
                rintro e2 w2 ⟨rfl, hb2⟩
                rw [retS_eq]
                clear c0 c1 c2 f0 f1 f2
                obtain ⟨c0, c1, c2, f0, f1, f2⟩ := cells3 (kept hb2 (old_alloc ht))
                go_wp2_with fail
                go_meet
                case rel => exact ⟨x, (doesN z.r z.s z.g 3 (bits .or .i64 ep 1)).1, set3_ne (by omega) (kept hb2 (old_alloc hs)), set3 (kept hb2 (old_alloc ht)), below_set3 (below_of hb2 (hbel.alloc hbel.size _)) (Nat.le_succ _), HRx, does_right (ep := bits .or .i64 ep 1) HRz.out hd0, HGx, odd_next HRz.out hd0 HGz.out (bits_odd ep) (fun _ => rfl)⟩

              · have h1 : (d == 1) = false := beq_eq_false_iff_ne.2 hd1
                have h3 : (d == 3) = false := beq_eq_false_iff_ne.2 hd3
                have hno : Hid (¬ (d = 1 ∨ d = 3)) := fun h => h.elim hd1 hd3
                clear hd1 hd3

                obtain ⟨c0, c1, c2, f0, f1, f2⟩ := cells3 ht
                have hsz := (Array.getElem?_eq_some_iff.1 hs).1
                have htz := (Array.getElem?_eq_some_iff.1 ht).1
                go_wp2_with fail
                refine (does_any _ _ _ _ _ hd0 _).mono ?_
                rintro e2 w2 ⟨rfl, hb2⟩
                rw [retS_eq]
                clear c0 c1 c2 f0 f1 f2
                obtain ⟨c0, c1, c2, f0, f1, f2⟩ := cells3 (kept hb2 (old_alloc ht))
                go_wp2_with fail
                go_meet
                case rel => exact ⟨x, (doesN z.r z.s z.g d (ep)).1, set3_ne (by omega) (kept hb2 (old_alloc hs)), set3 (kept hb2 (old_alloc ht)), below_set3 (below_of hb2 (hbel.alloc hbel.size _)) (Nat.le_succ _), HRx, does_right (ep := ep) HRz.out hd0, HGx, odd_next HRz.out hd0 HGz.out (bits_odd ep) (fun h => absurd h hno.out)⟩

          · exact absurd hinb hlt
        case rest =>
          clear hs ht hbel HRx HRz HGx HGz x z
          obtain ⟨x, z, hs, ht, hbel, HRx, HRz, HGx, HGz⟩ := hcut
          rcases once_ways HRx.out HRz.out HGx.out HGz.out with ⟨v, hwx, hv⟩ | ⟨hwx, v, hwz, hv⟩ | ⟨hwx, hwz, hne⟩
          · as_aux_lemma =>

              obtain ⟨c0, c1, c2, f0, f1, f2⟩ := cells3 hs
              obtain ⟨d0, d1, d2, g0, g1, g2⟩ := cells3 ht
              go_wp2_with fail
              refine (writes_any _ _ _ _).mono ?_
              rintro e2 w2 ⟨rfl, hb2⟩
              have hs2 := kept hb2 hs
              have ht2 := kept hb2 ht
              have hbel2 := below_of hb2 hbel
              clear c0 c1 c2 f0 f1 f2 d0 d1 d2 g0 g1 g2 hs ht hbel hb2
              obtain ⟨c0, c1, c2, f0, f1, f2⟩ := cells3 hs2
              obtain ⟨d0, d1, d2, g0, g1, g2⟩ := cells3 ht2
              go_wp2_with fail
              go_roundw
              case rel => exact ⟨k + 1, x, z, by go_num, by omega, hs2, ht2, hbel2, HRx, HRz, HGx, HGz⟩
              case measure => simp [intOf]; omega

          · as_aux_lemma =>

              obtain ⟨c0, c1, c2, f0, f1, f2⟩ := cells3 hs
              obtain ⟨d0, d1, d2, g0, g1, g2⟩ := cells3 ht
              go_wp2_with fail
              refine (writes_any _ _ _ _).mono ?_
              rintro e2 w2 ⟨rfl, hb2⟩
              have hs2 := kept hb2 hs
              have ht2 := kept hb2 ht
              have hbel2 := below_of hb2 hbel
              clear c0 c1 c2 f0 f1 f2 d0 d1 d2 g0 g1 g2 hs ht hbel hb2
              obtain ⟨c0, c1, c2, f0, f1, f2⟩ := cells3 hs2
              obtain ⟨d0, d1, d2, g0, g1, g2⟩ := cells3 ht2
              go_wp2_with fail
              refine (writes_any _ _ _ _).mono ?_
              rintro e3 w3 ⟨rfl, hb3⟩
              have hs3 := kept hb3 hs2
              have ht3 := kept hb3 ht2
              have hbel3 := below_of hb3 hbel2
              clear c0 c1 c2 f0 f1 f2 d0 d1 d2 g0 g1 g2 hs2 ht2 hbel2 hb3
              obtain ⟨c0, c1, c2, f0, f1, f2⟩ := cells3 hs3
              obtain ⟨d0, d1, d2, g0, g1, g2⟩ := cells3 ht3
              go_wp2_with fail
              go_roundw
              case rel => exact ⟨k + 1, x, z, by go_num, by omega, hs3, ht3, hbel3, HRx, HRz, HGx, HGz⟩
              case measure => simp [intOf]; omega

          · as_aux_lemma =>

              obtain ⟨c0, c1, c2, f0, f1, f2⟩ := cells3 hs
              obtain ⟨d0, d1, d2, g0, g1, g2⟩ := cells3 ht
              go_wp2_with fail
              refine (writes_any _ _ _ _).mono ?_
              rintro e2 w2 ⟨rfl, hb2⟩
              have hs2 := kept hb2 hs
              have ht2 := kept hb2 ht
              have hbel2 := below_of hb2 hbel
              clear c0 c1 c2 f0 f1 f2 d0 d1 d2 g0 g1 g2 hs ht hbel hb2
              obtain ⟨c0, c1, c2, f0, f1, f2⟩ := cells3 hs2
              obtain ⟨d0, d1, d2, g0, g1, g2⟩ := cells3 ht2
              go_wp2_with fail
              refine (writes_any _ _ _ _).mono ?_
              rintro e3 w3 ⟨rfl, hb3⟩
              have hs3 := kept hb3 hs2
              have ht3 := kept hb3 ht2
              have hbel3 := below_of hb3 hbel2
              clear c0 c1 c2 f0 f1 f2 d0 d1 d2 g0 g1 g2 hs2 ht2 hbel2 hb3
              obtain ⟨c0, c1, c2, f0, f1, f2⟩ := cells3 hs3
              obtain ⟨d0, d1, d2, g0, g1, g2⟩ := cells3 ht3
              go_wp2_with fail
              go_roundw
              case rel => exact ⟨k + 1, x, z, by go_num, by omega, hs3, ht3, hbel3, HRx, HRz, HGx, HGz⟩
              case measure => simp [intOf]; omega

      · go_wp2_with fail
        refine (wakes_any _).mono ?_
        rintro e w4 ⟨rfl, hb4⟩
        go_wp2_with fail
        go_ret
        exact ⟨rfl, below_of hb4 hbel⟩

set_option maxRecDepth 100000 in
set_option maxHeartbeats 800000 in
theorem once_long (a a2 : Option Addr) (n n2 cap cap2 : Nat) (hm : n ≤ maxLen) (hm2 : n2 ≤ maxLen) (h : 300 < n ∨ 300 < n2) (w : World) :
    Calls Try.prog 7 #[.slice a n cap, .slice a2 n2 cap2] w fun e w' => e = .returned (.bool true) ∧ Below w.heap.size w w' := by
  unfold maxLen at hm hm2
  by_cases h1 : 300 < n
  · go_enter Try.func7, Try.ntmps7
    go_wp2_with fail
    refine (wakes_any _).mono ?_
    rintro e w1 ⟨rfl, hb1⟩
    go_wp2_with fail
    go_ret
    exact ⟨rfl, hb1⟩
  · have h2 : 300 < n2 := by omega
    go_enter Try.func7, Try.ntmps7
    go_wp2_with fail
    refine (wakes_any _).mono ?_
    rintro e w1 ⟨rfl, hb1⟩
    go_wp2_with fail
    go_ret
    exact ⟨rfl, hb1⟩

set_option maxRecDepth 100000 in
theorem once_lifted (os : Os) (started : os.Started) (H : Type) (enc : TypeId × Value → H) :
    ReturnsInHanded {} Try.checked os 7 .any (Rows.fenceOnceSpec.pre6 enc Try.prog Try.f7 Rows.fenceOnceRow.domain false) (Rows.fenceOnceSpec.post enc Try.prog Try.f7 false true false false) := by
  refine returnsInHanded_of_change (C := Try.checked) own started (by kernel_rfl) Try.func7
    (ChangeSpec.witness6 (enc := enc) (C := Try.checked) false ⟨#[], #[.slice none 0 0, .slice none 0 0], []⟩ 8 (by kernel_rfl) (by kernel_rfl) (by kernel_rfl) (by kernel_rfl)) ?_
  intro W base args ds gs before hval0 hW hcnd _
  have hval : ∀ (j : Nat) t v, Try.f7.params[j]? = some t → args[j]? = some v → Value.okWide Try.prog W .any base t v := hval0
  have hW' : DataW.Whole enc Try.prog Try.f7.params.toList Rows.fenceOnceSpec.vars false W args.toList ds gs before := hW
  obtain ⟨p, q, hA0, hV, rfl, hfz, hnd⟩ := hW
  have hA : DataW.TrodAll enc Try.prog W 0 (fun _ => true) true Try.f7.params.toList args.toList ds p := hA0
  rw [Try.params7] at hA hval
  obtain ⟨v0, vs0, d0, ds0, p0, q0, hargs, rfl, rfl, h0, r0⟩ := trodAll_cons hA
  obtain ⟨v1, vs1, d1, ds1, p1, q1, rfl, rfl, rfl, h1, r1⟩ := trodAll_cons r0
  obtain ⟨rfl, rfl, rfl⟩ := trodAll_nil r1
  obtain rfl : args = #[v0, v1] := by cases args; simp_all
  obtain ⟨a, n, cap, rfl, hmax, hacts⟩ := open_acts (hval 0 40 v0 rfl rfl) h0
  obtain ⟨a2, n2, cap2, rfl, hmax2, hacts2⟩ := open_acts (hval 1 40 v1 rfl rfl) h1
  have hwalk : Calls Try.prog 7 #[.slice a n cap, .slice a2 n2 cap2] W fun e w' => e = .returned (.bool true) ∧ Below W.heap.size W w' := by
    by_cases h3 : 300 < n ∨ 300 < n2
    · exact once_long a a2 n n2 cap cap2 hmax hmax2 h3 W
    · have f1 : ∃ (b off : Nat) (D E : Nat → Int), 0 < n → a = some ⟨b, off, none⟩ ∧ ActsAt W b off n D E := by
        rcases hacts with rfl | ⟨b, off, D, E, rfl, hcap, hb, hD, hE⟩
        · exact ⟨0, 0, fun _ => 0, fun _ => 0, fun h => by omega⟩
        · exact ⟨b, off, D, E, fun _ => ⟨rfl, hb, by omega, hD, hE⟩⟩
      have f2 : ∃ (b off : Nat) (D E : Nat → Int), 0 < n2 → a2 = some ⟨b, off, none⟩ ∧ ActsAt W b off n2 D E := by
        rcases hacts2 with rfl | ⟨b, off, D, E, rfl, hcap, hb, hD, hE⟩
        · exact ⟨0, 0, fun _ => 0, fun _ => 0, fun h => by omega⟩
        · exact ⟨b, off, D, E, fun _ => ⟨rfl, hb, by omega, hD, hE⟩⟩
      obtain ⟨b, off, D, E, g1⟩ := f1
      obtain ⟨b2, off2, D2, E2, g2⟩ := f2
      exact once_loop a a2 b off n cap D E b2 off2 n2 cap2 D2 E2 W (by omega) (by omega) g1 g2
  refine hwalk.mono fun e W' ⟨he, hb⟩ => ?_
  subst he
  exact ⟨_, rfl, lawPost hW' rfl (by kernel_rfl) Try.underlying4 rfl laidOut (by rw [Try.params7]; intro t ht; simp at ht; subst ht; exact ⟨by kernel_rfl, of_decide_eq_true (by kernel_rfl)⟩) hb⟩

theorem once_holds : Rows.FenceOnceSaid :=
  OpenClaim.holds_of_wide 7 Try.f7 rfl rfl rfl rfl rfl rfl rfl ⟨rfl, rfl, rfl, rfl, rfl⟩ rfl rfl rfl rfl rfl (by kernel_rfl) Try.func7 (by kernel_rfl)
    (of_decide_eq_true (by kernel_rfl)) (by unfold Func.isWrapper; first | (rw [if_pos (by decide +kernel)]; kernel_rfl) | (rw [if_neg (by decide +kernel)]; exact ⟨rfl, rfl⟩))
    (fun os started H enc _ => once_lifted os started H enc)
#print axioms once_holds
end Go.Proofs.Ytjepdlmdemlkmaa
