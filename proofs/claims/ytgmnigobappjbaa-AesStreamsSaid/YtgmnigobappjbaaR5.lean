/- The contract of the document's one. Conditions: none. -/
import Derived.Test.YtgmnigobappjbaaOm
import Derived.Test.YtgmnigobappjbaaR4
import Derived.Test.YtgmnigobappjbaaC1
import Derived.BigQuiet
namespace Go.Proofs.Ytgmnigobappjbaa
open Go.RowKit

/-- The numbers of one byte of the turn. -/
structure OneQ (row col : Nat) : Prop where
  q1 : IntKind.i64.wrap (4 * (col : Int)) = 4 * (col : Int)
  q2 : IntKind.i64.wrap (4 * (col : Int) + (row : Int)) = 4 * (col : Int) + (row : Int)
  q3 : IntKind.i64.wrap ((col : Int) + (row : Int)) = (col : Int) + (row : Int)
  q4 : ((col : Int) + (row : Int)).tmod 4 = ((col : Int) + (row : Int)) % 4
  q5 : IntKind.i64.wrap (((col : Int) + (row : Int)) % 4) = ((col : Int) + (row : Int)) % 4
  q6 : IntKind.i64.wrap (4 * (((col : Int) + (row : Int)) % 4)) = 4 * (((col : Int) + (row : Int)) % 4)
  q7 : IntKind.i64.wrap (4 * (((col : Int) + (row : Int)) % 4) + (row : Int)) = 4 * (((col : Int) + (row : Int)) % 4) + (row : Int)
  n1 : (4 * (((col : Int) + (row : Int)) % 4) + (row : Int)).toNat = 4 * ((col + row) % 4) + row
  n2 : (4 * (col : Int) + (row : Int)).toNat = 4 * col + row
  m1 : 0 ≤ 4 * (col : Int) + (row : Int)
  m2 : 4 * (col : Int) + (row : Int) < 16
  m3 : 0 ≤ 4 * (((col : Int) + (row : Int)) % 4) + (row : Int)
  m4 : 4 * (((col : Int) + (row : Int)) % 4) + (row : Int) < 16
theorem oneQ (row col : Nat) (hr : row < 4) (hc : col < 4) : OneQ row col :=
  ⟨IntWalk.i64_in _ (by omega), IntWalk.i64_in _ (by omega), IntWalk.i64_in _ (by omega), Int.tmod_eq_emod_of_nonneg (by omega), IntWalk.i64_in _ (by omega), IntWalk.i64_in _ (by omega), IntWalk.i64_in _ (by omega), (by rw [show 4 * (((col : Int) + (row : Int)) % 4) + (row : Int) = ((4 * ((col + row) % 4) + row : Nat) : Int) from by simp, Int.toNat_natCast]), by omega, by omega, by omega, by omega, by omega⟩

set_option maxRecDepth 100000 in
set_option maxHeartbeats 8000000 in
theorem one_any (key y : Nat → UInt8) (gw cw gs cs gi ci : Nat) (H K : Nat → Nat) (w : World) (hW : WordsAt w gw 60 H K (wK key)) (hS : BytesAt w gs 256 sN) (hI : BytesIn w gi 16 y) :
    Calls Try.prog 20 #[.slice (some ⟨gw, 0, none⟩) 60 cw, .slice (some ⟨gs, 0, none⟩) 256 cs, .slice (some ⟨gi, 0, none⟩) 16 ci] w fun e w' => ∃ g cap, e = .returned (.slice (some ⟨g, 0, none⟩) 16 cap) ∧ w.heap.size ≤ g ∧ BytesAt w' g 16 (stN (cfN key 240) y 14) ∧ Below w.heap.size w w' := by
  go_enter Try.func20, Try.ntmps20
  go_wp2_with fail
  refine (with_any gi ci gw cw 0 H K (wK key) y (by omega) _ hI hW).mono ?_
  rintro e w1 ⟨gb, cb, rfl, hgb, hB, hb⟩
  rw [add_wK key y (by omega)] at hB
  go_wp2_with fail
  go_loopw [7, 8, 9, 10, 11, 12, 13, 14, 15, 16, 17] (fun a7 a8 a9 a10 a11 a12 a13 a14 a15 a16 a17 wr => ∃ r : Nat, r ≤ 14 ∧ a8 = .int .i64 ((r : Int) + 1) ∧ (∃ gb cb, a7 = .slice (some ⟨gb, 0, none⟩) 16 cb ∧ w.heap.size ≤ gb ∧ BytesAt wr gb 16 (stN (cfN key 240) y r)) ∧ Below w.heap.size w wr) (fun _ a8 _ _ _ _ _ _ _ _ _ _ => 15 - (intOf a8).toNat)
  case atStart => exact ⟨0, by omega, rfl, ⟨gb, cb, rfl, hgb, hB⟩, hb⟩
  case round =>
    clear hgb hB hb
    obtain ⟨r, hr, rfl, ⟨gb, cb, rfl, hgb, hB⟩, hb⟩ := hrel
    obtain ⟨wo, rfl⟩ : ∃ wo : World, wo = wr := ⟨_, rfl⟩
    obtain ⟨x, hx⟩ : ∃ x, stN (cfN key 240) y r = x := ⟨_, rfl⟩
    rw [hx] at hB
    replace hx := hide hx
    by_cases hlt : r < 14
    · have hX := hB
      have hr1 : (r : Int) + 1 ≤ 14 := by omega
      have hS0 := hS.below hb
      have hW0 := hW.below hb
      have hmk : (Instr.makeSlice 30 (.int .i64 16) (.int .i64 16)).run Try.prog wo = .ok (.slice (some ⟨wo.heap.size, 0, none⟩) 16 16) (wo.alloc (.cells (arr 16 fun _ => 0) 5)) := by
        rw [← made_arr]
        exact run_make_row' (P := Try.prog) 30 5 (.int .u8 0) 1 Try.underlying30 info5c rfl .i64 .i64 16 (by omega) (by omega) wo
      have hT : BytesAt (wo.alloc (.cells (arr 16 fun _ => 0) 5)) wo.heap.size 16 (fun _ => 0) := ⟨_, new_alloc, by rw [arr_size]; omega, fun j hj => arr_at hj⟩
      have gB : Below wo.heap.size wo (wo.alloc (.cells (arr 16 fun _ => 0) 5)) := (Below.refl _ _).alloc (Nat.le_refl _) _
      clear hB
      go_wp2_with fail
      clear hmk
      go_loopw [10, 11] (fun a10 a11 wr => ∃ row : Nat, row ≤ 4 ∧ a10 = .int .i64 row ∧ BytesAt wr wo.heap.size 16 (fillN (cfN key 240) x row 0) ∧ Below wo.heap.size wo wr) (fun a10 _ _ => 4 - (intOf a10).toNat)
      case atStart => exact ⟨0, by omega, rfl, hT.ext fun j hj => fill_none _ x j, gB⟩
      case round =>
        clear hT gB
        obtain ⟨row, hrow, rfl, hT, gB⟩ := hrel
        by_cases hr4 : row < 4
        · go_wp2_with fail
          go_loopw [11] (fun a11 wr => ∃ col : Nat, col ≤ 4 ∧ a11 = .int .i64 col ∧ BytesAt wr wo.heap.size 16 (fillN (cfN key 240) x row col) ∧ Below wo.heap.size wo wr) (fun a11 _ => 4 - (intOf a11).toNat)
          case atStart => exact ⟨0, by omega, rfl, hT, gB⟩
          case round =>
            clear hT gB
            obtain ⟨col, hcol, rfl, hT, gB⟩ := hrel
            by_cases hc4 : col < 4
            · have q := oneQ row col hr4 hc4
              have q1 := q.q1
              have q2 := q.q2
              have q3 := q.q3
              have q4 := q.q4
              have q5 := q.q5
              have q6 := q.q6
              have q7 := q.q7
              have n1 := q.n1
              have n2 := q.n2
              have m1 := q.m1
              have m2 := q.m2
              have m3 := q.m3
              have m4 := q.m4
              clear q
              have c0 := (hX.below gB).cell (j := 4 * ((col + row) % 4) + row) (by omega)
              have hp0 := (x (4 * ((col + row) % 4) + row)).toNat_lt
              have c1 : wr.cell? ⟨gs, (x (4 * ((col + row) % 4) + row)).toNat, none⟩ = some (byt (sN (x (4 * ((col + row) % 4) + row)).toNat)) := (hS0.below gB).cell hp0
              have c2 := hT.cell (j := 4 * col + row) (by omega)
              have f0 := hT.free (4 * col + row)
              go_wp2_with fail
              go_roundw
              case rel =>
                have hnew : BytesAt (wr.setCell ⟨wo.heap.size, 4 * col + row, none⟩ (byt (sN (x (4 * ((col + row) % 4) + row)).toNat))) wo.heap.size 16 (fillN (cfN key 240) x row (col + 1)) := (hT.set _).ext fun j hj => by rw [← sub_of key x hr4 hc4, fill_step _ x col hr4]
                first | exact ⟨col + 1, by omega, by go_num, hnew, gB.setCell (Nat.le_refl _) _⟩ | ((repeat apply Exists.intro); exact ⟨⟨col + 1, by omega, by go_num, hnew, gB.setCell (Nat.le_refl _) _⟩, rfl⟩)
              case measure => simp [intOf]; omega
            · obtain rfl : col = 4 := by omega
              go_wp2_with fail
              go_roundw
              case rel =>
                first | exact ⟨row + 1, by omega, by go_num, hT.ext fun j hj => fill_row _ x row hj, gB⟩ | ((repeat apply Exists.intro); exact ⟨⟨row + 1, by omega, by go_num, hT.ext fun j hj => fill_row _ x row hj, gB⟩, rfl⟩)
              case measure => simp [intOf]; omega
        · obtain rfl : row = 4 := by omega
          replace hT : BytesAt wr wo.heap.size 16 (subN (cfN key 240) x 16) := hT.ext fun j hj => fill_all _ x hj
          by_cases h13 : r < 13
          · have hr2 : (r : Int) + 1 < 14 := by omega
            obtain ⟨wt, rfl⟩ : ∃ wt : World, wt = wr := ⟨_, rfl⟩
            obtain ⟨T, hTx⟩ : ∃ T, subN (cfN key 240) x 16 = T := ⟨_, rfl⟩
            rw [hTx] at hT
            replace hTx := hide hTx
            have hmk : (Instr.makeSlice 30 (.int .i64 16) (.int .i64 16)).run Try.prog wt = .ok (.slice (some ⟨wt.heap.size, 0, none⟩) 16 16) (wt.alloc (.cells (arr 16 fun _ => 0) 5)) := by
              rw [← made_arr]
              exact run_make_row' (P := Try.prog) 30 5 (.int .u8 0) 1 Try.underlying30 info5c rfl .i64 .i64 16 (by omega) (by omega) wt
            have hM : BytesAt (wt.alloc (.cells (arr 16 fun _ => 0) 5)) wt.heap.size 16 (mixN T 0) := ⟨_, new_alloc, by rw [arr_size]; omega, fun j hj => arr_at hj⟩
            have gM : Below wt.heap.size wt (wt.alloc (.cells (arr 16 fun _ => 0) 5)) := (Below.refl _ _).alloc (Nat.le_refl _) _
            go_wp2_with fail
            clear hmk
            go_loopw [13, 14, 15, 16, 17] (fun a13 a14 a15 a16 a17 wr => ∃ q : Nat, q ≤ 4 ∧ a13 = .int .i64 (4 * (q : Int)) ∧ BytesAt wr wt.heap.size 16 (mixN T (4 * q)) ∧ Below wt.heap.size wt wr) (fun a13 _ _ _ _ _ => 16 - (intOf a13).toNat)
            case atStart => exact ⟨0, by omega, rfl, hM, gM⟩
            case round =>
              clear hM gM
              obtain ⟨q, hq, rfl, hM, gM⟩ := hrel
              by_cases hq4 : q < 4
              · skip
                have m0 : 0 ≤ 4 * (q : Int) := by omega
                have m1 : 4 * (q : Int) < 16 := by omega
                have n0 : (4 * (q : Int)).toNat = 4 * q := by omega
                have a1 : 0 ≤ 4 * (q : Int) + 1 := by omega
                have b1 : 4 * (q : Int) + 1 < 16 := by omega
                have n1 : (4 * (q : Int) + 1).toNat = 4 * q + 1 := by omega
                have v1 : IntKind.i64.wrap (4 * (q : Int) + 1) = 4 * (q : Int) + 1 := IntWalk.i64_in _ (by omega)
                have a2 : 0 ≤ 4 * (q : Int) + 2 := by omega
                have b2 : 4 * (q : Int) + 2 < 16 := by omega
                have n2 : (4 * (q : Int) + 2).toNat = 4 * q + 2 := by omega
                have v2 : IntKind.i64.wrap (4 * (q : Int) + 2) = 4 * (q : Int) + 2 := IntWalk.i64_in _ (by omega)
                have a3 : 0 ≤ 4 * (q : Int) + 3 := by omega
                have b3 : 4 * (q : Int) + 3 < 16 := by omega
                have n3 : (4 * (q : Int) + 3).toNat = 4 * q + 3 := by omega
                have v3 : IntKind.i64.wrap (4 * (q : Int) + 3) = 4 * (q : Int) + 3 := IntWalk.i64_in _ (by omega)
                have v4 : IntKind.i64.wrap (4 * (q : Int) + 4) = 4 * (q : Int) + 4 := IntWalk.i64_in _ (by omega)
                have c0 := (hT.below gM).cell (j := 4 * q) (by omega)
                have c1 := (hT.below gM).cell (j := 4 * q + 1) (by omega)
                have c2 := (hT.below gM).cell (j := 4 * q + 2) (by omega)
                have c3 := (hT.below gM).cell (j := 4 * q + 3) (by omega)
                go_wp2_with fail
                go_quiet (fail)
                clear c0 c1 c2 c3
                go_wp2_with fail
                have hM0 : BytesAt (wr.drewN nq) wt.heap.size 16 (mixN T (4 * q)) := hM.same rfl
                have gM0 : Below wt.heap.size wt (wr.drewN nq) := gM.trans ⟨rfl, rfl, rfl, Nat.le_refl _, fun _ _ => rfl⟩
                clear hM gM
                generalize wr.drewN nq = u0 at hM0 gM0 ⊢
                have hX := w_xor
                have e0 := hM0.cell (j := 4 * q) (by omega)
                have f0 := hM0.free (4 * q)
                refine (times_any (T (4 * q)) 2 _).mono ?_
                rintro e w5 ⟨rfl, rfl⟩
                go_wp2_with fail
                refine (times_any (T (4 * q + 1)) 3 _).mono ?_
                rintro e w5 ⟨rfl, rfl⟩
                go_wp2_with fail
                clear e0 f0 hX
                rw [one_m0]
                have hM1 : BytesAt (u0.setCell ⟨wt.heap.size, 4 * q, none⟩ (Value.int .u8 ((mixAt T (4 * q)).toNat : Int))) wt.heap.size 16 (mixN T (4 * q + 1)) := by
                  have h := hM0.set (i := 4 * q) (mixAt T (4 * q))
                  rw [mixN_step] at h
                  exact h
                have gM1 := gM0.setCell (Nat.le_refl _) (p := ⟨wt.heap.size, 4 * q, none⟩) (Value.int .u8 ((mixAt T (4 * q)).toNat : Int))
                generalize World.setCell u0 ⟨wt.heap.size, 4 * q, none⟩ (Value.int .u8 ((mixAt T (4 * q)).toNat : Int)) = u1 at hM1 gM1 ⊢
                clear hM0 gM0
                have hX := w_xor
                have e1 := hM1.cell (j := 4 * q + 1) (by omega)
                have f1 := hM1.free (4 * q + 1)
                refine (times_any (T (4 * q + 1)) 2 _).mono ?_
                rintro e w5 ⟨rfl, rfl⟩
                go_wp2_with fail
                refine (times_any (T (4 * q + 2)) 3 _).mono ?_
                rintro e w5 ⟨rfl, rfl⟩
                go_wp2_with fail
                clear e1 f1 hX
                rw [one_m1]
                have hM2 : BytesAt (u1.setCell ⟨wt.heap.size, 4 * q + 1, none⟩ (Value.int .u8 ((mixAt T (4 * q + 1)).toNat : Int))) wt.heap.size 16 (mixN T (4 * q + 2)) := by
                  have h := hM1.set (i := 4 * q + 1) (mixAt T (4 * q + 1))
                  rw [mixN_step] at h
                  exact h
                have gM2 := gM1.setCell (Nat.le_refl _) (p := ⟨wt.heap.size, 4 * q + 1, none⟩) (Value.int .u8 ((mixAt T (4 * q + 1)).toNat : Int))
                generalize World.setCell u1 ⟨wt.heap.size, 4 * q + 1, none⟩ (Value.int .u8 ((mixAt T (4 * q + 1)).toNat : Int)) = u2 at hM2 gM2 ⊢
                clear hM1 gM1
                have hX := w_xor
                have e2 := hM2.cell (j := 4 * q + 2) (by omega)
                have f2 := hM2.free (4 * q + 2)
                refine (times_any (T (4 * q + 2)) 2 _).mono ?_
                rintro e w5 ⟨rfl, rfl⟩
                go_wp2_with fail
                refine (times_any (T (4 * q + 3)) 3 _).mono ?_
                rintro e w5 ⟨rfl, rfl⟩
                go_wp2_with fail
                clear e2 f2 hX
                rw [one_m2]
                have hM3 : BytesAt (u2.setCell ⟨wt.heap.size, 4 * q + 2, none⟩ (Value.int .u8 ((mixAt T (4 * q + 2)).toNat : Int))) wt.heap.size 16 (mixN T (4 * q + 3)) := by
                  have h := hM2.set (i := 4 * q + 2) (mixAt T (4 * q + 2))
                  rw [mixN_step] at h
                  exact h
                have gM3 := gM2.setCell (Nat.le_refl _) (p := ⟨wt.heap.size, 4 * q + 2, none⟩) (Value.int .u8 ((mixAt T (4 * q + 2)).toNat : Int))
                generalize World.setCell u2 ⟨wt.heap.size, 4 * q + 2, none⟩ (Value.int .u8 ((mixAt T (4 * q + 2)).toNat : Int)) = u3 at hM3 gM3 ⊢
                clear hM2 gM2
                have hX := w_xor
                have e3 := hM3.cell (j := 4 * q + 3) (by omega)
                have f3 := hM3.free (4 * q + 3)
                refine (times_any (T (4 * q)) 3 _).mono ?_
                rintro e w5 ⟨rfl, rfl⟩
                go_wp2_with fail
                refine (times_any (T (4 * q + 3)) 2 _).mono ?_
                rintro e w5 ⟨rfl, rfl⟩
                go_wp2_with fail
                clear e3 f3 hX
                rw [one_m3]
                have hM4 : BytesAt (u3.setCell ⟨wt.heap.size, 4 * q + 3, none⟩ (Value.int .u8 ((mixAt T (4 * q + 3)).toNat : Int))) wt.heap.size 16 (mixN T (4 * q + 4)) := by
                  have h := hM3.set (i := 4 * q + 3) (mixAt T (4 * q + 3))
                  rw [mixN_step] at h
                  exact h
                have gM4 := gM3.setCell (Nat.le_refl _) (p := ⟨wt.heap.size, 4 * q + 3, none⟩) (Value.int .u8 ((mixAt T (4 * q + 3)).toNat : Int))
                generalize World.setCell u3 ⟨wt.heap.size, 4 * q + 3, none⟩ (Value.int .u8 ((mixAt T (4 * q + 3)).toNat : Int)) = u4 at hM4 gM4 ⊢
                clear hM3 gM3
                go_roundw
                case rel => first | exact ⟨q + 1, by omega, by first | go_num | (congr 1; push_cast; omega), hM4, gM4⟩ | ((repeat apply Exists.intro); exact ⟨⟨q + 1, by omega, by first | go_num | (congr 1; push_cast; omega), hM4, gM4⟩, rfl⟩)
                case measure => simp [intOf]; omega
              · obtain rfl : q = 4 := by omega
                rw [show 4 * ((4 : Nat) : Int) = 16 from rfl]
                have gB2 := below_of gM gB
                go_wp2_with fail
                refine (with_any wt.heap.size 16 gw cw (r + 1) H K (wK key) (mixN T 16) (by omega) _ hM.in_ (hW0.below gB2)).mono ?_
                rintro e w4 ⟨gn, cn, rfl, hgn, hN, hbn⟩
                rw [add_wK key _ (by omega), ← hTx.out, ← hx.out, st_mix _ _ h13] at hN
                have hbf := below_of hbn (below_of gB2 hb)
                have hgn2 : w.heap.size ≤ gn := by
                  have h1 := gB2.size
                  have h2 := hb.size
                  omega
                clear hbn hM
                go_wp2_with fail
                go_roundw
                case rel => first | exact ⟨r + 1, by omega, by go_num, ⟨gn, cn, rfl, hgn2, hN⟩, hbf⟩ | ((repeat apply Exists.intro); exact ⟨⟨r + 1, by omega, by go_num, ⟨gn, cn, rfl, hgn2, hN⟩, hbf⟩, rfl⟩)
                case measure => simp [intOf]; omega
          · have hr2 : ¬ (r : Int) + 1 < 14 := by omega
            go_wp2_with fail
            refine (with_any wo.heap.size 16 gw cw (r + 1) H K (wK key) (subN (cfN key 240) x 16) (by omega) _ hT.in_ (hW0.below gB)).mono ?_
            rintro e w4 ⟨gn, cn, rfl, hgn, hN, hbn⟩
            rw [add_wK key _ (by omega), ← hx.out, st_last _ _ h13] at hN
            have hbf := below_of hbn (below_of gB hb)
            have hgn2 : w.heap.size ≤ gn := by
              have h1 := gB.size
              have h2 := hb.size
              omega
            clear hbn hT
            go_wp2_with fail
            go_roundw
            case rel => first | exact ⟨r + 1, by omega, by go_num, ⟨gn, cn, rfl, hgn2, hN⟩, hbf⟩ | ((repeat apply Exists.intro); exact ⟨⟨r + 1, by omega, by go_num, ⟨gn, cn, rfl, hgn2, hN⟩, hbf⟩, rfl⟩)
            case measure => simp [intOf]; omega
    · obtain rfl : r = 14 := by omega
      rw [← hx.out] at hB
      go_wp2_with fail
      go_ret
      exact ⟨gb, cb, rfl, hgb, hB, hb⟩

end Go.Proofs.Ytgmnigobappjbaa
