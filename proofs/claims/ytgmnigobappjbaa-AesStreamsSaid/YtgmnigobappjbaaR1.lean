/- The contracts of the document's times, left, S. Conditions: none. -/
import Derived.Test.YtgmnigobappjbaaB7
import Derived.Test.YtgmnigobappjbaaTm
namespace Go.Proofs.Ytgmnigobappjbaa
open Go.RowKit

theorem w_and1 (b : UInt8) : bits .and .u8 (b.toNat : Int) 1 = ((b.toNat % 2 : Nat) : Int) := by
  rw [show (1 : Int) = ((1 : Nat) : Int) from rfl, u8_and_nat _ _ b.toNat_lt (by decide), Nat.and_one_is_mod]
theorem w_odd (b : UInt8) (h : odd b = true) : bits .and .u8 (b.toNat : Int) 1 = 1 := by
  unfold odd at h
  rw [w_and1, beq_iff_eq.1 h]
  rfl
theorem w_even (b : UInt8) (h : odd b = false) : bits .and .u8 (b.toNat : Int) 1 = 0 := by
  unfold odd at h
  have : ¬ b.toNat % 2 = 1 := by simpa using h
  rw [w_and1, show b.toNat % 2 = 0 from by omega]
  rfl
theorem w_hi (a : UInt8) (h : 128 ≤ a.toNat) : bits .xor .u8 ((a.toNat : Int) * 2 % 256) 27 = ((twi a).toNat : Int) := by
  rw [← w_twi, show (a.toNat : Int) / 128 * 27 % 256 = 27 from by have := a.toNat_lt; omega]
theorem w_lo (a : UInt8) (h : a.toNat < 128) : (a.toNat : Int) * 2 = ((twi a).toNat : Int) := by
  have e : twi a = by8 (a.toNat * 2) := by
    unfold twi
    rw [show a.toNat / 128 * 27 % 256 = 0 from by omega, show a.toNat * 2 % 256 = a.toNat * 2 from by omega]
    exact UInt8.xor_zero
  rw [e, by8_toNat (by omega)]
  omega
theorem w_mod (a : UInt8) : (a.toNat : Int) % 256 = (a.toNat : Int) := by
  have := a.toNat_lt
  omega
theorem w_half (b : UInt8) : (b.toNat : Int) / 2 = ((half b).toNat : Int) := by
  have := b.toNat_lt
  rw [half, by8_toNat (by omega)]
  omega

set_option maxRecDepth 100000 in
set_option maxHeartbeats 1600000 in
theorem times_any (A B : UInt8) (w : World) : Calls Try.prog 29 #[byt A, byt B] w fun e w' => e = .returned (byt (tim A B)) ∧ w = w' := by
  go_enter Try.func29, Try.ntmps29
  go_wp2_with fail
  go_loop [0, 1, 5, 6, 7] (fun a0 a1 a5 a6 a7 => ∃ (k : Nat) (a b n : UInt8), k ≤ 8 ∧ a6 = .int .i64 k ∧ a0 = byt a ∧ a1 = byt b ∧ a5 = byt n ∧ Hid (tmF (8 - k) n a b = tim A B)) (fun _ _ _ a6 _ => 8 - (intOf a6).toNat)
  case atStart => exact ⟨0, A, B, 0, by omega, rfl, rfl, rfl, rfl, rfl⟩
  case round =>
    obtain ⟨k, a, b, n, hk, rfl, rfl, rfl, rfl, hT⟩ := hrel
    by_cases hlt : k < 8
    · have hx := w_xor
      have hh := w_half
      have hT2 : Hid (tmF (8 - (k + 1)) (if odd b then xr n a else n) (twi a) (half b) = tim A B) := by
        have h := hT.out
        rw [show 8 - k = (8 - (k + 1)) + 1 from by omega] at h
        exact h
      rcases ho : odd b with _ | _
      · have h1 := w_even b ho
        rw [ho] at hT2
        clear ho hT
        by_cases hhi : 128 ≤ a.toNat
        · have h2 := w_hi a hhi
          go_wp2_with fail
          go_round
          case rel => exact ⟨k + 1, _, _, _, by omega, by go_num, rfl, congrArg (Value.int .u8) (w_mod (half b)), rfl, hT2⟩
          case measure => simp [intOf]; omega
        · have h2 := w_lo a (by omega)
          go_wp2_with fail
          go_round
          case rel => exact ⟨k + 1, _, _, _, by omega, by go_num, rfl, congrArg (Value.int .u8) (w_mod (half b)), rfl, hT2⟩
          case measure => simp [intOf]; omega
      · have h1 := w_odd b ho
        rw [ho] at hT2
        clear ho hT
        by_cases hhi : 128 ≤ a.toNat
        · have h2 := w_hi a hhi
          go_wp2_with fail
          go_round
          case rel => exact ⟨k + 1, _, _, _, by omega, by go_num, rfl, congrArg (Value.int .u8) (w_mod (half b)), rfl, hT2⟩
          case measure => simp [intOf]; omega
        · have h2 := w_lo a (by omega)
          go_wp2_with fail
          go_round
          case rel => exact ⟨k + 1, _, _, _, by omega, by go_num, rfl, congrArg (Value.int .u8) (w_mod (half b)), rfl, hT2⟩
          case measure => simp [intOf]; omega
    · obtain rfl : k = 8 := by omega
      have hT2 := hT.out
      clear hT
      replace hT2 : Hid (n = tim A B) := hT2
      go_wp2_with fail
      go_ret
      exact ⟨by rw [← hT2.out]; rfl, rfl⟩

theorem left1_any (b : UInt8) (w : World) : Calls Try.prog 32 #[byt b, .int .u64 1] w fun e w' => e = .returned (byt (rotm b 2 128)) ∧ w = w' := by
  go_enter Try.func32, Try.ntmps32
  go_wp2
  go_ret
  exact ⟨ret_int (w_rot b 2 128), rfl⟩
theorem left2_any (b : UInt8) (w : World) : Calls Try.prog 32 #[byt b, .int .u64 2] w fun e w' => e = .returned (byt (rotm b 4 64)) ∧ w = w' := by
  go_enter Try.func32, Try.ntmps32
  go_wp2
  go_ret
  exact ⟨ret_int (w_rot b 4 64), rfl⟩
theorem left3_any (b : UInt8) (w : World) : Calls Try.prog 32 #[byt b, .int .u64 3] w fun e w' => e = .returned (byt (rotm b 8 32)) ∧ w = w' := by
  go_enter Try.func32, Try.ntmps32
  go_wp2
  go_ret
  exact ⟨ret_int (w_rot b 8 32), rfl⟩
theorem left4_any (b : UInt8) (w : World) : Calls Try.prog 32 #[byt b, .int .u64 4] w fun e w' => e = .returned (byt (rotm b 16 16)) ∧ w = w' := by
  go_enter Try.func32, Try.ntmps32
  go_wp2
  go_ret
  exact ⟨ret_int (w_rot b 16 16), rfl⟩

set_option maxRecDepth 100000 in
set_option maxHeartbeats 1600000 in
theorem S_any (B : UInt8) (w : World) : Calls Try.prog 27 #[byt B] w fun e w' => e = .returned (byt (sx B)) ∧ w = w' := by
  go_enter Try.func27, Try.ntmps27
  go_wp2_with fail
  go_loop [3, 4] (fun a3 a4 => ∃ k : Nat, 1 ≤ k ∧ k ≤ 256 ∧ a4 = .int .i64 k ∧ a3 = byt (mN B k)) (fun _ a4 => 256 - (intOf a4).toNat)
  case atStart => exact ⟨1, by omega, by omega, rfl, rfl⟩
  case round =>
    obtain ⟨k, hk1, hk, rfl, rfl⟩ := hrel
    by_cases hlt : k < 256
    · have hkk := hide (w_nat hlt)
      have hs : mN B (k + 1) = if 1 ≤ k ∧ tim B (by8 k) = 1 then by8 k else mN B k := rfl
      have hv : Value.int .u8 (k : Int) = byt (by8 k) := congrArg (Value.int .u8) (w_nat hlt)
      replace hs := hide hs
      replace hv := hide hv
      go_wp2_with fail
      rw [hv.out]
      refine (times_any _ _ _).mono ?_
      rintro e w' ⟨rfl, rfl⟩
      by_cases ht : tim B (by8 k) = 1
      · have hm : mN B (k + 1) = by8 k := by rw [hs.out, if_pos ⟨hk1, ht⟩]
        replace hm := hide hm
        rw [ht]
        clear ht
        go_wp2_with fail
        go_round
        case rel => exact ⟨k + 1, by omega, by omega, by go_num, by rw [hm.out]; first | rfl | exact hv.out⟩
        case measure => simp [intOf]; omega
      · have hm : mN B (k + 1) = mN B k := by rw [hs.out, if_neg (fun h => ht h.2)]
        have hne : (((tim B (by8 k)).toNat : Int) == 1) = false := by
          rw [beq_eq_false_iff_ne]
          exact fun h => ht (UInt8.toNat_inj.1 (by rw [show (1 : UInt8).toNat = 1 from rfl]; omega))
        replace hm := hide hm
        clear ht
        go_wp2_with fail
        go_round
        case rel => exact ⟨k + 1, by omega, by omega, by go_num, by rw [hm.out]⟩
        case measure => simp [intOf]; omega
    · obtain rfl : k = 256 := by omega
      have hx := w_xor
      have hx9 := w_99
      have ha := hide (aff_mirror B)
      generalize mN B 256 = q at ha ⊢
      go_wp2_with fail
      refine (left1_any _ _).mono ?_
      rintro e w' ⟨rfl, rfl⟩
      go_wp2_with fail
      refine (left2_any _ _).mono ?_
      rintro e w' ⟨rfl, rfl⟩
      go_wp2_with fail
      refine (left3_any _ _).mono ?_
      rintro e w' ⟨rfl, rfl⟩
      go_wp2_with fail
      refine (left4_any _ _).mono ?_
      rintro e w' ⟨rfl, rfl⟩
      go_wp2_with fail
      go_ret
      exact ⟨by rw [← ha.out]; rfl, rfl⟩

end Go.Proofs.Ytgmnigobappjbaa
