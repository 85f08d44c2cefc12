/- The contract of Kind. Conditions: none. -/
import Derived.Test.YtgjdkdfgfbonfaaN3
namespace Go.Proofs.Ytgjdkdfgfbonfaa
open Go.RowKit

theorem kindW_step {W : Nat → Int} {f k : Nat} {w : Int} (h : ¬ w < W k) : kindW W (f + 1) k w = kindW W f (k + 1) (w - W k) := by
  simp [kindW, h]
theorem kindW_here {W : Nat → Int} {f k : Nat} {w : Int} (h : w < W k) : kindW W (f + 1) k w = k := by
  simp [kindW, h]

set_option maxHeartbeats 800000 in
theorem kind_any (C : Array Value) (M : Mx) (n : Int) (hn : n ≤ 9223372036854775807) (w : World) (hM : MixAt w C M) : Calls Try.prog 17 #[.agg C, .int .i64 n] w fun e w' => e = .returned (.int .u8 (kindN M n)) ∧ Below w.heap.size w w' := by
  obtain ⟨vp, vv, hC, hp, hv⟩ := hM.ex
  have h18 : 0 + 18 ≤ C.size := by have := hC.size; omega
  have h23 : (Try.prog.info? 25).map (·.size) = some C.size := by rw [hC.size]; exact size25
  have hnew : (w.alloc (.cells C 25)).heap[w.heap.size]? = some (.cells C 25) := new_alloc
  go_enter Try.func17, Try.ntmps17
  go_wp2_with (with_reducible refine wpList_load_row rfl 25 _ rfl w.heap.size ?_ 25 C (0, 0) _ hnew Try.underlying25 rfl h23 ?_; rotate_left)
  rotate_left
  · exact rfl
  refine (right_any C M _ (hM.below ((Below.refl _ _).alloc (Nat.le_refl _) _))).mono ?_
  rintro e w1 ⟨rfl, hb⟩
  have hbl : Below w.heap.size w w1 := below_of hb ((Below.refl _ _).alloc (Nat.le_refl _) _)
  have K1 := kept hb hnew
  clear hb hnew
  rcases hr : rightB M with _ | _
  · go_wp2_with fail
    go_ret
    exact ⟨ret_int (by simp [kindN, hr]), hbl⟩
  by_cases h0 : n < 0
  · go_wp2_with fail
    go_ret
    exact ⟨ret_int (by rw [kindN, hr, decide_eq_false (by omega)]; rfl), hbl⟩
  have hkn : kindN M n = kindW M.W 18 0 n := by rw [kindN, hr, decide_eq_true (by omega)]; rfl
  have hok : ∀ k, k < 18 → 0 ≤ M.W k ∧ M.W k ≤ 1000 := (okW_iff _).1 (by simp only [rightB, Bool.and_eq_true] at hr; exact hr.1.1.1.1.1.1.1)
  go_wp2_with (with_reducible refine wpList_load_part rfl 22 _ rfl w.heap.size 0 18 ?_ 25 C (0, 0) _ K1 Try.underlying22 rfl size22 h18 ?_; rotate_left)
  rotate_left
  · exact rfl
  go_loopw [1, 16] (fun x i wr => ∃ (k : Nat) (m : Int), k ≤ 18 ∧ i = .int .i64 k ∧ x = .int .i64 m ∧ 0 ≤ m ∧ m ≤ n ∧ kindW M.W 18 0 n = kindW M.W (18 - k) k m ∧ wr = w1) (fun _ i _ => 18 - (intOf i).toNat)
  case atStart => exact ⟨0, n, by omega, rfl, rfl, by omega, by omega, rfl, rfl⟩
  case round =>
    obtain ⟨k, m, hk, rfl, rfl, hm0, hmn, hkw, rfl⟩ := hrel
    by_cases hlt : k < 18
    · have ix := index22 hC hlt
      have hw := hok k hlt
      obtain ⟨f, hf⟩ : ∃ f, 18 - k = f + 1 := ⟨17 - k, by omega⟩
      by_cases hb : m < M.W k
      · go_wp2_with fail
        go_ret
        refine ⟨ret_int ?_, hbl⟩
        rw [hkn, hkw, hf, kindW_here hb]
      · go_wp2_with fail
        go_roundw
        case rel => exact ⟨k + 1, m - M.W k, by omega, by go_num, by go_num, by omega, by omega, by rw [hkw, hf, kindW_step hb, show 18 - (k + 1) = f by omega], by trivial⟩
        case measure => simp [intOf]; omega
    · obtain rfl : k = 18 := by omega
      go_wp2_with fail
      go_ret
      exact ⟨ret_int (by rw [hkn, hkw]; rfl), hbl⟩

end Go.Proofs.Ytgjdkdfgfbonfaa
