/- The chapter's examples of aes. Conditions: none. -/
import Derived.Test.YtgmnigobappjbaaC1
namespace Go.Proofs.Ytgmnigobappjbaa
open Go.RowKit

theorem build23 : Try.prog.built 23 [] = some (arr 32 fun _ => 0) := by kernel_rfl
theorem build24 : Try.prog.built 24 [] = some (arr 16 fun _ => 0) := by kernel_rfl
theorem build32 : Try.prog.built 32 [] = some (arr 12 fun _ => 0) := by kernel_rfl

theorem stream_none (key nonce : Nat → UInt8) : stream key nonce ⟨#[]⟩ = ⟨#[]⟩ := rfl
theorem stream_16 : stream (fun _ => 0) (fun _ => 0) (txt 16 fun _ => 0) = txt 16 (aesN (fun _ => 0) (fun _ => 0)) := by
  refine text_ext (by rw [stream_size, txt_size, txt_size]) fun j hj => ?_
  rw [stream_size, txt_size] at hj
  rw [stream_at _ _ _ (by rw [txt_size]; exact hj), sF_txt hj, sF_txt hj, zero_xr]
  have h := ks_at (fun _ => 0) (fun _ => 0) 0 j hj
  rw [Nat.mul_zero, Nat.zero_add] at h
  rw [← h]
  have hc : arr 16 (ctrN (fun _ => 0) 0) = arr 16 (fun _ => 0) := by
    rw [← ctr_laid (fun _ => 0) 0 (by omega)]
    refine arr_ext fun i hi => ?_
    unfold upd8 spl
    split
    · rfl
    · split <;> rfl
  exact aes_same (arr_inj hc) j hj

theorem out_txt : txt 16 (aesN (fun _ => 0) (fun _ => 0)) = ⟨#[220, 149, 192, 120, 162, 64, 137, 137, 173, 72, 162, 20, 146, 132, 32, 135]⟩ := by
  rw [txt_ext aes_no]
  rfl
theorem out_lit : ((txt 16 (aesN (fun _ => 0) (fun _ => 0))).toList == [220, 149, 192, 120, 162, 64, 137, 137, 173, 72, 162, 20, 146, 132, 32, 135]) = true := by
  rw [out_txt]
  decide +kernel

set_option maxRecDepth 100000 in
set_option maxHeartbeats 4000000 in
theorem known_any (w : World) : Calls Try.prog 5 #[] w fun e w' => e = .returned (.bool true) ∧ Below w.heap.size w w' := by
  have hz : ∀ f : Nat → UInt8, (Try.prog.info? 24).map (·.size) = some (arr 16 f).size := fun f => by rw [arr_size]; exact size24
  have hs : ∀ f g : Nat → UInt8, (arr 16 f).size = (arr 16 g).size := fun f g => by rw [arr_size, arr_size]
  replace hz := hide hz
  replace hs := hide hs
  go_enter Try.func5, Try.ntmps5
  go_wp2_with (first | (with_reducible refine wpList_build_is rfl 23 _ rfl (arr 32 fun _ => 0) ?_ ?_; rotate_left) | (with_reducible refine wpList_build_is rfl 24 _ rfl (arr 16 fun _ => 0) ?_ ?_; rotate_left))
  all_goals try exact build24
  all_goals try exact build23
  refine (Block_any _ _ _).mono ?_
  rintro e w1 ⟨rfl, hb1⟩
  have g1 : (w1.alloc (.cells (arr 16 fun _ => 0) 24)).heap[w1.heap.size]? = some (.cells (arr 16 fun _ => 0) 24) := new_alloc
  have j1 := setRow_heap _ w1.heap.size _ (arr 16 (aesN (fun _ => 0) (fun _ => 0))) _ _ g1
  have jb := below_row (hb1.alloc hb1.size (.cells (arr 16 fun _ => 0) 24)) hb1.size (arr 16 (aesN (fun _ => 0) (fun _ => 0)))
  go_wp2_with (first | (with_reducible refine wpList_alloc_row rfl 24 rfl _ zero24 ?_) | (with_reducible refine wpList_store_row rfl 24 _ _ rfl w1.heap.size (arr 16 (aesN (fun _ => 0) (fun _ => 0))) ?_ ?_ 24 _ g1 (hz.out _) (hs.out _ _) arr_ones ?_; rotate_left; rotate_left))
  all_goals try exact rfl
  generalize World.setRow (w1.alloc (.cells (arr 16 fun _ => 0) 24)) w1.heap.size (arr 16 (aesN (fun _ => 0) (fun _ => 0))) = W at j1 jb ⊢
  refine Draw.wp_region_ghosts mixed 23 24 (by kernel_rfl) (0 : Nat)
    (fun g i => ([.bool true, .bool true, .slice (some ⟨w1.heap.size, 0, none⟩) 16 16, .string (txt 16 (aesN (fun _ => 0) (fun _ => 0))), .bool true, .bool true, .bool true, .agg (arr 32 fun _ => 0), .agg (arr 12 fun _ => 0), .string ⟨#[]⟩, .bool true, .bool true, .bool true, .agg (arr 32 fun _ => 0), .agg (arr 12 fun _ => 0), .slice (some ⟨g, 0, none⟩) 16 16, .string (txt 16 fun _ => 0), .string (txt 16 (aesN (fun _ => 0) (fun _ => 0))), .slice (some ⟨w1.heap.size, 0, none⟩) 16 16, .string (txt 16 (aesN (fun _ => 0) (fun _ => 0))), .bool true, .bool true, .bool true] : List Value).getD i undef)
    _ (fun _ => rfl)
    (fun D g w' => Below W.heap.size W w' ∧ (D 15 = true → w'.heap[g]? = some (.cells (arr 16 fun _ => 0) 5)))
    ⟨(Below.refl _ _).drew, fun h => absurd h Bool.false_ne_true⟩ ?_ ?_
  · simp only [Draw.puts, List.take_succ_cons, List.take_zero, if_true, Act.put, List.setIfInBounds_toArray, List.set_cons_zero, List.set_cons_succ, Nat.zero_add, Nat.reduceAdd, List.getD_cons_zero, List.getD_cons_succ]
    refine ⟨?_, ?_, ?_, ?_, ?_, ?_, ?_, ?_, ?_, ?_, ?_, ?_, ?_, ?_, ?_, ?_, ?_, ?_, ?_, ?_, ?_, ?_, ?_, trivial⟩
    all_goals rintro D γ w2 hD hpre ⟨hb, hx⟩
    all_goals refine .inl ⟨rfl, fun K hk => ?_⟩
    · go_simp
      refine (awake_any _).mono ?_
      rintro e w3 ⟨rfl, hb3⟩
      exact hk γ w3 (fun _ _ => rfl) ⟨below_of hb3 hb, fun h => kept hb3 (hx (by simpa [Draw.upd] using h))⟩
    · go_simp
      exact hk γ w2 (fun _ _ => rfl) ⟨hb, by simpa [Draw.upd] using hx⟩
    · go_simp
      exact hk γ w2 (fun _ _ => rfl) ⟨hb, by simpa [Draw.upd] using hx⟩
    · refine wp_text 30 9 5 _ rfl Try.underlying30 Try.underlying5 Try.underlying9 w1.heap.size 0 16 16 rfl (aesN (fun _ => 0) (fun _ => 0)) (fun j hj => ?_) ?_
      · rw [Nat.zero_add]
        exact (cell_of (kept hb j1) _).trans (arr_at hj)
      exact hk γ w2 (fun _ _ => rfl) ⟨hb, by simpa [Draw.upd] using hx⟩
    · have hl := out_lit
      go_simp
      exact hk γ w2 (fun _ _ => rfl) ⟨hb, by simpa [Draw.upd] using hx⟩
    · go_simp
      exact hk γ w2 (fun _ _ => rfl) ⟨hb, by simpa [Draw.upd] using hx⟩
    · go_simp
      exact hk γ w2 (fun _ _ => rfl) ⟨hb, by simpa [Draw.upd] using hx⟩
    · have hb2 := build23
      go_simp
      exact hk γ w2 (fun _ _ => rfl) ⟨hb, by simpa [Draw.upd] using hx⟩
    · have hb2 := build32
      go_simp
      exact hk γ w2 (fun _ _ => rfl) ⟨hb, by simpa [Draw.upd] using hx⟩
    · go_simp
      refine (stream_any _ _ ⟨#[]⟩ (by decide) _).mono ?_
      rintro e w3 ⟨rfl, hb3⟩
      exact hk γ w3 (fun _ _ => rfl) ⟨below_of hb3 hb, fun h => kept hb3 (hx (by simpa [Draw.upd] using h))⟩
    · have hl := stream_none (fun _ => 0) (fun _ => 0)
      go_simp
      exact hk γ w2 (fun _ _ => rfl) ⟨hb, by simpa [Draw.upd] using hx⟩
    · go_simp
      exact hk γ w2 (fun _ _ => rfl) ⟨hb, by simpa [Draw.upd] using hx⟩
    · go_simp
      exact hk γ w2 (fun _ _ => rfl) ⟨hb, by simpa [Draw.upd] using hx⟩
    · have hb2 := build23
      go_simp
      exact hk γ w2 (fun _ _ => rfl) ⟨hb, by simpa [Draw.upd] using hx⟩
    · have hb2 := build32
      go_simp
      exact hk γ w2 (fun _ _ => rfl) ⟨hb, by simpa [Draw.upd] using hx⟩
    · have hmk : (Instr.makeSlice 30 (.int .i64 16) (.int .i64 16)).run Try.prog w2 = .ok (.slice (some ⟨w2.heap.size, 0, none⟩) 16 16) (w2.alloc (.cells (arr 16 fun _ => 0) 5)) := by
        rw [← made_arr]
        exact run_make_row' (P := Try.prog) 30 5 (.int .u8 0) 1 Try.underlying30 info5c rfl .i64 .i64 16 (by omega) (by omega) w2
      go_simp
      exact hk w2.heap.size _ (fun j hj => by rcases j with _|_|_|_|_|_|_|_|_|_|_|_|_|_|_|_|_|_|_|_|_|_|_|j <;> first | rfl | (rw [hD] at hj; cases hj)) ⟨hb.alloc hb.size _, fun _ => new_alloc⟩
    · refine wp_text 30 9 5 _ rfl Try.underlying30 Try.underlying5 Try.underlying9 γ 0 16 16 rfl (fun _ => 0) (fun j hj => ?_) ?_
      · rw [Nat.zero_add]
        exact (cell_of (hx (hpre 15 (by decide +kernel))) _).trans (arr_at hj)
      exact hk γ w2 (fun _ _ => rfl) ⟨hb, by simpa [Draw.upd] using hx⟩
    · go_simp
      refine (stream_any _ _ _ (by rw [txt_size]; omega) _).mono ?_
      rw [stream_16]
      rintro e w3 ⟨rfl, hb3⟩
      exact hk γ w3 (fun _ _ => rfl) ⟨below_of hb3 hb, fun h => kept hb3 (hx (by simpa [Draw.upd] using h))⟩
    · go_simp
      exact hk γ w2 (fun _ _ => rfl) ⟨hb, by simpa [Draw.upd] using hx⟩
    · refine wp_text 30 9 5 _ rfl Try.underlying30 Try.underlying5 Try.underlying9 w1.heap.size 0 16 16 rfl (aesN (fun _ => 0) (fun _ => 0)) (fun j hj => ?_) ?_
      · rw [Nat.zero_add]
        exact (cell_of (kept hb j1) _).trans (arr_at hj)
      exact hk γ w2 (fun _ _ => rfl) ⟨hb, by simpa [Draw.upd] using hx⟩
    · go_simp
      exact hk γ w2 (fun _ _ => rfl) ⟨hb, by simpa [Draw.upd] using hx⟩
    · go_simp
      exact hk γ w2 (fun _ _ => rfl) ⟨hb, by simpa [Draw.upd] using hx⟩
    · go_simp
      exact hk γ w2 (fun _ _ => rfl) ⟨hb, by simpa [Draw.upd] using hx⟩
  · simp only [Draw.puts, List.take_succ_cons, List.take_zero, List.drop_succ_cons, List.drop_nil, if_true, Act.put, List.setIfInBounds_toArray, List.set_cons_zero, List.set_cons_succ, Nat.zero_add, Nat.reduceAdd, List.getD_cons_zero, List.getD_cons_succ]
    rintro g w2 ⟨hb, _⟩
    have gb := below_of hb jb
    clear hb jb j1
    go_wp2_with fail
    go_ret
    exact ⟨rfl, gb⟩

end Go.Proofs.Ytgmnigobappjbaa
