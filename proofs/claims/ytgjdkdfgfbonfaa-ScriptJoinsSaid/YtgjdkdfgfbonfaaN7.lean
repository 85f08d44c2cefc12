/- The contract of Great: it answers. Conditions: none. -/
import Derived.Test.YtgjdkdfgfbonfaaN3
import Derived.Test.YtgjdkdfgfbonfaaBut
namespace Go.Proofs.Ytgjdkdfgfbonfaa
open Go.RowKit

/-- Something is answered: true or false. -/
def Answers (e : Ending) : Prop := ∃ b, e = .returned (.bool b)

theorem TextsAt.open0 {w : World} {v : Value} {l : List ByteArray} (h : TextsAt w v l) : ∃ a cap b off, v = .slice a l.length cap ∧ l.length ≤ maxLen ∧ ∀ i, i < l.length → a = some ⟨b, off, none⟩ ∧ ∃ s, w.cell? ⟨b, off + i, none⟩ = some (.string s) := by
  obtain ⟨a, cap, rfl, hm, h⟩ := h
  rcases h with rfl | ⟨b, off, rfl, hb, hc⟩
  · exact ⟨a, cap, 0, 0, rfl, hm, fun i hi => by simp at hi⟩
  · exact ⟨_, cap, b, off, rfl, hm, fun i hi => ⟨rfl, _, hc i _ (List.getElem?_eq_getElem hi)⟩⟩

set_option maxHeartbeats 800000 in
theorem great_any (C : Array Value) (M : Mx) (w : World) (hM : MixAt w C M) : Calls Try.prog 11 #[.agg C] w fun e w' => Answers e ∧ Below w.heap.size w w' := by
  obtain ⟨vp, vv, hC, hp, hv⟩ := hM.ex
  have hb0 : Below w.heap.size w (w.alloc (.cells C 25)) := (Below.refl _ _).alloc (Nat.le_refl _) _
  have hnew : (w.alloc (.cells C 25)).heap[w.heap.size]? = some (.cells C 25) := new_alloc
  obtain ⟨a, cap, b, off, rfl, hm, hcell⟩ := (hp.below hb0).open0
  obtain ⟨a2, cap2, b2, off2, rfl, hm2, hcell2⟩ := (hv.below hb0).open0
  unfold maxLen at hm hm2
  obtain ⟨w0, cnd, cpk, ctk, cp, cv⟩ := mixCells hC hnew
  go_enter Try.func11, Try.ntmps11
  by_cases h1 : 60 < M.P.length
  · go_wp2_with fail
    go_ret
    exact ⟨⟨_, rfl⟩, hb0⟩
  by_cases h2 : 60 < M.V.length
  · go_wp2_with fail
    go_ret
    exact ⟨⟨_, rfl⟩, hb0⟩
  go_wp2_with fail
  go_loopw [3] (fun i wr => ∃ k : Nat, k ≤ M.P.length ∧ i = .int .i64 k ∧ wr = w.alloc (.cells C 25)) (fun i _ => M.P.length - (intOf i).toNat)
  case atStart => exact ⟨0, by omega, rfl, rfl⟩
  case round =>
    obtain ⟨k, hk, rfl, rfl⟩ := hrel
    by_cases hlt : k < M.P.length
    · obtain ⟨ha, s, hs⟩ := hcell k hlt
      subst ha
      by_cases hb : 100 < s.size
      · go_wp2_with fail
        go_ret
        exact ⟨⟨_, rfl⟩, hb0⟩
      · go_wp2_with fail
        go_roundw
        case rel => exact ⟨k + 1, by omega, by go_num, by trivial⟩
        case measure => simp [intOf]; omega
    · obtain rfl : k = M.P.length := by omega
      go_wp2_with fail
      go_loopw [4] (fun i wr => ∃ k : Nat, k ≤ M.V.length ∧ i = .int .i64 k ∧ wr = w.alloc (.cells C 25)) (fun i _ => M.V.length - (intOf i).toNat)
      case atStart => exact ⟨0, by omega, rfl, rfl⟩
      case round =>
        obtain ⟨k, hk, rfl, rfl⟩ := hrel
        by_cases hlt : k < M.V.length
        · obtain ⟨ha, s, hs⟩ := hcell2 k hlt
          subst ha
          by_cases hb : 100 < s.size
          · go_wp2_with fail
            go_ret
            exact ⟨⟨_, rfl⟩, hb0⟩
          · go_wp2_with fail
            go_roundw
            case rel => exact ⟨k + 1, by omega, by go_num, by trivial⟩
            case measure => simp [intOf]; omega
        · obtain rfl : k = M.V.length := by omega
          go_wp2_with fail
          go_ret
          exact ⟨⟨_, rfl⟩, hb0⟩

end Go.Proofs.Ytgjdkdfgfbonfaa
