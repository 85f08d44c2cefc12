/- among; what an act that is drawn has. Conditions: none. -/
import Derived.Test.YtgjdkdfgfbonfaaWk
import Derived.Test.YtgjdkdfgfbonfaaCt
import Derived.Test.YtgjdkdfgfbonfaaN7
namespace Go.Proofs.Ytgjdkdfgfbonfaa
open Go.RowKit

theorem text_ne {s t : ByteArray} (h : ¬ s = t) : (s.toList == t.toList) = false := by
  rw [ByteArray.toList_eq, ByteArray.toList_eq]
  exact beq_eq_false_iff_ne.2 fun e => h (ByteArray.ext (Array.toList_inj.1 e))

set_option maxHeartbeats 400000 in
theorem among_yes (v : Value) (l : List ByteArray) (s : ByteArray) (hs : s ∈ l) (w : World) (hl : TextsAt w v l) : Calls Try.prog 33 #[v, .string s] w fun e w' => e = .returned (.bool true) ∧ w = w' := by
  obtain ⟨a, cap, rfl, hm, hv⟩ := hl
  unfold maxLen at hm
  obtain ⟨j0, hj0⟩ := List.mem_iff_getElem?.1 hs
  have hj0l := (List.getElem?_eq_some_iff.1 hj0).1
  rcases hv with rfl | ⟨b, off, rfl, hb, hc⟩
  · simp at hs
  clear hs
  go_enter Try.func33, Try.ntmps33
  go_wp2_with fail
  go_loopw [5] (fun i wr => ∃ k : Nat, i = .int .i64 k ∧ (∃ j, k ≤ j ∧ l[j]? = some s) ∧ wr = w) (fun i _ => l.length - (intOf i).toNat)
  case atStart => exact ⟨0, rfl, ⟨j0, by omega, hj0⟩, rfl⟩
  case round =>
    obtain ⟨k, rfl, ⟨j, hkj, hj⟩, rfl⟩ := hrel
    have hjl := (List.getElem?_eq_some_iff.1 hj).1
    have hlt : k < l.length := by omega
    obtain ⟨t, ht⟩ : ∃ t, l[k]? = some t := ⟨_, List.getElem?_eq_getElem hlt⟩
    have c0 := hc k t ht
    clear hc
    by_cases hts : t = s
    · subst hts
      go_wp2_with fail
      go_ret
      exact ⟨rfl, rfl⟩
    · have hne := text_ne hts
      have hjk : k + 1 ≤ j := by
        rcases Nat.eq_or_lt_of_le hkj with e | e
        · subst e
          rw [ht] at hj
          exact absurd (Option.some.inj hj) hts
        · exact e
      replace hj := hide hj
      replace ht := hide ht
      replace hts := hide hts
      go_wp2_with fail
      go_roundw
      case rel => exact ⟨k + 1, by go_num, ⟨j, hjk, hj.out⟩, by trivial⟩
      case measure => simp [intOf]; omega

/-- What an act that is drawn of a mix has. -/
structure Wn (M : Mx) (x : Ac) : Prop where
  kind : x.k < 18
  a11 : x.k = 11 → 1 ≤ x.a ∧ x.a ≤ M.tk
  apk : x.k = 12 ∨ x.k = 13 ∨ x.k = 14 → 0 ≤ x.a ∧ x.a ≤ M.pk - 1
  and : x.k ≠ 11 → x.k ≠ 12 → x.k ≠ 13 → x.k ≠ 14 → 0 ≤ x.a ∧ x.a ≤ M.nd - 1
  p : 1 ≤ x.k ∧ x.k ≤ 4 → x.p ∈ M.P
  p0 : ¬ (1 ≤ x.k ∧ x.k ≤ 4) → x.p = ⟨#[]⟩
  v : x.k = 1 → x.v ∈ M.V
  v0 : x.k ≠ 1 → x.v = ⟨#[]⟩
  keep0 : x.k ≠ 15 → x.keep = []
  keep : x.keep.length < 5 ∧ ∀ (i : Nat) (u : Int), x.keep[i]? = some u → 0 ≤ u ∧ u ≤ 2
  n0 : x.k ≠ 16 → x.n = 0
  n : 0 ≤ x.n ∧ x.n < 20

theorem pick_mem {l : List ByteArray} (s : Int) (h : 1 ≤ l.length) : pick l s ∈ l := by
  have hd := dr_range s l.length (by omega)
  unfold pick
  have hlt : (dr s l.length).toNat < l.length := by omega
  rw [List.getD_eq_getElem?_getD, List.getElem?_eq_getElem hlt]
  exact List.getElem_mem hlt
theorem keeps_at {s : Int} {n i : Nat} {u : Int} (h : (keeps s n)[i]? = some u) : 0 ≤ u ∧ u ≤ 2 := by
  unfold keeps at h
  rw [List.getElem?_map] at h
  cases hi : (List.range n)[i]? with
  | none => simp [hi] at h
  | some j =>
    simp only [hi, Option.map_some, Option.some.injEq] at h
    have := dr_range (nxi s j) 3 (by omega)
    omega

theorem act_wn {M : Mx} (hr : rightB M = true) (s : Int) : Wn M (actOf M s) := by
  have hF := fit_of hr
  have hk := kindN_le M (dr s (sumW M.W 18))
  generalize hkd : kindN M (dr s (sumW M.W 18)) = k at hk
  have hnd := dr_range (nx s) M.nd hF.nd.1
  have htk := dr_range (nx s) M.tk hF.tk.1
  have hpk := dr_range (nx s) M.pk hF.pk.1
  have h20 := dr_range (nx (nx s)) 20 (by omega)
  have h5 := dr_range (nx (nx s)) 5 (by omega)
  have nokeep : ([] : List Int).length < 5 ∧ ∀ (i : Nat) (u : Int), ([] : List Int)[i]? = some u → 0 ≤ u ∧ u ≤ 2 := ⟨by simp, fun i u h => by simp at h⟩
  by_cases h11 : k = 11
  · rw [(act_tick hkd h11).1]
    constructor <;> simp <;> (try omega) <;> first | exact nokeep.2 | skip
  by_cases h12 : k = 12 ∨ k = 13 ∨ k = 14
  · rw [(act_pkt hkd h12).1]
    constructor <;> simp <;> (try omega) <;> first | exact nokeep.2 | skip
  by_cases h1 : k = 1
  · rw [(act_put hkd h1).1]
    have hp := pick_mem (l := M.P) (nx (nx s)) hF.p.1
    have hv := pick_mem (l := M.V) (nx (nx (nx s))) hF.v.1
    constructor <;> simp <;> (try omega) <;> first | exact fun _ _ => hp | exact fun _ => hv | skip
  by_cases h2 : k = 2 ∨ k = 3 ∨ k = 4
  · rw [(act_path hkd h2).1]
    have hp := pick_mem (l := M.P) (nx (nx s)) hF.p.1
    constructor <;> simp <;> (try omega) <;> first | exact fun _ _ => hp | skip
  by_cases h15 : k = 15
  · rw [(act_crash hkd h15).1]
    have hl := keeps_length (nx (nx (nx s))) (dr (nx (nx s)) 5).toNat
    constructor <;> simp <;> (try omega) <;> first | exact ⟨by omega, fun i u h => keeps_at h⟩ | skip
  by_cases h16 : k = 16
  · rw [(act_fuse hkd h16).1]
    constructor <;> simp <;> (try omega)
  · rw [(act_else hkd (by omega)).1]
    constructor <;> simp <;> (try omega)

end Go.Proofs.Ytgjdkdfgfbonfaa
