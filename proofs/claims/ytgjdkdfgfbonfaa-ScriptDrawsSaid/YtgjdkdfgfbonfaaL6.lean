/- ScriptDraws: what a source tells, and where it is behind any number of Nexts, is the document's. Conditions: none. -/
import Derived.Test.YtgjdkdfgfbonfaaD1
import Derived.Test.YtgjdkdfgfbonfaaOpI
import Derived.Test.YtgjdkdfgfbonfaaWk
namespace Go.Proofs.Ytgjdkdfgfbonfaa
open Go.RowKit

theorem dr_most (s n : Int) (h1 : 1 ≤ n) (h2 : n ≤ 2147483648) : IntKind.i64.wrap (tl (nx s) * n) = tl (nx s) * n ∧ (tl (nx s) * n).tdiv 4294967296 = dr s n ∧ IntKind.i64.wrap (dr s n) = dr s n := by
  obtain ⟨t0, t1⟩ := tl_range (nx_range s).1 (nx_range s).2
  obtain ⟨m0, m1⟩ := mul_hi t0 t1 h1
  have hr := dr_range s n h1
  exact ⟨IntWalk.i64_in _ (by omega), Int.tdiv_eq_ediv_of_nonneg m0, IntWalk.i64_in _ (by omega)⟩

set_option maxRecDepth 100000 in
set_option maxHeartbeats 4000000 in
theorem law6_any (v : Value) (l : List Int) (s : Int) (K : Nat) (h0 : 0 ≤ s) (h1 : s < 18446744073709551616) (hK : K < 18446744073709551616) (w : World) (hl : IntsAt w v l) :
    Calls Try.prog 6 #[.int .u64 s, v, .int .u64 K] w fun e w' => e = .returned (.bool true) ∧ Below w.heap.size w w' := by
  obtain ⟨a, cap, rfl, hm, hrg, hv⟩ := hl
  unfold maxLen at hm
  have hv' : ∃ b off, 0 < l.length → a = some ⟨b, off, none⟩ ∧ b < w.heap.size ∧ ∀ i z, l[i]? = some z → w.cell? ⟨b, off + i, none⟩ = some (.int .i64 z) := by
    rcases hv with rfl | ⟨b, off, rfl, hb, hc⟩
    · exact ⟨0, 0, fun h => by simp at h⟩
    · exact ⟨b, off, fun _ => ⟨rfl, hb, hc⟩⟩
  obtain ⟨b, off, hat⟩ := hv'
  clear hv
  by_cases hlen : 200 < l.length
  · have hlen' : 200 < (l.length : Int) := by omega
    go_enter Try.func6, Try.ntmps6
    go_wp2_with fail
    refine (wakes_any _).mono ?_
    rintro e w1 ⟨rfl, hb⟩
    go_wp2_with fail
    go_ret
    exact ⟨rfl, hb⟩
  have hlen' : (l.length : Int) ≤ 200 := by omega
  have g0 : (w.alloc (.cells #[.int .u64 s] 30)).heap[w.heap.size]? = some (src s) := new_alloc
  have gb : Below w.heap.size w (w.alloc (.cells #[.int .u64 s] 30)) := (Below.refl _ _).alloc (Nat.le_refl _) _
  go_enter Try.func6, Try.ntmps6
  go_wp2_with fail
  go_loopw [8, 9, 10, 11, 12] (fun a8 a9 a10 a11 a12 wr => ∃ (i : Nat) (x : Int), i ≤ l.length ∧ a9 = .int .i64 i ∧ a8 = .int .u64 x ∧ 0 ≤ x ∧ x < 18446744073709551616 ∧ wr.heap[w.heap.size]? = some (src x) ∧ Below w.heap.size w wr) (fun _ a9 _ _ _ _ => l.length - (intOf a9).toNat)
  case atStart => exact ⟨0, s, by omega, rfl, rfl, h0, h1, g0, gb⟩
  case round =>
    clear g0 gb
    obtain ⟨i, x, hi, rfl, rfl, hx0, hx1, g0, gb⟩ := hrel
    have hnr := nx_range x
    by_cases hlt : i < l.length
    · obtain ⟨ha, hblt, hc⟩ := hat (by omega)
      subst ha
      obtain ⟨n, hn⟩ : ∃ n, l[i]? = some n := ⟨_, List.getElem?_eq_getElem hlt⟩
      have cn : wr.cell? ⟨b, off + i, none⟩ = some (.int .i64 n) := by
        rw [World.cell?_of_block (w := w) (gb.block b hblt)]
        exact hc i n hn
      have hr := hrg n (List.mem_of_getElem? hn)
      clear hc hat
      by_cases hin : 1 ≤ n ∧ n ≤ 2147483648
      · obtain ⟨n1, n2⟩ := hin
        go_wp2_with fail
        refine (tell_src w.heap.size x n _ n1 n2 g0).mono ?_
        rintro e w2 ⟨rfl, g1, hb2⟩
        have gb2 := gb.trans (hb2.toBelow gb.size (Nat.le_refl _))
        obtain ⟨c0, f0⟩ := cells1 g1
        clear hb2 g0 cn
        go_wp2_with fail
        refine (refNext_any _ _).mono ?_
        rintro e u3 ⟨rfl, rfl⟩
        go_wp2_with fail
        refine (refTells_any _ hnr.1 hnr.2 _).mono ?_
        rintro e u4 ⟨rfl, rfl⟩
        obtain ⟨q1, q2, q3⟩ := dr_most x n n1 n2
        go_wp2_with fail
        go_roundw
        case rel => exact ⟨i + 1, nx x, by omega, by go_num, by trivial, hnr.1, by omega, g1, gb2⟩
        case measure => simp [intOf]; omega
      · have hout : n < 1 ∨ 2147483648 < n := by omega
        obtain ⟨c0, f0⟩ := cells1 g0
        by_cases n1 : n < 1
        · clear hin
          go_wp2_with fail
          refine (tell_out w.heap.size 0 n _ hout).mono ?_
          rintro e w2 ⟨rfl, rfl⟩
          clear hout
          go_wp2_with fail
          go_roundw
          case rel => exact ⟨i + 1, x, by omega, by go_num, by trivial, hx0, hx1, g0, gb⟩
          case measure => simp [intOf]; omega
        · have n2 : 2147483648 < n := by omega
          have n3 : 1 ≤ n := by omega
          clear hin
          go_wp2_with fail
          refine (tell_out w.heap.size 0 n _ hout).mono ?_
          rintro e w2 ⟨rfl, rfl⟩
          clear hout
          go_wp2_with fail
          go_roundw
          case rel => exact ⟨i + 1, x, by omega, by go_num, by trivial, hx0, hx1, g0, gb⟩
          case measure => simp [intOf]; omega
    · obtain rfl : i = l.length := by omega
      obtain ⟨c0, f0⟩ := cells1 g0
      clear hat
      have g1 : (wr.setCell ⟨w.heap.size, 0, none⟩ (.int .u64 (nx x))).heap[w.heap.size]? = some (src (nx x)) := by simpa using set_at (j := 0) (u := .int .u64 (nx x)) g0
      have gb1 := gb.setCell (Nat.le_refl _) (p := ⟨w.heap.size, 0, none⟩) (.int .u64 (nx x))
      go_wp2_with fail
      refine (next_any _ _ _ _ c0 f0).mono ?_
      rintro e w2 ⟨rfl, rfl⟩
      clear g0 gb c0 f0
      generalize wr.setCell ⟨w.heap.size, 0, none⟩ (.int .u64 (nx x)) = W2 at g1 gb1 ⊢
      obtain ⟨c0, f0⟩ := cells1 g1
      obtain ⟨t0, t1⟩ := tl_range hnr.1 hnr.2
      have q1 : IntKind.i64.wrap (tl (nx x)) = tl (nx x) := IntWalk.i64_in _ (by omega)
      go_wp2_with fail
      refine (refNext_any _ _).mono ?_
      rintro e u3 ⟨rfl, rfl⟩
      go_wp2_with fail
      refine (refTells_any _ hnr.1 hnr.2 _).mono ?_
      rintro e u4 ⟨rfl, rfl⟩
      go_wp2_with fail
      refine (ahead_any _ K hnr.1 (by omega) hK _).mono ?_
      rintro e w5 ⟨rfl, hb5⟩
      have g2 := kept hb5 g1
      have gb2 := below_of hb5 gb1
      clear c0 f0 g1 gb1 hb5
      obtain ⟨c0, f0⟩ := cells1 g2
      go_wp2_with fail
      refine (refAhead_any _ K hnr.1 (by omega) hK _).mono ?_
      rintro e u6 ⟨rfl, rfl⟩
      go_wp2_with fail
      refine (wakes_any _).mono ?_
      rintro e w7 ⟨rfl, hb7⟩
      have gb3 := below_of hb7 gb2
      clear c0 f0 g2 gb2 hb7
      go_wp2_with fail
      go_ret
      exact ⟨rfl, gb3⟩

end Go.Proofs.Ytgjdkdfgfbonfaa
