/- FencePlays: the row of acts that came in, opened; the statement. Conditions: none. -/
import Derived.Test.YtjepdlmdemlkmaaPlays
import Derived.Deep.Slices
namespace Go.Proofs.Ytjepdlmdemlkmaa
open Go.RowKit Go.ChangeShapes Go.WideShapes Go.ChangeAt

/-- A row of acts that came in: empty, or its cells lie at a place of old memory. -/
theorem open_acts {H : Type} {enc : TypeId × Value → H} {W : World} {base : Nat} {v : Value} {d : DataW H} {p : List MemPlace}
    (hv : Value.okWide Try.prog W .any base 40 v) (h : DataW.Trod enc Try.prog W 0 (fun _ => true) true 40 v d p) :
    ∃ (a : Option Addr) (n cap : Nat), v = .slice a n cap ∧ n ≤ maxLen ∧ (n = 0 ∨ ∃ (b off : Nat) (D E : Nat → Int), a = some ⟨b, off, none⟩ ∧ n ≤ cap ∧ b < W.heap.size ∧
      (∀ i, i < n → W.cell? ⟨b, off + i * 2, none⟩ = some (.int .u8 (D i)) ∧ 0 ≤ D i ∧ D i ≤ 255) ∧ (∀ i, i < n → W.cell? ⟨b, off + i * 2 + 1, none⟩ = some (.int .i64 (E i)))) := by
  obtain ⟨a, n, cap, rfl⟩ := okWide_slice Try.underlying40 hv
  obtain ⟨fuel, hf⟩ := h
  refine ⟨a, n, cap, rfl, ?_⟩
  rcases Deep.open_slice Try.underlying40 hf with ⟨h0, _⟩ | ⟨a', n', cap', m, k, D, Pl, hcs, _, hl, hm, hmm, _, hi⟩
  · simp only [Value.cells, List.cons.injEq, Value.slice.injEq, and_true] at h0
    obtain ⟨_, rfl, rfl⟩ := h0
    exact ⟨by unfold maxLen; omega, .inl rfl⟩
  · simp only [Value.cells, List.cons.injEq, Value.slice.injEq, and_true] at hcs
    obtain ⟨rfl, rfl, rfl⟩ := hcs
    refine ⟨by omega, ?_⟩
    simp only [if_true] at hmm
    subst hmm
    rcases Nat.eq_zero_or_pos n with h0 | hpos
    · exact .inl h0
    right
    rw [cells31] at hi
    have key : ∀ i, i < n → ∃ (x y : Int), W.cell? (a'.add (i * 2)) = some (.int .u8 x) ∧ (0 ≤ x ∧ x ≤ 255) ∧ W.cell? ((a'.add (i * 2)).add 1) = some (.int .i64 y) := fun i hin => by
      obtain ⟨cs', hc, ht⟩ := hi i (by omega)
      obtain ⟨_, hlen, hat⟩ := World.cells?_some hc
      obtain ⟨xs, q, _, _, _, hxl, hfld⟩ := DataW.trod_struct Try.underlying31 ht
      match cs', hlen with
      | [c0, c1], _ =>
        have h0 := hfld 0 { name := "Do", type := 5, offset := 0, embedded := false, tag := "", pkgPath := "", byteOffset := 0 } rfl
        have h1 := hfld 1 { name := "Epoch", type := 3, offset := 1, embedded := false, tag := "", pkgPath := "", byteOffset := 8 } rfl
        have hc0 := hat 0 (by omega)
        have hc1 := hat 1 (by omega)
        have e0 : Try.prog.cellsOf 5 = 1 := by kernel_rfl
        have e1 : Try.prog.cellsOf 3 = 1 := by kernel_rfl
        simp only [e0, e1, List.drop_zero, List.take_succ_cons, List.take_zero, List.drop_succ_cons] at h0 h1
        have hx0 : xs[0]? = some (xs[0]'(by rw [hxl]; decide)) := List.getElem?_eq_getElem _
        have hx1 : xs[1]? = some (xs[1]'(by rw [hxl]; decide)) := List.getElem?_eq_getElem _
        rw [hx0] at h0
        rw [hx1] at h1
        obtain ⟨z0, g0, _, w0⟩ := DataW.trod_int Try.underlying5 h0
        obtain ⟨z1, g1, _, _⟩ := DataW.trod_int Try.underlying3 h1
        simp only [List.cons.injEq, and_true] at g0 g1
        subst g0 g1
        exact ⟨z0, z1, by simpa [Addr.add] using hc0, u8_range w0, by simpa using hc1⟩
    obtain ⟨b, off, spot⟩ := a'
    have hspot : spot = none := by
      obtain ⟨x, y, hx, _⟩ := key 0 hpos
      cases spot with
      | none => rfl
      | some s => simp only [Nat.zero_mul, Addr.add, if_true, World.cell?] at hx; split at hx <;> simp at hx
    subst hspot
    have hb : b < W.heap.size := by
      obtain ⟨x, y, hx, _⟩ := key 0 hpos
      have := World.block_lt_of_cell? _ _ hx
      simpa [Addr.add] using this
    have nadd : ∀ i j : Nat, (⟨b, i, none⟩ : Addr).add j = ⟨b, i + j, none⟩ := fun i j => by
      unfold Addr.add
      split
      · rename_i h; subst h; rfl
      · rfl
    have hall : ∀ i, ∃ xy : Int × Int, i < n → W.cell? ⟨b, off + i * 2, none⟩ = some (.int .u8 xy.1) ∧ (0 ≤ xy.1 ∧ xy.1 ≤ 255) ∧ W.cell? ⟨b, off + i * 2 + 1, none⟩ = some (.int .i64 xy.2) := fun i => by
      by_cases hin : i < n
      · obtain ⟨x, y, h1, h2, h3⟩ := key i hin
        simp only [nadd] at h1 h3
        exact ⟨(x, y), fun _ => ⟨h1, h2, h3⟩⟩
      · exact ⟨(0, 0), fun h => absurd h hin⟩
    obtain ⟨F, hF⟩ := Classical.skolem.1 hall
    exact ⟨b, off, fun i => (F i).1, fun i => (F i).2, rfl, hl, hb, fun i hin => ⟨(hF i hin).1, (hF i hin).2.1⟩, fun i hin => (hF i hin).2.2⟩

set_option maxHeartbeats 800000 in
theorem plays_long (a : Option Addr) (n cap : Nat) (hn : 300 < n) (hm : n ≤ maxLen) (w : World) :
    Calls Try.prog 5 #[.slice a n cap] w fun e w' => e = .returned (.bool true) ∧ Below w.heap.size w w' := by
  unfold maxLen at hm
  go_enter Try.func5, Try.ntmps5
  go_wp2_with fail
  refine (wakes_any _).mono ?_
  rintro e w1 ⟨rfl, hb1⟩
  go_wp2_with fail
  go_ret
  exact ⟨rfl, hb1⟩

set_option maxHeartbeats 800000 in
theorem plays_none (a : Option Addr) (cap : Nat) (w : World) :
    Calls Try.prog 5 #[.slice a 0 cap] w fun e w' => e = .returned (.bool true) ∧ Below w.heap.size w w' := by
  go_enter Try.func5, Try.ntmps5
  go_wp2_with fail
  refine wp_loop_once ?_
  go_wp2_with fail
  refine (wakes_any _).mono ?_
  rintro e w1 ⟨rfl, hb1⟩
  go_wp2_with fail
  go_ret
  exact ⟨rfl, below_of hb1 (by repeat (first | exact Below.refl _ _ | refine Below.alloc ?_ (by simp <;> omega) _ | refine Below.setCell ?_ (by simp <;> omega) _))⟩

set_option maxRecDepth 100000 in
theorem plays_lifted (os : Os) (started : os.Started) (H : Type) (enc : TypeId × Value → H) :
    ReturnsInHanded {} Try.checked os 5 .any (Rows.fencePlaysSpec.pre6 enc Try.prog Try.f5 Rows.fencePlaysRow.domain false) (Rows.fencePlaysSpec.post enc Try.prog Try.f5 false true false false) := by
  refine returnsInHanded_of_change (C := Try.checked) own started (by kernel_rfl) Try.func5
    (ChangeSpec.witness6 (enc := enc) (C := Try.checked) false ⟨#[], #[.slice none 0 0], []⟩ 8 (by kernel_rfl) (by kernel_rfl) (by kernel_rfl) (by kernel_rfl)) ?_
  intro W base args ds gs before hval0 hW hcnd _
  have hval : ∀ (j : Nat) t v, Try.f5.params[j]? = some t → args[j]? = some v → Value.okWide Try.prog W .any base t v := hval0
  have hW' : DataW.Whole enc Try.prog Try.f5.params.toList Rows.fencePlaysSpec.vars false W args.toList ds gs before := hW
  obtain ⟨p, q, hA0, hV, rfl, hfz, hnd⟩ := hW
  have hA : DataW.TrodAll enc Try.prog W 0 (fun _ => true) true Try.f5.params.toList args.toList ds p := hA0
  rw [Try.params5] at hA hval
  obtain ⟨v0, vs0, d0, ds0, p0, q0, hargs, rfl, rfl, h0, r0⟩ := trodAll_cons hA
  obtain ⟨rfl, rfl, rfl⟩ := trodAll_nil r0
  obtain rfl : args = #[v0] := by cases args; simp_all
  obtain ⟨a, n, cap, rfl, hmax, hacts⟩ := open_acts (hval 0 40 v0 rfl rfl) h0
  have hwalk : Calls Try.prog 5 #[.slice a n cap] W fun e w' => e = .returned (.bool true) ∧ Below W.heap.size W w' := by
    rcases hacts with rfl | ⟨b, off, D, E, rfl, hcap, hb, hD, hE⟩
    · exact plays_none a cap W
    · by_cases hn : 300 < n
      · exact plays_long _ n cap hn hmax W
      · exact plays_loop b off n cap D E hcap W ⟨hb, by omega, hD, hE⟩
  refine hwalk.mono fun e W' ⟨he, hb⟩ => ?_
  subst he
  exact ⟨_, rfl, lawPost hW' rfl (by kernel_rfl) Try.underlying4 rfl laidOut (by rw [Try.params5]; intro t ht; simp at ht; subst ht; exact ⟨by kernel_rfl, of_decide_eq_true (by kernel_rfl)⟩) hb⟩

theorem plays_holds : Rows.FencePlaysSaid :=
  OpenClaim.holds_of_wide 5 Try.f5 rfl rfl rfl rfl rfl rfl rfl ⟨rfl, rfl, rfl, rfl, rfl⟩ rfl rfl rfl rfl rfl (by kernel_rfl) Try.func5 (by kernel_rfl)
    (of_decide_eq_true (by kernel_rfl)) (by unfold Func.isWrapper; first | (rw [if_pos (by decide +kernel)]; kernel_rfl) | (rw [if_neg (by decide +kernel)]; exact ⟨rfl, rfl⟩))
    (fun os started H enc _ => plays_lifted os started H enc)
#print axioms plays_holds
end Go.Proofs.Ytjepdlmdemlkmaa
