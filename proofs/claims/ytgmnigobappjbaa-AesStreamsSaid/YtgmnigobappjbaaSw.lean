/- Words that are collected: a row of slices that the call itself made. Conditions: none. -/
import Derived.Test.YtgmnigobappjbaaR3
namespace Go.Proofs.Ytgmnigobappjbaa
open Go.RowKit

def wordVs (H K : Nat → Nat) (n : Nat) : List Value := (List.range n).map fun i => .slice (some ⟨H i, 0, none⟩) 4 (K i)
theorem wordVs_len (H K : Nat → Nat) (n : Nat) : (wordVs H K n).length = n := by simp [wordVs]
theorem wordVs_at {H K : Nat → Nat} {n i : Nat} (h : i < n) : (wordVs H K n)[i]? = some (.slice (some ⟨H i, 0, none⟩) 4 (K i)) := by simp [wordVs, h]
def updN (H : Nat → Nat) (n v : Nat) : Nat → Nat := fun i => if i = n then v else H i
theorem wordVs_succ (H K : Nat → Nat) (n g k : Nat) : wordVs (updN H n g) (updN K n k) (n + 1) = wordVs H K n ++ [.slice (some ⟨g, 0, none⟩) 4 k] := by
  unfold wordVs
  rw [List.range_succ, List.map_append]
  congr 1
  · refine List.map_congr_left fun i hi => ?_
    have := List.mem_range.1 hi
    simp only [updN]
    rw [if_neg (by omega), if_neg (by omega)]
  · simp [updN]

/-- n words, collected in v. -/
structure Words (w : World) (base : Nat) (v : Value) (n : Nat) (W : Nat → UInt8) : Prop where
  ex : ∃ H K, w.ownsRow base 30 1 v n (wordVs H K n) ∧ ∀ i, i < n → BytesAt w (H i) 4 (fun j => W (4 * i + j))

theorem Words.below {w w' : World} {base n : Nat} {v : Value} {W : Nat → UInt8} (h : Words w base v n W) (hb : Below w.heap.size w w') : Words w' base v n W := by
  obtain ⟨H, K, ho, hB⟩ := h.ex
  exact ⟨H, K, own_below ho hb, fun i hi => (hB i hi).below hb⟩
theorem own_ne' {W : World} {base : Nat} {e t : TypeId} {size : Nat} {v : Value} {n b : Nat} {xs : List Value} {cs : Array Value} (h : W.ownsRow base e size v n xs) (hb : W.heap[b]? = some (.cells cs t)) (ht : t ≠ e) : some b ≠ v.ownBlock := by
  obtain ⟨h1, h2⟩ := h
  rcases h2 with ⟨rfl, _⟩ | ⟨g, cap, cur, rfl, hg, hh, h3⟩
  · simp [Value.ownBlock]
  · intro e
    simp only [Value.ownBlock, Option.some.injEq] at e
    rw [e, hh] at hb
    simp at hb
    exact ht hb.2.symm
theorem BytesAt.grown {w w' : World} {base n m g : Nat} {e : TypeId} {v : Value} {xs : List Value} {f : Nat → UInt8} (h : BytesAt w g m f) (ho : w.ownsRow base e 1 v n xs) (he : (5 : TypeId) ≠ e) (hgr : w.grownBy w' v.ownBlock) : BytesAt w' g m f := by
  refine h.same (hgr.block g h.lt ?_)
  obtain ⟨cur, hg, _, _⟩ := h.ex
  exact own_ne' ho hg he
/-- A word more. -/
theorem Words.more {w w' : World} {base n g k : Nat} {v v' : Value} {H K : Nat → Nat} {W : Nat → UInt8} (ho : w.ownsRow base 30 1 v n (wordVs H K n)) (hB : ∀ i, i < n → BytesAt w (H i) 4 (fun j => W (4 * i + j)))
    (hg : BytesAt w g 4 (fun j => W (4 * n + j))) (hgr : w.grownBy w' v.ownBlock) (hrow : w'.ownsRow base 30 1 v' (n + 1) (wordVs H K n ++ [.slice (some ⟨g, 0, none⟩) 4 k])) : Words w' base v' (n + 1) W := by
  refine ⟨updN H n g, updN K n k, by rw [wordVs_succ]; exact hrow, fun i hi => ?_⟩
  unfold updN
  by_cases e : i = n
  · subst e
    rw [if_pos rfl]
    exact hg.grown ho (by decide) hgr
  · rw [if_neg e]
    exact (hB i (by omega)).grown ho (by decide) hgr
theorem Words.at_ {w : World} {base n : Nat} {v : Value} {W : Nat → UInt8} (h : Words w base v n W) (hn : 0 < n) : ∃ gw cap H K, v = .slice (some ⟨gw, 0, none⟩) n cap ∧ base ≤ gw ∧ WordsAt w gw n H K W := by
  obtain ⟨H, K, ⟨h1, h2⟩, hB⟩ := h.ex
  rcases h2 with ⟨_, h0⟩ | ⟨g, cap, cur, rfl, hg, hh, h3, h4, h5, h6⟩
  · omega
  · refine ⟨g, cap, H, K, rfl, hg, ⟨cur, hh, by omega, fun i hi => ?_⟩, hB⟩
    have h7 : (cur.toList.take (n * 1))[i]? = (wordVs H K n)[i]? := by rw [h6]
    rw [List.getElem?_take, if_pos (by omega), Array.getElem?_toList, wordVs_at hi] at h7
    exact h7
theorem info30 : ∃ i, Try.prog.info? 30 = some i ∧ i.zero = some (.slice none 0 0) ∧ i.size = 1 ∧ i.bytes = 24 := ⟨_, rfl, rfl, rfl, rfl⟩
theorem two_tim (p : UInt8) : tim p 2 = twi p := by
  rw [tim_comm, show (2 : UInt8) = twi 1 from rfl, tim_twi, one_tim]

end Go.Proofs.Ytgmnigobappjbaa
