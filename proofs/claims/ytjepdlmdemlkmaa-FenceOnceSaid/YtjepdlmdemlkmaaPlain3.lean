/- What a stand's Grant can become. No program is named here. Conditions: none. -/
import Derived.Test.YtjepdlmdemlkmaaPlain2
namespace Go.Proofs.Ytjepdlmdemlkmaa

theorem does_right {r s g d ep : Int} (h : rightP r s g) (hd : 0 ≤ d) : rightP (doesN r s g d ep).1.r (doesN r s g d ep).1.s (doesN r s g d ep).1.g := by
  rcases round_cases r s g d ep _ h hd rfl with (⟨e, hy, _, _⟩ | ⟨_, h2, rfl, hy⟩ | ⟨_, h2, h3, hy⟩) | (⟨_, h2, hy⟩ | ⟨_, h2, _, _, _, hy⟩ | ⟨_, h2, _, _, _, hy⟩) | (⟨_, h2, hy⟩ | ⟨_, rfl, hy⟩ | ⟨_, hy⟩)
  all_goals rw [hy]
  · exact h
  · exact next_13 h h2
  · rcases h3 with rfl | rfl
    · exact next_22 h h2
    · exact next_33 h h2
  · exact h
  · exact next_11 h2
  · exact next_20 h2
  · exact next_r1 h h2
  · exact next_32 h
  · exact h

theorem does_grant {r s g d ep : Int} (h : rightP r s g) (hd : 0 ≤ d) : (doesN r s g d ep).1.g = g ∨ (doesN r s g d ep).1.g = 0 ∨ ((d = 1 ∨ d = 3) ∧ (doesN r s g d ep).1.g = ep) := by
  rcases round_cases r s g d ep _ h hd rfl with (⟨e, hy, _, _⟩ | ⟨_, h2, rfl, hy⟩ | ⟨_, h2, h3, hy⟩) | (⟨_, h2, hy⟩ | ⟨hd', h2, _, _, _, hy⟩ | ⟨_, h2, _, _, _, hy⟩) | (⟨hd', h2, hy⟩ | ⟨_, rfl, hy⟩ | ⟨_, hy⟩)
  all_goals rw [hy]
  · exact .inl rfl
  · exact .inl rfl
  · exact .inl rfl
  · exact .inl rfl
  · exact .inr (.inr ⟨.inl hd', rfl⟩)
  · exact .inr (.inl rfl)
  · exact .inr (.inr ⟨.inr hd', rfl⟩)
  · exact .inl rfl
  · exact .inl rfl

/-- The epoch of a grant to the first stand is even, to the second odd: what is granted keeps to it. -/
theorem even_next {r s g d ep e : Int} (h : rightP r s g) (hd : 0 ≤ d) (hg : g % 2 = 0) (he : e % 2 = 0) (hep : (d = 1 ∨ d = 3) → ep = e) : (doesN r s g d ep).1.g % 2 = 0 := by
  rcases does_grant (ep := ep) h hd with h1 | h1 | ⟨h0, h1⟩ <;> rw [h1]
  · exact hg
  · rfl
  · rw [hep h0]; exact he
theorem odd_next {r s g d ep e : Int} (h : rightP r s g) (hd : 0 ≤ d) (hg : g = 0 ∨ g % 2 = 1) (he : e % 2 = 1) (hep : (d = 1 ∨ d = 3) → ep = e) : (doesN r s g d ep).1.g = 0 ∨ (doesN r s g d ep).1.g % 2 = 1 := by
  rcases does_grant (ep := ep) h hd with h1 | h1 | ⟨h0, h1⟩ <;> rw [h1]
  · exact hg
  · exact .inl rfl
  · rw [hep h0]; exact .inr he

/-- Of two stands that write, the one with an even Grant, the other with an odd one, the Grants differ. -/
theorem once_ways {r s g r' s' g' : Int} (h : rightP r s g) (h' : rightP r' s' g') (hg : g % 2 = 0) (hg' : g' = 0 ∨ g' % 2 = 1) :
    (∃ v, writesN r s g = v ∧ (v == 0) = false) ∨ (writesN r s g = 0 ∧ ∃ v, writesN r' s' g' = v ∧ (v == 0) = false) ∨ (writesN r s g = 0 ∧ writesN r' s' g' = 0 ∧ (g == g') = false) := by
  rcases writes_cases r s g h with ⟨h1, h2, h3⟩ | ⟨h1, _⟩ | ⟨v, h1, h2, _, _⟩
  · right
    rcases writes_cases r' s' g' h' with ⟨h1', h2', h3'⟩ | ⟨h1', _⟩ | ⟨v, h1', h2', _, _⟩
    · right
      refine ⟨h1, h1', beq_eq_false_iff_ne.2 ?_⟩
      unfold rightP at h'
      subst h2'
      omega
    · exact .inl ⟨h1, _, h1', rfl⟩
    · exact .inl ⟨h1, v, h1', h2'⟩
  · exact .inl ⟨_, h1, rfl⟩
  · exact .inl ⟨v, h1, h2⟩

end Go.Proofs.Ytjepdlmdemlkmaa
