/-
  No cell of these rows narrows 'for every input' (looked for: loops, veiled, ifaces, maps, wideKeys, modest, calm, conditions, laid).
  DERIVED. THE GIVEN ROWS OF THIS SEAT. 8 by the template 'for every input the law returns true; each argument reads behind the call as it read before'; 0 by the template 'total and deterministic' (their statements: YtgjdkdfgfbonfaaTotals.lean).
  GIVEN WITH THE SEED: the statements are not yours to turn. If you find one false, say at which input.
  Laid BY PROGRAM, IN A SANDBOX (cutbox-rows.mjs): the forced cells as the released guide's own fill.sh prints them over the translation 5de5761294a30ae3… (all of the seat's roots in one cut). By AI agents, Wed Nov 11 2026. No macro, syntax, notation, axiom, sorry.
-/
import Derived.Test.YtgjdkdfgfbonfaaChecked
import GoSem.Claim
import GoSem.ClaimJoined
import GoSem.ClaimMapViews
import Derived.JoinedTies
import Derived.KernelRfl
namespace Go.Proofs.Ytgjdkdfgfbonfaa
/- THE CELL 'sum', in the pinned program and in every row, IS THE sha256 OF THE DUMP (.gsa) THAT YtgjdkdfgfbonfaaProg.lean LOADS. Nothing in Lean hashes anything: it is a label: what it is worth is what the hold of that sum in a sandbox is worth. -/
noncomputable def Try.pinned : Pinned := { name := "ytgjdkdfgfbonfaa", sum := "5de5761294a30ae3d681aa219e0bc3bfeeb608583336d23cd3ea3e8614d6a99e", checked := Try.checked }
namespace Rows
def none {H : Type} : Left H := { results := [], args := [] }

/-- 'twinlocklaw27.ScriptWithin': WHATEVER THE INPUT: true; the input reads as it did. -/
def scriptWithinSpec : ChangeSpec := { name := "scriptWithin", fn := fun _ => fun
  | [d1, d2, d3] => { results := [.lit (.bool true)], args := [d1, d2, d3] }
  | _ => none }
def scriptWithinRow : OpenClaim := { program := "ytgjdkdfgfbonfaa", sum := "5de5761294a30ae3d681aa219e0bc3bfeeb608583336d23cd3ea3e8614d6a99e", func := "twinlock/twinlocklaw27.ScriptWithin", spec := "scriptWithin", unfollowed := true, recurses := true, apart := false }
def ScriptWithinSaid : Prop := scriptWithinRow.holds Try.pinned (OpenSpec.ofChange scriptWithinSpec)

/-- ITS FALSE NEIGHBOUR: 'it returns false'. Refute it at one input. -/
def scriptWithinWrong : ChangeSpec := { name := "scriptWithin", fn := fun _ => fun
  | [d1, d2, d3] => { results := [.lit (.bool false)], args := [d1, d2, d3] }
  | _ => none }
def ScriptWithinWrongFalsely : Prop := scriptWithinRow.holds Try.pinned (OpenSpec.ofChange scriptWithinWrong)

/-- 'twinlocklaw27.ScriptCounts': WHATEVER THE INPUT: true; the input reads as it did. -/
def scriptCountsSpec : ChangeSpec := { name := "scriptCounts", fn := fun _ => fun
  | [d1, d2, d3] => { results := [.lit (.bool true)], args := [d1, d2, d3] }
  | _ => none }
def scriptCountsRow : OpenClaim := { program := "ytgjdkdfgfbonfaa", sum := "5de5761294a30ae3d681aa219e0bc3bfeeb608583336d23cd3ea3e8614d6a99e", func := "twinlock/twinlocklaw27.ScriptCounts", spec := "scriptCounts", unfollowed := true, recurses := true, apart := false }
def ScriptCountsSaid : Prop := scriptCountsRow.holds Try.pinned (OpenSpec.ofChange scriptCountsSpec)

/-- ITS FALSE NEIGHBOUR: 'it returns false'. Refute it at one input. -/
def scriptCountsWrong : ChangeSpec := { name := "scriptCounts", fn := fun _ => fun
  | [d1, d2, d3] => { results := [.lit (.bool false)], args := [d1, d2, d3] }
  | _ => none }
def ScriptCountsWrongFalsely : Prop := scriptCountsRow.holds Try.pinned (OpenSpec.ofChange scriptCountsWrong)

/-- 'twinlocklaw27.ScriptKnown': WHATEVER THE INPUT: true; the input reads as it did. -/
def scriptKnownSpec : ChangeSpec := { name := "scriptKnown", fn := fun _ => fun
  | [] => { results := [.lit (.bool true)], args := [] }
  | _ => none }
def scriptKnownRow : OpenClaim := { program := "ytgjdkdfgfbonfaa", sum := "5de5761294a30ae3d681aa219e0bc3bfeeb608583336d23cd3ea3e8614d6a99e", func := "twinlock/twinlocklaw27.ScriptKnown", spec := "scriptKnown", unfollowed := true, recurses := true, apart := false }
def ScriptKnownSaid : Prop := scriptKnownRow.holds Try.pinned (OpenSpec.ofChange scriptKnownSpec)

/-- ITS FALSE NEIGHBOUR: 'it returns false'. Refute it at one input. -/
def scriptKnownWrong : ChangeSpec := { name := "scriptKnown", fn := fun _ => fun
  | [] => { results := [.lit (.bool false)], args := [] }
  | _ => none }
def ScriptKnownWrongFalsely : Prop := scriptKnownRow.holds Try.pinned (OpenSpec.ofChange scriptKnownWrong)

/-- 'twinlocklaw27.ScriptDraws': WHATEVER THE INPUT: true; the input reads as it did. -/
def scriptDrawsSpec : ChangeSpec := { name := "scriptDraws", fn := fun _ => fun
  | [d1, d2, d3] => { results := [.lit (.bool true)], args := [d1, d2, d3] }
  | _ => none }
def scriptDrawsRow : OpenClaim := { program := "ytgjdkdfgfbonfaa", sum := "5de5761294a30ae3d681aa219e0bc3bfeeb608583336d23cd3ea3e8614d6a99e", func := "twinlock/twinlocklaw27.ScriptDraws", spec := "scriptDraws", unfollowed := true, recurses := true, apart := false }
def ScriptDrawsSaid : Prop := scriptDrawsRow.holds Try.pinned (OpenSpec.ofChange scriptDrawsSpec)

/-- ITS FALSE NEIGHBOUR: 'it returns false'. Refute it at one input. -/
def scriptDrawsWrong : ChangeSpec := { name := "scriptDraws", fn := fun _ => fun
  | [d1, d2, d3] => { results := [.lit (.bool false)], args := [d1, d2, d3] }
  | _ => none }
def ScriptDrawsWrongFalsely : Prop := scriptDrawsRow.holds Try.pinned (OpenSpec.ofChange scriptDrawsWrong)

/-- 'twinlocklaw27.ScriptMixes': WHATEVER THE INPUT: true; the input reads as it did. -/
def scriptMixesSpec : ChangeSpec := { name := "scriptMixes", fn := fun _ => fun
  | [d1, d2] => { results := [.lit (.bool true)], args := [d1, d2] }
  | _ => none }
def scriptMixesRow : OpenClaim := { program := "ytgjdkdfgfbonfaa", sum := "5de5761294a30ae3d681aa219e0bc3bfeeb608583336d23cd3ea3e8614d6a99e", func := "twinlock/twinlocklaw27.ScriptMixes", spec := "scriptMixes", unfollowed := true, recurses := true, apart := false }
def ScriptMixesSaid : Prop := scriptMixesRow.holds Try.pinned (OpenSpec.ofChange scriptMixesSpec)

/-- ITS FALSE NEIGHBOUR: 'it returns false'. Refute it at one input. -/
def scriptMixesWrong : ChangeSpec := { name := "scriptMixes", fn := fun _ => fun
  | [d1, d2] => { results := [.lit (.bool false)], args := [d1, d2] }
  | _ => none }
def ScriptMixesWrongFalsely : Prop := scriptMixesRow.holds Try.pinned (OpenSpec.ofChange scriptMixesWrong)

/-- 'twinlocklaw27.ScriptActs': WHATEVER THE INPUT: true; the input reads as it did. -/
def scriptActsSpec : ChangeSpec := { name := "scriptActs", fn := fun _ => fun
  | [d1, d2, d3] => { results := [.lit (.bool true)], args := [d1, d2, d3] }
  | _ => none }
def scriptActsRow : OpenClaim := { program := "ytgjdkdfgfbonfaa", sum := "5de5761294a30ae3d681aa219e0bc3bfeeb608583336d23cd3ea3e8614d6a99e", func := "twinlock/twinlocklaw27.ScriptActs", spec := "scriptActs", unfollowed := true, recurses := true, apart := false }
def ScriptActsSaid : Prop := scriptActsRow.holds Try.pinned (OpenSpec.ofChange scriptActsSpec)

/-- ITS FALSE NEIGHBOUR: 'it returns false'. Refute it at one input. -/
def scriptActsWrong : ChangeSpec := { name := "scriptActs", fn := fun _ => fun
  | [d1, d2, d3] => { results := [.lit (.bool false)], args := [d1, d2, d3] }
  | _ => none }
def ScriptActsWrongFalsely : Prop := scriptActsRow.holds Try.pinned (OpenSpec.ofChange scriptActsWrong)

/-- 'twinlocklaw27.ScriptAhead': WHATEVER THE INPUT: true; the input reads as it did. -/
def scriptAheadSpec : ChangeSpec := { name := "scriptAhead", fn := fun _ => fun
  | [d1, d2, d3, d4] => { results := [.lit (.bool true)], args := [d1, d2, d3, d4] }
  | _ => none }
def scriptAheadRow : OpenClaim := { program := "ytgjdkdfgfbonfaa", sum := "5de5761294a30ae3d681aa219e0bc3bfeeb608583336d23cd3ea3e8614d6a99e", func := "twinlock/twinlocklaw27.ScriptAhead", spec := "scriptAhead", unfollowed := true, recurses := true, apart := false }
def ScriptAheadSaid : Prop := scriptAheadRow.holds Try.pinned (OpenSpec.ofChange scriptAheadSpec)

/-- ITS FALSE NEIGHBOUR: 'it returns false'. Refute it at one input. -/
def scriptAheadWrong : ChangeSpec := { name := "scriptAhead", fn := fun _ => fun
  | [d1, d2, d3, d4] => { results := [.lit (.bool false)], args := [d1, d2, d3, d4] }
  | _ => none }
def ScriptAheadWrongFalsely : Prop := scriptAheadRow.holds Try.pinned (OpenSpec.ofChange scriptAheadWrong)

/-- 'twinlocklaw27.ScriptJoins': WHATEVER THE INPUT: true; the input reads as it did. -/
def scriptJoinsSpec : ChangeSpec := { name := "scriptJoins", fn := fun _ => fun
  | [d1, d2, d3, d4] => { results := [.lit (.bool true)], args := [d1, d2, d3, d4] }
  | _ => none }
def scriptJoinsRow : OpenClaim := { program := "ytgjdkdfgfbonfaa", sum := "5de5761294a30ae3d681aa219e0bc3bfeeb608583336d23cd3ea3e8614d6a99e", func := "twinlock/twinlocklaw27.ScriptJoins", spec := "scriptJoins", unfollowed := true, recurses := true, apart := false }
def ScriptJoinsSaid : Prop := scriptJoinsRow.holds Try.pinned (OpenSpec.ofChange scriptJoinsSpec)

/-- ITS FALSE NEIGHBOUR: 'it returns false'. Refute it at one input. -/
def scriptJoinsWrong : ChangeSpec := { name := "scriptJoins", fn := fun _ => fun
  | [d1, d2, d3, d4] => { results := [.lit (.bool false)], args := [d1, d2, d3, d4] }
  | _ => none }
def ScriptJoinsWrongFalsely : Prop := scriptJoinsRow.holds Try.pinned (OpenSpec.ofChange scriptJoinsWrong)

/- THE SECOND FORM. 'bulk': how many values and letters a reading holds, each counted each time it is reached (what is shared counts as often as it is met; a slice's spare places count too). A statement '..UptoSaid' is the law's where the arguments, and the package variables that the reading takes, are together of bulk at most 1048576: NARROWER than '..Said'. Prove '..Said' where nothing that the law and all that it calls make is longer than what came in: it says more and counts as full. Else prove '..UptoSaid'. A law counts once. -/
mutual
def uptoBulk {H : Type} : DataW H → Nat
  | .lit (.string bytes) => bytes.length + 1
  | .lit _ => 1
  | .nil => 1
  | .ptr d => uptoBulk d + 1
  | .slice elems spare => uptoBulkAll elems + uptoBulkAll spare + 1
  | .agg parts => uptoBulkAll parts + 1
  | .iface _ d => uptoBulk d + 1
  | .map entries => uptoBulkEntries entries + 1
  | .held _ => 1
def uptoBulkAll {H : Type} : List (DataW H) → Nat
  | [] => 0
  | d :: r => uptoBulk d + uptoBulkAll r
def uptoBulkEntries {H : Type} : List (Lit × DataW H) → Nat
  | [] => 0
  | x :: r => uptoBulkEntry x + uptoBulkEntries r
def uptoBulkEntry {H : Type} : Lit × DataW H → Nat
  | (.string bytes, d) => bytes.length + uptoBulk d + 1
  | (_, d) => uptoBulk d + 1
 end
def uptoSmall : (H : Type) → List (DataW H) → Bool := fun _ ds => decide (uptoBulkAll ds ≤ 1048576)
def OpenSpec.upto (s : _root_.Go.ChangeSpec) : _root_.Go.OpenSpec := { _root_.Go.OpenSpec.ofChange s with cond := some uptoSmall }

/-- 'twinlocklaw27.ScriptWithin', WHERE WHAT IT READS IS OF BULK AT MOST 1048576: true; the input reads as it did. -/
def scriptWithinUptoRow : OpenClaim := { program := "ytgjdkdfgfbonfaa", sum := "5de5761294a30ae3d681aa219e0bc3bfeeb608583336d23cd3ea3e8614d6a99e", func := "twinlock/twinlocklaw27.ScriptWithin", spec := "scriptWithin", unfollowed := true, recurses := true, apart := false, narrowed := true }
def ScriptWithinUptoSaid : Prop := scriptWithinUptoRow.holds Try.pinned (OpenSpec.upto scriptWithinSpec)

/-- 'twinlocklaw27.ScriptCounts', WHERE WHAT IT READS IS OF BULK AT MOST 1048576: true; the input reads as it did. -/
def scriptCountsUptoRow : OpenClaim := { program := "ytgjdkdfgfbonfaa", sum := "5de5761294a30ae3d681aa219e0bc3bfeeb608583336d23cd3ea3e8614d6a99e", func := "twinlock/twinlocklaw27.ScriptCounts", spec := "scriptCounts", unfollowed := true, recurses := true, apart := false, narrowed := true }
def ScriptCountsUptoSaid : Prop := scriptCountsUptoRow.holds Try.pinned (OpenSpec.upto scriptCountsSpec)

/-- 'twinlocklaw27.ScriptKnown', WHERE WHAT IT READS IS OF BULK AT MOST 1048576: true; the input reads as it did. -/
def scriptKnownUptoRow : OpenClaim := { program := "ytgjdkdfgfbonfaa", sum := "5de5761294a30ae3d681aa219e0bc3bfeeb608583336d23cd3ea3e8614d6a99e", func := "twinlock/twinlocklaw27.ScriptKnown", spec := "scriptKnown", unfollowed := true, recurses := true, apart := false, narrowed := true }
def ScriptKnownUptoSaid : Prop := scriptKnownUptoRow.holds Try.pinned (OpenSpec.upto scriptKnownSpec)

/-- 'twinlocklaw27.ScriptDraws', WHERE WHAT IT READS IS OF BULK AT MOST 1048576: true; the input reads as it did. -/
def scriptDrawsUptoRow : OpenClaim := { program := "ytgjdkdfgfbonfaa", sum := "5de5761294a30ae3d681aa219e0bc3bfeeb608583336d23cd3ea3e8614d6a99e", func := "twinlock/twinlocklaw27.ScriptDraws", spec := "scriptDraws", unfollowed := true, recurses := true, apart := false, narrowed := true }
def ScriptDrawsUptoSaid : Prop := scriptDrawsUptoRow.holds Try.pinned (OpenSpec.upto scriptDrawsSpec)

/-- 'twinlocklaw27.ScriptMixes', WHERE WHAT IT READS IS OF BULK AT MOST 1048576: true; the input reads as it did. -/
def scriptMixesUptoRow : OpenClaim := { program := "ytgjdkdfgfbonfaa", sum := "5de5761294a30ae3d681aa219e0bc3bfeeb608583336d23cd3ea3e8614d6a99e", func := "twinlock/twinlocklaw27.ScriptMixes", spec := "scriptMixes", unfollowed := true, recurses := true, apart := false, narrowed := true }
def ScriptMixesUptoSaid : Prop := scriptMixesUptoRow.holds Try.pinned (OpenSpec.upto scriptMixesSpec)

/-- 'twinlocklaw27.ScriptActs', WHERE WHAT IT READS IS OF BULK AT MOST 1048576: true; the input reads as it did. -/
def scriptActsUptoRow : OpenClaim := { program := "ytgjdkdfgfbonfaa", sum := "5de5761294a30ae3d681aa219e0bc3bfeeb608583336d23cd3ea3e8614d6a99e", func := "twinlock/twinlocklaw27.ScriptActs", spec := "scriptActs", unfollowed := true, recurses := true, apart := false, narrowed := true }
def ScriptActsUptoSaid : Prop := scriptActsUptoRow.holds Try.pinned (OpenSpec.upto scriptActsSpec)

/-- 'twinlocklaw27.ScriptAhead', WHERE WHAT IT READS IS OF BULK AT MOST 1048576: true; the input reads as it did. -/
def scriptAheadUptoRow : OpenClaim := { program := "ytgjdkdfgfbonfaa", sum := "5de5761294a30ae3d681aa219e0bc3bfeeb608583336d23cd3ea3e8614d6a99e", func := "twinlock/twinlocklaw27.ScriptAhead", spec := "scriptAhead", unfollowed := true, recurses := true, apart := false, narrowed := true }
def ScriptAheadUptoSaid : Prop := scriptAheadUptoRow.holds Try.pinned (OpenSpec.upto scriptAheadSpec)

/-- 'twinlocklaw27.ScriptJoins', WHERE WHAT IT READS IS OF BULK AT MOST 1048576: true; the input reads as it did. -/
def scriptJoinsUptoRow : OpenClaim := { program := "ytgjdkdfgfbonfaa", sum := "5de5761294a30ae3d681aa219e0bc3bfeeb608583336d23cd3ea3e8614d6a99e", func := "twinlock/twinlocklaw27.ScriptJoins", spec := "scriptJoins", unfollowed := true, recurses := true, apart := false, narrowed := true }
def ScriptJoinsUptoSaid : Prop := scriptJoinsUptoRow.holds Try.pinned (OpenSpec.upto scriptJoinsSpec)

end Rows
end Go.Proofs.Ytgjdkdfgfbonfaa
