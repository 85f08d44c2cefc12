/-
  No cell of these rows narrows 'for every input' (looked for: loops, veiled, ifaces, maps, wideKeys, modest, calm, conditions, laid).
  DERIVED. THE GIVEN ROWS OF THIS SEAT. 6 by the template 'for every input the law returns true; each argument reads behind the call as it read before'; 0 by the template 'total and deterministic' (their statements: YtjepdlmdemlkmaaTotals.lean).
  GIVEN WITH THE SEED: the statements are not yours to turn. If you find one false, say at which input.
  Laid BY PROGRAM, IN A SANDBOX (cutbox-rows.mjs): the forced cells as the released guide's own fill.sh prints them over the translation d68844717364da12… (all of the seat's roots in one cut). By AI agents, Wed Nov 11 2026. No macro, syntax, notation, axiom, sorry.
-/
import Derived.Test.YtjepdlmdemlkmaaChecked
import GoSem.Claim
import GoSem.ClaimJoined
import GoSem.ClaimMapViews
import Derived.JoinedTies
import Derived.KernelRfl
namespace Go.Proofs.Ytjepdlmdemlkmaa
/- THE CELL 'sum', in the pinned program and in every row, IS THE sha256 OF THE DUMP (.gsa) THAT YtjepdlmdemlkmaaProg.lean LOADS. Nothing in Lean hashes anything: it is a label: what it is worth is what the hold of that sum in a sandbox is worth. -/
noncomputable def Try.pinned : Pinned := { name := "ytjepdlmdemlkmaa", sum := "d68844717364da12d98f6588bec56ade71591f84b70663eb43a90855118eae94", checked := Try.checked }
namespace Rows
def none {H : Type} : Left H := { results := [], args := [] }

/-- 'twinlocklaw25.FenceTop': WHATEVER THE INPUT: true; the input reads as it did. -/
def fenceTopSpec : ChangeSpec := { name := "fenceTop", fn := fun _ => fun
  | [d1, d2] => { results := [.lit (.bool true)], args := [d1, d2] }
  | _ => none }
def fenceTopRow : OpenClaim := { program := "ytjepdlmdemlkmaa", sum := "d68844717364da12d98f6588bec56ade71591f84b70663eb43a90855118eae94", func := "twinlock/twinlocklaw25.FenceTop", spec := "fenceTop", apart := false }
def FenceTopSaid : Prop := fenceTopRow.holds Try.pinned (OpenSpec.ofChange fenceTopSpec)

/-- ITS FALSE NEIGHBOUR: 'it returns false'. Refute it at one input. -/
def fenceTopWrong : ChangeSpec := { name := "fenceTop", fn := fun _ => fun
  | [d1, d2] => { results := [.lit (.bool false)], args := [d1, d2] }
  | _ => none }
def FenceTopWrongFalsely : Prop := fenceTopRow.holds Try.pinned (OpenSpec.ofChange fenceTopWrong)

/-- 'twinlocklaw25.FenceDoes': WHATEVER THE INPUT: true; the input reads as it did. -/
def fenceDoesSpec : ChangeSpec := { name := "fenceDoes", fn := fun _ => fun
  | [d1, d2] => { results := [.lit (.bool true)], args := [d1, d2] }
  | _ => none }
def fenceDoesRow : OpenClaim := { program := "ytjepdlmdemlkmaa", sum := "d68844717364da12d98f6588bec56ade71591f84b70663eb43a90855118eae94", func := "twinlock/twinlocklaw25.FenceDoes", spec := "fenceDoes", apart := false }
def FenceDoesSaid : Prop := fenceDoesRow.holds Try.pinned (OpenSpec.ofChange fenceDoesSpec)

/-- ITS FALSE NEIGHBOUR: 'it returns false'. Refute it at one input. -/
def fenceDoesWrong : ChangeSpec := { name := "fenceDoes", fn := fun _ => fun
  | [d1, d2] => { results := [.lit (.bool false)], args := [d1, d2] }
  | _ => none }
def FenceDoesWrongFalsely : Prop := fenceDoesRow.holds Try.pinned (OpenSpec.ofChange fenceDoesWrong)

/-- 'twinlocklaw25.FencePlays': WHATEVER THE INPUT: true; the input reads as it did. -/
def fencePlaysSpec : ChangeSpec := { name := "fencePlays", fn := fun _ => fun
  | [d] => { results := [.lit (.bool true)], args := [d] }
  | _ => none }
def fencePlaysRow : OpenClaim := { program := "ytjepdlmdemlkmaa", sum := "d68844717364da12d98f6588bec56ade71591f84b70663eb43a90855118eae94", func := "twinlock/twinlocklaw25.FencePlays", spec := "fencePlays", apart := false }
def FencePlaysSaid : Prop := fencePlaysRow.holds Try.pinned (OpenSpec.ofChange fencePlaysSpec)

/-- ITS FALSE NEIGHBOUR: 'it returns false'. Refute it at one input. -/
def fencePlaysWrong : ChangeSpec := { name := "fencePlays", fn := fun _ => fun
  | [d] => { results := [.lit (.bool false)], args := [d] }
  | _ => none }
def FencePlaysWrongFalsely : Prop := fencePlaysRow.holds Try.pinned (OpenSpec.ofChange fencePlaysWrong)

/-- 'twinlocklaw25.FenceHolds': WHATEVER THE INPUT: true; the input reads as it did. -/
def fenceHoldsSpec : ChangeSpec := { name := "fenceHolds", fn := fun _ => fun
  | [d] => { results := [.lit (.bool true)], args := [d] }
  | _ => none }
def fenceHoldsRow : OpenClaim := { program := "ytjepdlmdemlkmaa", sum := "d68844717364da12d98f6588bec56ade71591f84b70663eb43a90855118eae94", func := "twinlock/twinlocklaw25.FenceHolds", spec := "fenceHolds", apart := false }
def FenceHoldsSaid : Prop := fenceHoldsRow.holds Try.pinned (OpenSpec.ofChange fenceHoldsSpec)

/-- ITS FALSE NEIGHBOUR: 'it returns false'. Refute it at one input. -/
def fenceHoldsWrong : ChangeSpec := { name := "fenceHolds", fn := fun _ => fun
  | [d] => { results := [.lit (.bool false)], args := [d] }
  | _ => none }
def FenceHoldsWrongFalsely : Prop := fenceHoldsRow.holds Try.pinned (OpenSpec.ofChange fenceHoldsWrong)

/-- 'twinlocklaw25.FenceOnce': WHATEVER THE INPUT: true; the input reads as it did. -/
def fenceOnceSpec : ChangeSpec := { name := "fenceOnce", fn := fun _ => fun
  | [d1, d2] => { results := [.lit (.bool true)], args := [d1, d2] }
  | _ => none }
def fenceOnceRow : OpenClaim := { program := "ytjepdlmdemlkmaa", sum := "d68844717364da12d98f6588bec56ade71591f84b70663eb43a90855118eae94", func := "twinlock/twinlocklaw25.FenceOnce", spec := "fenceOnce", apart := false }
def FenceOnceSaid : Prop := fenceOnceRow.holds Try.pinned (OpenSpec.ofChange fenceOnceSpec)

/-- ITS FALSE NEIGHBOUR: 'it returns false'. Refute it at one input. -/
def fenceOnceWrong : ChangeSpec := { name := "fenceOnce", fn := fun _ => fun
  | [d1, d2] => { results := [.lit (.bool false)], args := [d1, d2] }
  | _ => none }
def FenceOnceWrongFalsely : Prop := fenceOnceRow.holds Try.pinned (OpenSpec.ofChange fenceOnceWrong)

/-- 'twinlocklaw25.FenceKnown': WHATEVER THE INPUT: true; the input reads as it did. -/
def fenceKnownSpec : ChangeSpec := { name := "fenceKnown", fn := fun _ => fun
  | [] => { results := [.lit (.bool true)], args := [] }
  | _ => none }
def fenceKnownRow : OpenClaim := { program := "ytjepdlmdemlkmaa", sum := "d68844717364da12d98f6588bec56ade71591f84b70663eb43a90855118eae94", func := "twinlock/twinlocklaw25.FenceKnown", spec := "fenceKnown", apart := false }
def FenceKnownSaid : Prop := fenceKnownRow.holds Try.pinned (OpenSpec.ofChange fenceKnownSpec)

/-- ITS FALSE NEIGHBOUR: 'it returns false'. Refute it at one input. -/
def fenceKnownWrong : ChangeSpec := { name := "fenceKnown", fn := fun _ => fun
  | [] => { results := [.lit (.bool false)], args := [] }
  | _ => none }
def FenceKnownWrongFalsely : Prop := fenceKnownRow.holds Try.pinned (OpenSpec.ofChange fenceKnownWrong)

/- THE SECOND FORM. 'bulk': how many values and letters a reading holds, each counted each time it is reached (what is shared counts as often as it is met; a slice's spare places count too). A statement '..UptoSaid' is the law's where the arguments, and the package variables that the reading takes, are together of bulk at most 1048576: NARROWER than '..Said'. Prove '..Said' where nothing that the law and all that it calls make is longer than what came in: it says more and counts as full. Else prove '..UptoSaid'. A law counts once. -/
mutual
def uptoBulk {H : Type} : DataW H → Nat
  | .lit (.string bytes) => bytes.length + 1
  | .lit _ => 1
  | .nil => 1
  | .ptr d => uptoBulk d + 1
  | .slice elems spare => uptoBulkAll elems + uptoBulkAll spare + 1
  | .agg parts => uptoBulkAll parts + 1
  | .iface _ d => uptoBulk d + 1
  | .map entries => uptoBulkEntries entries + 1
  | .held _ => 1
def uptoBulkAll {H : Type} : List (DataW H) → Nat
  | [] => 0
  | d :: r => uptoBulk d + uptoBulkAll r
def uptoBulkEntries {H : Type} : List (Lit × DataW H) → Nat
  | [] => 0
  | x :: r => uptoBulkEntry x + uptoBulkEntries r
def uptoBulkEntry {H : Type} : Lit × DataW H → Nat
  | (.string bytes, d) => bytes.length + uptoBulk d + 1
  | (_, d) => uptoBulk d + 1
 end
def uptoSmall : (H : Type) → List (DataW H) → Bool := fun _ ds => decide (uptoBulkAll ds ≤ 1048576)
def OpenSpec.upto (s : _root_.Go.ChangeSpec) : _root_.Go.OpenSpec := { _root_.Go.OpenSpec.ofChange s with cond := some uptoSmall }

/-- 'twinlocklaw25.FenceTop', WHERE WHAT IT READS IS OF BULK AT MOST 1048576: true; the input reads as it did. -/
def fenceTopUptoRow : OpenClaim := { program := "ytjepdlmdemlkmaa", sum := "d68844717364da12d98f6588bec56ade71591f84b70663eb43a90855118eae94", func := "twinlock/twinlocklaw25.FenceTop", spec := "fenceTop", apart := false, narrowed := true }
def FenceTopUptoSaid : Prop := fenceTopUptoRow.holds Try.pinned (OpenSpec.upto fenceTopSpec)

/-- 'twinlocklaw25.FenceDoes', WHERE WHAT IT READS IS OF BULK AT MOST 1048576: true; the input reads as it did. -/
def fenceDoesUptoRow : OpenClaim := { program := "ytjepdlmdemlkmaa", sum := "d68844717364da12d98f6588bec56ade71591f84b70663eb43a90855118eae94", func := "twinlock/twinlocklaw25.FenceDoes", spec := "fenceDoes", apart := false, narrowed := true }
def FenceDoesUptoSaid : Prop := fenceDoesUptoRow.holds Try.pinned (OpenSpec.upto fenceDoesSpec)

/-- 'twinlocklaw25.FencePlays', WHERE WHAT IT READS IS OF BULK AT MOST 1048576: true; the input reads as it did. -/
def fencePlaysUptoRow : OpenClaim := { program := "ytjepdlmdemlkmaa", sum := "d68844717364da12d98f6588bec56ade71591f84b70663eb43a90855118eae94", func := "twinlock/twinlocklaw25.FencePlays", spec := "fencePlays", apart := false, narrowed := true }
def FencePlaysUptoSaid : Prop := fencePlaysUptoRow.holds Try.pinned (OpenSpec.upto fencePlaysSpec)

/-- 'twinlocklaw25.FenceHolds', WHERE WHAT IT READS IS OF BULK AT MOST 1048576: true; the input reads as it did. -/
def fenceHoldsUptoRow : OpenClaim := { program := "ytjepdlmdemlkmaa", sum := "d68844717364da12d98f6588bec56ade71591f84b70663eb43a90855118eae94", func := "twinlock/twinlocklaw25.FenceHolds", spec := "fenceHolds", apart := false, narrowed := true }
def FenceHoldsUptoSaid : Prop := fenceHoldsUptoRow.holds Try.pinned (OpenSpec.upto fenceHoldsSpec)

/-- 'twinlocklaw25.FenceOnce', WHERE WHAT IT READS IS OF BULK AT MOST 1048576: true; the input reads as it did. -/
def fenceOnceUptoRow : OpenClaim := { program := "ytjepdlmdemlkmaa", sum := "d68844717364da12d98f6588bec56ade71591f84b70663eb43a90855118eae94", func := "twinlock/twinlocklaw25.FenceOnce", spec := "fenceOnce", apart := false, narrowed := true }
def FenceOnceUptoSaid : Prop := fenceOnceUptoRow.holds Try.pinned (OpenSpec.upto fenceOnceSpec)

/-- 'twinlocklaw25.FenceKnown', WHERE WHAT IT READS IS OF BULK AT MOST 1048576: true; the input reads as it did. -/
def fenceKnownUptoRow : OpenClaim := { program := "ytjepdlmdemlkmaa", sum := "d68844717364da12d98f6588bec56ade71591f84b70663eb43a90855118eae94", func := "twinlock/twinlocklaw25.FenceKnown", spec := "fenceKnown", apart := false, narrowed := true }
def FenceKnownUptoSaid : Prop := fenceKnownUptoRow.holds Try.pinned (OpenSpec.upto fenceKnownSpec)

end Rows
end Go.Proofs.Ytjepdlmdemlkmaa
