/-
  No cell of these rows narrows 'for every input' (looked for: loops, veiled, ifaces, maps, wideKeys, modest, calm, conditions, laid).
  DERIVED. THE GIVEN ROWS OF THIS SEAT. 7 by the template 'for every input the law returns true; each argument reads behind the call as it read before'; 0 by the template 'total and deterministic' (their statements: YtcgpemefmakjiaaTotals.lean).
  GIVEN WITH THE SEED: the statements are not yours to turn. If you find one false, say at which input.
  Laid BY PROGRAM, IN A SANDBOX (cutbox-rows.mjs): the forced cells as the released guide's own fill.sh prints them over the translation 6ce7c4800af8441c… (all of the seat's roots in one cut). By AI agents, Wed Nov 11 2026. No macro, syntax, notation, axiom, sorry.
-/
import Derived.Test.YtcgpemefmakjiaaChecked
import GoSem.Claim
import GoSem.ClaimJoined
import GoSem.ClaimMapViews
import Derived.JoinedTies
import Derived.KernelRfl
namespace Go.Proofs.Ytcgpemefmakjiaa
/- THE CELL 'sum', in the pinned program and in every row, IS THE sha256 OF THE DUMP (.gsa) THAT YtcgpemefmakjiaaProg.lean LOADS. Nothing in Lean hashes anything: it is a label: what it is worth is what the hold of that sum in a sandbox is worth. -/
noncomputable def Try.pinned : Pinned := { name := "ytcgpemefmakjiaa", sum := "6ce7c4800af8441c7b187fbda4d27c9b4c94e2ae7aea84d19cbd41fbac655917", checked := Try.checked }
namespace Rows
def none {H : Type} : Left H := { results := [], args := [] }

/-- 'dioramalaw36.DiffFinds': WHATEVER THE INPUT: true; the input reads as it did. -/
def diffFindsSpec : ChangeSpec := { name := "diffFinds", fn := fun _ => fun
  | [d1, d2, d3, d4, d5, d6] => { results := [.lit (.bool true)], args := [d1, d2, d3, d4, d5, d6] }
  | _ => none }
def diffFindsRow : OpenClaim := { program := "ytcgpemefmakjiaa", sum := "6ce7c4800af8441c7b187fbda4d27c9b4c94e2ae7aea84d19cbd41fbac655917", func := "diorama/dioramalaw36.DiffFinds", spec := "diffFinds", unfollowed := true, recurses := true, apart := false }
def DiffFindsSaid : Prop := diffFindsRow.holds Try.pinned (OpenSpec.ofChange diffFindsSpec)

/-- ITS FALSE NEIGHBOUR: 'it returns false'. Refute it at one input. -/
def diffFindsWrong : ChangeSpec := { name := "diffFinds", fn := fun _ => fun
  | [d1, d2, d3, d4, d5, d6] => { results := [.lit (.bool false)], args := [d1, d2, d3, d4, d5, d6] }
  | _ => none }
def DiffFindsWrongFalsely : Prop := diffFindsRow.holds Try.pinned (OpenSpec.ofChange diffFindsWrong)

/-- 'dioramalaw36.DiffLeads': WHATEVER THE INPUT: true; the input reads as it did. -/
def diffLeadsSpec : ChangeSpec := { name := "diffLeads", fn := fun _ => fun
  | [d1, d2] => { results := [.lit (.bool true)], args := [d1, d2] }
  | _ => none }
def diffLeadsRow : OpenClaim := { program := "ytcgpemefmakjiaa", sum := "6ce7c4800af8441c7b187fbda4d27c9b4c94e2ae7aea84d19cbd41fbac655917", func := "diorama/dioramalaw36.DiffLeads", spec := "diffLeads", unfollowed := true, recurses := true, apart := false }
def DiffLeadsSaid : Prop := diffLeadsRow.holds Try.pinned (OpenSpec.ofChange diffLeadsSpec)

/-- ITS FALSE NEIGHBOUR: 'it returns false'. Refute it at one input. -/
def diffLeadsWrong : ChangeSpec := { name := "diffLeads", fn := fun _ => fun
  | [d1, d2] => { results := [.lit (.bool false)], args := [d1, d2] }
  | _ => none }
def DiffLeadsWrongFalsely : Prop := diffLeadsRow.holds Try.pinned (OpenSpec.ofChange diffLeadsWrong)

/-- 'dioramalaw36.DiffFewest': WHATEVER THE INPUT: true; the input reads as it did. -/
def diffFewestSpec : ChangeSpec := { name := "diffFewest", fn := fun _ => fun
  | [d1, d2, d3, d4, d5, d6] => { results := [.lit (.bool true)], args := [d1, d2, d3, d4, d5, d6] }
  | _ => none }
def diffFewestRow : OpenClaim := { program := "ytcgpemefmakjiaa", sum := "6ce7c4800af8441c7b187fbda4d27c9b4c94e2ae7aea84d19cbd41fbac655917", func := "diorama/dioramalaw36.DiffFewest", spec := "diffFewest", unfollowed := true, recurses := true, apart := false }
def DiffFewestSaid : Prop := diffFewestRow.holds Try.pinned (OpenSpec.ofChange diffFewestSpec)

/-- ITS FALSE NEIGHBOUR: 'it returns false'. Refute it at one input. -/
def diffFewestWrong : ChangeSpec := { name := "diffFewest", fn := fun _ => fun
  | [d1, d2, d3, d4, d5, d6] => { results := [.lit (.bool false)], args := [d1, d2, d3, d4, d5, d6] }
  | _ => none }
def DiffFewestWrongFalsely : Prop := diffFewestRow.holds Try.pinned (OpenSpec.ofChange diffFewestWrong)

/-- 'dioramalaw36.DiffApplies': WHATEVER THE INPUT: true; the input reads as it did. -/
def diffAppliesSpec : ChangeSpec := { name := "diffApplies", fn := fun _ => fun
  | [d1, d2, d3, d4, d5, d6] => { results := [.lit (.bool true)], args := [d1, d2, d3, d4, d5, d6] }
  | _ => none }
def diffAppliesRow : OpenClaim := { program := "ytcgpemefmakjiaa", sum := "6ce7c4800af8441c7b187fbda4d27c9b4c94e2ae7aea84d19cbd41fbac655917", func := "diorama/dioramalaw36.DiffApplies", spec := "diffApplies", unfollowed := true, recurses := true, apart := false }
def DiffAppliesSaid : Prop := diffAppliesRow.holds Try.pinned (OpenSpec.ofChange diffAppliesSpec)

/-- ITS FALSE NEIGHBOUR: 'it returns false'. Refute it at one input. -/
def diffAppliesWrong : ChangeSpec := { name := "diffApplies", fn := fun _ => fun
  | [d1, d2, d3, d4, d5, d6] => { results := [.lit (.bool false)], args := [d1, d2, d3, d4, d5, d6] }
  | _ => none }
def DiffAppliesWrongFalsely : Prop := diffAppliesRow.holds Try.pinned (OpenSpec.ofChange diffAppliesWrong)

/-- 'dioramalaw36.DiffBytes': WHATEVER THE INPUT: true; the input reads as it did. -/
def diffBytesSpec : ChangeSpec := { name := "diffBytes", fn := fun _ => fun
  | [d1, d2] => { results := [.lit (.bool true)], args := [d1, d2] }
  | _ => none }
def diffBytesRow : OpenClaim := { program := "ytcgpemefmakjiaa", sum := "6ce7c4800af8441c7b187fbda4d27c9b4c94e2ae7aea84d19cbd41fbac655917", func := "diorama/dioramalaw36.DiffBytes", spec := "diffBytes", unfollowed := true, recurses := true, apart := false }
def DiffBytesSaid : Prop := diffBytesRow.holds Try.pinned (OpenSpec.ofChange diffBytesSpec)

/-- ITS FALSE NEIGHBOUR: 'it returns false'. Refute it at one input. -/
def diffBytesWrong : ChangeSpec := { name := "diffBytes", fn := fun _ => fun
  | [d1, d2] => { results := [.lit (.bool false)], args := [d1, d2] }
  | _ => none }
def DiffBytesWrongFalsely : Prop := diffBytesRow.holds Try.pinned (OpenSpec.ofChange diffBytesWrong)

/-- 'dioramalaw36.DiffMerges': WHATEVER THE INPUT: true; the input reads as it did. -/
def diffMergesSpec : ChangeSpec := { name := "diffMerges", fn := fun _ => fun
  | [d1, d2, d3, d4, d5, d6] => { results := [.lit (.bool true)], args := [d1, d2, d3, d4, d5, d6] }
  | _ => none }
def diffMergesRow : OpenClaim := { program := "ytcgpemefmakjiaa", sum := "6ce7c4800af8441c7b187fbda4d27c9b4c94e2ae7aea84d19cbd41fbac655917", func := "diorama/dioramalaw36.DiffMerges", spec := "diffMerges", unfollowed := true, recurses := true, apart := false }
def DiffMergesSaid : Prop := diffMergesRow.holds Try.pinned (OpenSpec.ofChange diffMergesSpec)

/-- ITS FALSE NEIGHBOUR: 'it returns false'. Refute it at one input. -/
def diffMergesWrong : ChangeSpec := { name := "diffMerges", fn := fun _ => fun
  | [d1, d2, d3, d4, d5, d6] => { results := [.lit (.bool false)], args := [d1, d2, d3, d4, d5, d6] }
  | _ => none }
def DiffMergesWrongFalsely : Prop := diffMergesRow.holds Try.pinned (OpenSpec.ofChange diffMergesWrong)

/-- 'dioramalaw36.DiffMerged': WHATEVER THE INPUT: true; the input reads as it did. -/
def diffMergedSpec : ChangeSpec := { name := "diffMerged", fn := fun _ => fun
  | [d1, d2, d3] => { results := [.lit (.bool true)], args := [d1, d2, d3] }
  | _ => none }
def diffMergedRow : OpenClaim := { program := "ytcgpemefmakjiaa", sum := "6ce7c4800af8441c7b187fbda4d27c9b4c94e2ae7aea84d19cbd41fbac655917", func := "diorama/dioramalaw36.DiffMerged", spec := "diffMerged", unfollowed := true, recurses := true, apart := false }
def DiffMergedSaid : Prop := diffMergedRow.holds Try.pinned (OpenSpec.ofChange diffMergedSpec)

/-- ITS FALSE NEIGHBOUR: 'it returns false'. Refute it at one input. -/
def diffMergedWrong : ChangeSpec := { name := "diffMerged", fn := fun _ => fun
  | [d1, d2, d3] => { results := [.lit (.bool false)], args := [d1, d2, d3] }
  | _ => none }
def DiffMergedWrongFalsely : Prop := diffMergedRow.holds Try.pinned (OpenSpec.ofChange diffMergedWrong)

/- THE SECOND FORM. 'bulk': how many values and letters a reading holds, each counted each time it is reached (what is shared counts as often as it is met; a slice's spare places count too). A statement '..UptoSaid' is the law's where the arguments, and the package variables that the reading takes, are together of bulk at most 1048576: NARROWER than '..Said'. Prove '..Said' where nothing that the law and all that it calls make is longer than what came in: it says more and counts as full. Else prove '..UptoSaid'. A law counts once. -/
mutual
def uptoBulk {H : Type} : DataW H → Nat
  | .lit (.string bytes) => bytes.length + 1
  | .lit _ => 1
  | .nil => 1
  | .ptr d => uptoBulk d + 1
  | .slice elems spare => uptoBulkAll elems + uptoBulkAll spare + 1
  | .agg parts => uptoBulkAll parts + 1
  | .iface _ d => uptoBulk d + 1
  | .map entries => uptoBulkEntries entries + 1
  | .held _ => 1
def uptoBulkAll {H : Type} : List (DataW H) → Nat
  | [] => 0
  | d :: r => uptoBulk d + uptoBulkAll r
def uptoBulkEntries {H : Type} : List (Lit × DataW H) → Nat
  | [] => 0
  | x :: r => uptoBulkEntry x + uptoBulkEntries r
def uptoBulkEntry {H : Type} : Lit × DataW H → Nat
  | (.string bytes, d) => bytes.length + uptoBulk d + 1
  | (_, d) => uptoBulk d + 1
 end
def uptoSmall : (H : Type) → List (DataW H) → Bool := fun _ ds => decide (uptoBulkAll ds ≤ 1048576)
def OpenSpec.upto (s : _root_.Go.ChangeSpec) : _root_.Go.OpenSpec := { _root_.Go.OpenSpec.ofChange s with cond := some uptoSmall }

/-- 'dioramalaw36.DiffFinds', WHERE WHAT IT READS IS OF BULK AT MOST 1048576: true; the input reads as it did. -/
def diffFindsUptoRow : OpenClaim := { program := "ytcgpemefmakjiaa", sum := "6ce7c4800af8441c7b187fbda4d27c9b4c94e2ae7aea84d19cbd41fbac655917", func := "diorama/dioramalaw36.DiffFinds", spec := "diffFinds", unfollowed := true, recurses := true, apart := false, narrowed := true }
def DiffFindsUptoSaid : Prop := diffFindsUptoRow.holds Try.pinned (OpenSpec.upto diffFindsSpec)

/-- 'dioramalaw36.DiffLeads', WHERE WHAT IT READS IS OF BULK AT MOST 1048576: true; the input reads as it did. -/
def diffLeadsUptoRow : OpenClaim := { program := "ytcgpemefmakjiaa", sum := "6ce7c4800af8441c7b187fbda4d27c9b4c94e2ae7aea84d19cbd41fbac655917", func := "diorama/dioramalaw36.DiffLeads", spec := "diffLeads", unfollowed := true, recurses := true, apart := false, narrowed := true }
def DiffLeadsUptoSaid : Prop := diffLeadsUptoRow.holds Try.pinned (OpenSpec.upto diffLeadsSpec)

/-- 'dioramalaw36.DiffFewest', WHERE WHAT IT READS IS OF BULK AT MOST 1048576: true; the input reads as it did. -/
def diffFewestUptoRow : OpenClaim := { program := "ytcgpemefmakjiaa", sum := "6ce7c4800af8441c7b187fbda4d27c9b4c94e2ae7aea84d19cbd41fbac655917", func := "diorama/dioramalaw36.DiffFewest", spec := "diffFewest", unfollowed := true, recurses := true, apart := false, narrowed := true }
def DiffFewestUptoSaid : Prop := diffFewestUptoRow.holds Try.pinned (OpenSpec.upto diffFewestSpec)

/-- 'dioramalaw36.DiffApplies', WHERE WHAT IT READS IS OF BULK AT MOST 1048576: true; the input reads as it did. -/
def diffAppliesUptoRow : OpenClaim := { program := "ytcgpemefmakjiaa", sum := "6ce7c4800af8441c7b187fbda4d27c9b4c94e2ae7aea84d19cbd41fbac655917", func := "diorama/dioramalaw36.DiffApplies", spec := "diffApplies", unfollowed := true, recurses := true, apart := false, narrowed := true }
def DiffAppliesUptoSaid : Prop := diffAppliesUptoRow.holds Try.pinned (OpenSpec.upto diffAppliesSpec)

/-- 'dioramalaw36.DiffBytes', WHERE WHAT IT READS IS OF BULK AT MOST 1048576: true; the input reads as it did. -/
def diffBytesUptoRow : OpenClaim := { program := "ytcgpemefmakjiaa", sum := "6ce7c4800af8441c7b187fbda4d27c9b4c94e2ae7aea84d19cbd41fbac655917", func := "diorama/dioramalaw36.DiffBytes", spec := "diffBytes", unfollowed := true, recurses := true, apart := false, narrowed := true }
def DiffBytesUptoSaid : Prop := diffBytesUptoRow.holds Try.pinned (OpenSpec.upto diffBytesSpec)

/-- 'dioramalaw36.DiffMerges', WHERE WHAT IT READS IS OF BULK AT MOST 1048576: true; the input reads as it did. -/
def diffMergesUptoRow : OpenClaim := { program := "ytcgpemefmakjiaa", sum := "6ce7c4800af8441c7b187fbda4d27c9b4c94e2ae7aea84d19cbd41fbac655917", func := "diorama/dioramalaw36.DiffMerges", spec := "diffMerges", unfollowed := true, recurses := true, apart := false, narrowed := true }
def DiffMergesUptoSaid : Prop := diffMergesUptoRow.holds Try.pinned (OpenSpec.upto diffMergesSpec)

/-- 'dioramalaw36.DiffMerged', WHERE WHAT IT READS IS OF BULK AT MOST 1048576: true; the input reads as it did. -/
def diffMergedUptoRow : OpenClaim := { program := "ytcgpemefmakjiaa", sum := "6ce7c4800af8441c7b187fbda4d27c9b4c94e2ae7aea84d19cbd41fbac655917", func := "diorama/dioramalaw36.DiffMerged", spec := "diffMerged", unfollowed := true, recurses := true, apart := false, narrowed := true }
def DiffMergedUptoSaid : Prop := diffMergedUptoRow.holds Try.pinned (OpenSpec.upto diffMergedSpec)

end Rows
end Go.Proofs.Ytcgpemefmakjiaa
