/-
  No cell of these rows narrows 'for every input' (looked for: loops, veiled, ifaces, maps, wideKeys, modest, calm, conditions, laid).
  DERIVED. THE GIVEN ROWS OF THIS SEAT. 6 by the template 'for every input the law returns true; each argument reads behind the call as it read before'; 0 by the template 'total and deterministic' (their statements: YtaijjnndnoicpaaTotals.lean).
  GIVEN WITH THE SEED: the statements are not yours to turn. If you find one false, say at which input.
  Laid BY PROGRAM, IN A SANDBOX (cutbox-rows.mjs): the forced cells as the released guide's own fill.sh prints them over the translation 11ac1ed543cbd654… (all of the seat's roots in one cut). By AI agents, Wed Nov 11 2026. No macro, syntax, notation, axiom, sorry.
-/
import Derived.Test.YtaijjnndnoicpaaChecked
import GoSem.Claim
import GoSem.ClaimJoined
import GoSem.ClaimMapViews
import Derived.JoinedTies
import Derived.KernelRfl
namespace Go.Proofs.Ytaijjnndnoicpaa
/- THE CELL 'sum', in the pinned program and in every row, IS THE sha256 OF THE DUMP (.gsa) THAT YtaijjnndnoicpaaProg.lean LOADS. Nothing in Lean hashes anything: it is a label: what it is worth is what the hold of that sum in a sandbox is worth. -/
noncomputable def Try.pinned : Pinned := { name := "ytaijjnndnoicpaa", sum := "11ac1ed543cbd6542360a3344e991f32eab1797835370e66167f6296eaa8fbbf", checked := Try.checked }
namespace Rows
def none {H : Type} : Left H := { results := [], args := [] }

/-- 'eggboxlaw04.SyntaxReads': WHATEVER THE INPUT: true; the input reads as it did. -/
def syntaxReadsSpec : ChangeSpec := { name := "syntaxReads", fn := fun _ => fun
  | [d1, d2] => { results := [.lit (.bool true)], args := [d1, d2] }
  | _ => none }
def syntaxReadsRow : OpenClaim := { program := "ytaijjnndnoicpaa", sum := "11ac1ed543cbd6542360a3344e991f32eab1797835370e66167f6296eaa8fbbf", func := "eggbox/eggboxlaw04.SyntaxReads", spec := "syntaxReads", unfollowed := true, recurses := true, apart := false }
def SyntaxReadsSaid : Prop := syntaxReadsRow.holds Try.pinned (OpenSpec.ofChange syntaxReadsSpec)

/-- ITS FALSE NEIGHBOUR: 'it returns false'. Refute it at one input. -/
def syntaxReadsWrong : ChangeSpec := { name := "syntaxReads", fn := fun _ => fun
  | [d1, d2] => { results := [.lit (.bool false)], args := [d1, d2] }
  | _ => none }
def SyntaxReadsWrongFalsely : Prop := syntaxReadsRow.holds Try.pinned (OpenSpec.ofChange syntaxReadsWrong)

/-- 'eggboxlaw04.SyntaxPrints': WHATEVER THE INPUT: true; the input reads as it did. -/
def syntaxPrintsSpec : ChangeSpec := { name := "syntaxPrints", fn := fun _ => fun
  | [d1, d2] => { results := [.lit (.bool true)], args := [d1, d2] }
  | _ => none }
def syntaxPrintsRow : OpenClaim := { program := "ytaijjnndnoicpaa", sum := "11ac1ed543cbd6542360a3344e991f32eab1797835370e66167f6296eaa8fbbf", func := "eggbox/eggboxlaw04.SyntaxPrints", spec := "syntaxPrints", unfollowed := true, recurses := true, apart := false }
def SyntaxPrintsSaid : Prop := syntaxPrintsRow.holds Try.pinned (OpenSpec.ofChange syntaxPrintsSpec)

/-- ITS FALSE NEIGHBOUR: 'it returns false'. Refute it at one input. -/
def syntaxPrintsWrong : ChangeSpec := { name := "syntaxPrints", fn := fun _ => fun
  | [d1, d2] => { results := [.lit (.bool false)], args := [d1, d2] }
  | _ => none }
def SyntaxPrintsWrongFalsely : Prop := syntaxPrintsRow.holds Try.pinned (OpenSpec.ofChange syntaxPrintsWrong)

/-- 'eggboxlaw04.SyntaxBack': WHATEVER THE INPUT: true; the input reads as it did. -/
def syntaxBackSpec : ChangeSpec := { name := "syntaxBack", fn := fun _ => fun
  | [d1, d2] => { results := [.lit (.bool true)], args := [d1, d2] }
  | _ => none }
def syntaxBackRow : OpenClaim := { program := "ytaijjnndnoicpaa", sum := "11ac1ed543cbd6542360a3344e991f32eab1797835370e66167f6296eaa8fbbf", func := "eggbox/eggboxlaw04.SyntaxBack", spec := "syntaxBack", unfollowed := true, recurses := true, apart := false }
def SyntaxBackSaid : Prop := syntaxBackRow.holds Try.pinned (OpenSpec.ofChange syntaxBackSpec)

/-- ITS FALSE NEIGHBOUR: 'it returns false'. Refute it at one input. -/
def syntaxBackWrong : ChangeSpec := { name := "syntaxBack", fn := fun _ => fun
  | [d1, d2] => { results := [.lit (.bool false)], args := [d1, d2] }
  | _ => none }
def SyntaxBackWrongFalsely : Prop := syntaxBackRow.holds Try.pinned (OpenSpec.ofChange syntaxBackWrong)

/-- 'eggboxlaw04.SyntaxRead': WHATEVER THE INPUT: true; the input reads as it did. -/
def syntaxReadSpec : ChangeSpec := { name := "syntaxRead", fn := fun _ => fun
  | [d1, d2] => { results := [.lit (.bool true)], args := [d1, d2] }
  | _ => none }
def syntaxReadRow : OpenClaim := { program := "ytaijjnndnoicpaa", sum := "11ac1ed543cbd6542360a3344e991f32eab1797835370e66167f6296eaa8fbbf", func := "eggbox/eggboxlaw04.SyntaxRead", spec := "syntaxRead", unfollowed := true, recurses := true, apart := false }
def SyntaxReadSaid : Prop := syntaxReadRow.holds Try.pinned (OpenSpec.ofChange syntaxReadSpec)

/-- ITS FALSE NEIGHBOUR: 'it returns false'. Refute it at one input. -/
def syntaxReadWrong : ChangeSpec := { name := "syntaxRead", fn := fun _ => fun
  | [d1, d2] => { results := [.lit (.bool false)], args := [d1, d2] }
  | _ => none }
def SyntaxReadWrongFalsely : Prop := syntaxReadRow.holds Try.pinned (OpenSpec.ofChange syntaxReadWrong)

/-- 'eggboxlaw04.SyntaxBlanks': WHATEVER THE INPUT: true; the input reads as it did. -/
def syntaxBlanksSpec : ChangeSpec := { name := "syntaxBlanks", fn := fun _ => fun
  | [d1, d2, d3] => { results := [.lit (.bool true)], args := [d1, d2, d3] }
  | _ => none }
def syntaxBlanksRow : OpenClaim := { program := "ytaijjnndnoicpaa", sum := "11ac1ed543cbd6542360a3344e991f32eab1797835370e66167f6296eaa8fbbf", func := "eggbox/eggboxlaw04.SyntaxBlanks", spec := "syntaxBlanks", unfollowed := true, recurses := true, apart := false }
def SyntaxBlanksSaid : Prop := syntaxBlanksRow.holds Try.pinned (OpenSpec.ofChange syntaxBlanksSpec)

/-- ITS FALSE NEIGHBOUR: 'it returns false'. Refute it at one input. -/
def syntaxBlanksWrong : ChangeSpec := { name := "syntaxBlanks", fn := fun _ => fun
  | [d1, d2, d3] => { results := [.lit (.bool false)], args := [d1, d2, d3] }
  | _ => none }
def SyntaxBlanksWrongFalsely : Prop := syntaxBlanksRow.holds Try.pinned (OpenSpec.ofChange syntaxBlanksWrong)

/-- 'eggboxlaw04.SyntaxMore': WHATEVER THE INPUT: true; the input reads as it did. -/
def syntaxMoreSpec : ChangeSpec := { name := "syntaxMore", fn := fun _ => fun
  | [d1, d2] => { results := [.lit (.bool true)], args := [d1, d2] }
  | _ => none }
def syntaxMoreRow : OpenClaim := { program := "ytaijjnndnoicpaa", sum := "11ac1ed543cbd6542360a3344e991f32eab1797835370e66167f6296eaa8fbbf", func := "eggbox/eggboxlaw04.SyntaxMore", spec := "syntaxMore", unfollowed := true, recurses := true, apart := false }
def SyntaxMoreSaid : Prop := syntaxMoreRow.holds Try.pinned (OpenSpec.ofChange syntaxMoreSpec)

/-- ITS FALSE NEIGHBOUR: 'it returns false'. Refute it at one input. -/
def syntaxMoreWrong : ChangeSpec := { name := "syntaxMore", fn := fun _ => fun
  | [d1, d2] => { results := [.lit (.bool false)], args := [d1, d2] }
  | _ => none }
def SyntaxMoreWrongFalsely : Prop := syntaxMoreRow.holds Try.pinned (OpenSpec.ofChange syntaxMoreWrong)

/- THE SECOND FORM. 'bulk': how many values and letters a reading holds, each counted each time it is reached (what is shared counts as often as it is met; a slice's spare places count too). A statement '..UptoSaid' is the law's where the arguments, and the package variables that the reading takes, are together of bulk at most 1048576: NARROWER than '..Said'. Prove '..Said' where nothing that the law and all that it calls make is longer than what came in: it says more and counts as full. Else prove '..UptoSaid'. A law counts once. -/
mutual
def uptoBulk {H : Type} : DataW H → Nat
  | .lit (.string bytes) => bytes.length + 1
  | .lit _ => 1
  | .nil => 1
  | .ptr d => uptoBulk d + 1
  | .slice elems spare => uptoBulkAll elems + uptoBulkAll spare + 1
  | .agg parts => uptoBulkAll parts + 1
  | .iface _ d => uptoBulk d + 1
  | .map entries => uptoBulkEntries entries + 1
  | .held _ => 1
def uptoBulkAll {H : Type} : List (DataW H) → Nat
  | [] => 0
  | d :: r => uptoBulk d + uptoBulkAll r
def uptoBulkEntries {H : Type} : List (Lit × DataW H) → Nat
  | [] => 0
  | x :: r => uptoBulkEntry x + uptoBulkEntries r
def uptoBulkEntry {H : Type} : Lit × DataW H → Nat
  | (.string bytes, d) => bytes.length + uptoBulk d + 1
  | (_, d) => uptoBulk d + 1
 end
def uptoSmall : (H : Type) → List (DataW H) → Bool := fun _ ds => decide (uptoBulkAll ds ≤ 1048576)
def OpenSpec.upto (s : _root_.Go.ChangeSpec) : _root_.Go.OpenSpec := { _root_.Go.OpenSpec.ofChange s with cond := some uptoSmall }

/-- 'eggboxlaw04.SyntaxReads', WHERE WHAT IT READS IS OF BULK AT MOST 1048576: true; the input reads as it did. -/
def syntaxReadsUptoRow : OpenClaim := { program := "ytaijjnndnoicpaa", sum := "11ac1ed543cbd6542360a3344e991f32eab1797835370e66167f6296eaa8fbbf", func := "eggbox/eggboxlaw04.SyntaxReads", spec := "syntaxReads", unfollowed := true, recurses := true, apart := false, narrowed := true }
def SyntaxReadsUptoSaid : Prop := syntaxReadsUptoRow.holds Try.pinned (OpenSpec.upto syntaxReadsSpec)

/-- 'eggboxlaw04.SyntaxPrints', WHERE WHAT IT READS IS OF BULK AT MOST 1048576: true; the input reads as it did. -/
def syntaxPrintsUptoRow : OpenClaim := { program := "ytaijjnndnoicpaa", sum := "11ac1ed543cbd6542360a3344e991f32eab1797835370e66167f6296eaa8fbbf", func := "eggbox/eggboxlaw04.SyntaxPrints", spec := "syntaxPrints", unfollowed := true, recurses := true, apart := false, narrowed := true }
def SyntaxPrintsUptoSaid : Prop := syntaxPrintsUptoRow.holds Try.pinned (OpenSpec.upto syntaxPrintsSpec)

/-- 'eggboxlaw04.SyntaxBack', WHERE WHAT IT READS IS OF BULK AT MOST 1048576: true; the input reads as it did. -/
def syntaxBackUptoRow : OpenClaim := { program := "ytaijjnndnoicpaa", sum := "11ac1ed543cbd6542360a3344e991f32eab1797835370e66167f6296eaa8fbbf", func := "eggbox/eggboxlaw04.SyntaxBack", spec := "syntaxBack", unfollowed := true, recurses := true, apart := false, narrowed := true }
def SyntaxBackUptoSaid : Prop := syntaxBackUptoRow.holds Try.pinned (OpenSpec.upto syntaxBackSpec)

/-- 'eggboxlaw04.SyntaxRead', WHERE WHAT IT READS IS OF BULK AT MOST 1048576: true; the input reads as it did. -/
def syntaxReadUptoRow : OpenClaim := { program := "ytaijjnndnoicpaa", sum := "11ac1ed543cbd6542360a3344e991f32eab1797835370e66167f6296eaa8fbbf", func := "eggbox/eggboxlaw04.SyntaxRead", spec := "syntaxRead", unfollowed := true, recurses := true, apart := false, narrowed := true }
def SyntaxReadUptoSaid : Prop := syntaxReadUptoRow.holds Try.pinned (OpenSpec.upto syntaxReadSpec)

/-- 'eggboxlaw04.SyntaxBlanks', WHERE WHAT IT READS IS OF BULK AT MOST 1048576: true; the input reads as it did. -/
def syntaxBlanksUptoRow : OpenClaim := { program := "ytaijjnndnoicpaa", sum := "11ac1ed543cbd6542360a3344e991f32eab1797835370e66167f6296eaa8fbbf", func := "eggbox/eggboxlaw04.SyntaxBlanks", spec := "syntaxBlanks", unfollowed := true, recurses := true, apart := false, narrowed := true }
def SyntaxBlanksUptoSaid : Prop := syntaxBlanksUptoRow.holds Try.pinned (OpenSpec.upto syntaxBlanksSpec)

/-- 'eggboxlaw04.SyntaxMore', WHERE WHAT IT READS IS OF BULK AT MOST 1048576: true; the input reads as it did. -/
def syntaxMoreUptoRow : OpenClaim := { program := "ytaijjnndnoicpaa", sum := "11ac1ed543cbd6542360a3344e991f32eab1797835370e66167f6296eaa8fbbf", func := "eggbox/eggboxlaw04.SyntaxMore", spec := "syntaxMore", unfollowed := true, recurses := true, apart := false, narrowed := true }
def SyntaxMoreUptoSaid : Prop := syntaxMoreUptoRow.holds Try.pinned (OpenSpec.upto syntaxMoreSpec)

end Rows
end Go.Proofs.Ytaijjnndnoicpaa
