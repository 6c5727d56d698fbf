/-
  No cell of these rows narrows 'for every input' (looked for: loops, veiled, ifaces, maps, wideKeys, modest, calm, conditions, laid).
  DERIVED. THE GIVEN ROWS OF THIS SEAT. 9 by the template 'for every input the law returns true; each argument reads behind the call as it read before'; 0 by the template 'total and deterministic' (their statements: YtppajifkmepdnaaTotals.lean).
  GIVEN WITH THE SEED: the statements are not yours to turn. If you find one false, say at which input.
  Laid BY PROGRAM, IN A SANDBOX (cutbox-rows.mjs): the forced cells as the released guide's own fill.sh prints them over the translation f68d9b82c660429a… (all of the seat's roots in one cut). By AI agents, Wed Nov 11 2026. No macro, syntax, notation, axiom, sorry.
-/
import Derived.Test.YtppajifkmepdnaaChecked
import GoSem.Claim
import GoSem.ClaimJoined
import GoSem.ClaimMapViews
import Derived.JoinedTies
import Derived.KernelRfl
namespace Go.Proofs.Ytppajifkmepdnaa
/- THE CELL 'sum', in the pinned program and in every row, IS THE sha256 OF THE DUMP (.gsa) THAT YtppajifkmepdnaaProg.lean LOADS. Nothing in Lean hashes anything: it is a label: what it is worth is what the hold of that sum in a sandbox is worth. -/
noncomputable def Try.pinned : Pinned := { name := "ytppajifkmepdnaa", sum := "f68d9b82c660429a3f259c4990ff290dcff77d625d3e569286a1247ce70d1566", checked := Try.checked }
namespace Rows
def none {H : Type} : Left H := { results := [], args := [] }

/-- 'plummetlaw25.StackOrder': WHATEVER THE INPUT: true; the input reads as it did. -/
def stackOrderSpec : ChangeSpec := { name := "stackOrder", fn := fun _ => fun
  | [d1, d2] => { results := [.lit (.bool true)], args := [d1, d2] }
  | _ => none }
def stackOrderRow : OpenClaim := { program := "ytppajifkmepdnaa", sum := "f68d9b82c660429a3f259c4990ff290dcff77d625d3e569286a1247ce70d1566", func := "plummet/plummetlaw25.StackOrder", spec := "stackOrder", apart := false }
def StackOrderSaid : Prop := stackOrderRow.holds Try.pinned (OpenSpec.ofChange stackOrderSpec)

/-- ITS FALSE NEIGHBOUR: 'it returns false'. Refute it at one input. -/
def stackOrderWrong : ChangeSpec := { name := "stackOrder", fn := fun _ => fun
  | [d1, d2] => { results := [.lit (.bool false)], args := [d1, d2] }
  | _ => none }
def StackOrderWrongFalsely : Prop := stackOrderRow.holds Try.pinned (OpenSpec.ofChange stackOrderWrong)

/-- 'plummetlaw25.StackPlays': WHATEVER THE INPUT: true; the input reads as it did. -/
def stackPlaysSpec : ChangeSpec := { name := "stackPlays", fn := fun _ => fun
  | [d1, d2] => { results := [.lit (.bool true)], args := [d1, d2] }
  | _ => none }
def stackPlaysRow : OpenClaim := { program := "ytppajifkmepdnaa", sum := "f68d9b82c660429a3f259c4990ff290dcff77d625d3e569286a1247ce70d1566", func := "plummet/plummetlaw25.StackPlays", spec := "stackPlays", unfollowed := true, recurses := true, apart := false }
def StackPlaysSaid : Prop := stackPlaysRow.holds Try.pinned (OpenSpec.ofChange stackPlaysSpec)

/-- ITS FALSE NEIGHBOUR: 'it returns false'. Refute it at one input. -/
def stackPlaysWrong : ChangeSpec := { name := "stackPlays", fn := fun _ => fun
  | [d1, d2] => { results := [.lit (.bool false)], args := [d1, d2] }
  | _ => none }
def StackPlaysWrongFalsely : Prop := stackPlaysRow.holds Try.pinned (OpenSpec.ofChange stackPlaysWrong)

/-- 'plummetlaw25.StackNone': WHATEVER THE INPUT: true; the input reads as it did. -/
def stackNoneSpec : ChangeSpec := { name := "stackNone", fn := fun _ => fun
  | [d] => { results := [.lit (.bool true)], args := [d] }
  | _ => none }
def stackNoneRow : OpenClaim := { program := "ytppajifkmepdnaa", sum := "f68d9b82c660429a3f259c4990ff290dcff77d625d3e569286a1247ce70d1566", func := "plummet/plummetlaw25.StackNone", spec := "stackNone", unfollowed := true, recurses := true, apart := false }
def StackNoneSaid : Prop := stackNoneRow.holds Try.pinned (OpenSpec.ofChange stackNoneSpec)

/-- ITS FALSE NEIGHBOUR: 'it returns false'. Refute it at one input. -/
def stackNoneWrong : ChangeSpec := { name := "stackNone", fn := fun _ => fun
  | [d] => { results := [.lit (.bool false)], args := [d] }
  | _ => none }
def StackNoneWrongFalsely : Prop := stackNoneRow.holds Try.pinned (OpenSpec.ofChange stackNoneWrong)

/-- 'plummetlaw11.PosPlays': WHATEVER THE INPUT: true; the input reads as it did. -/
def posPlaysSpec : ChangeSpec := { name := "posPlays", fn := fun _ => fun
  | [d1, d2] => { results := [.lit (.bool true)], args := [d1, d2] }
  | _ => none }
def posPlaysRow : OpenClaim := { program := "ytppajifkmepdnaa", sum := "f68d9b82c660429a3f259c4990ff290dcff77d625d3e569286a1247ce70d1566", func := "plummet/plummetlaw11.PosPlays", spec := "posPlays", inPlace := ["math/bits.Sub64", "math/bits.Add64"], unfollowed := true, recurses := true, apart := false }
def PosPlaysSaid : Prop := posPlaysRow.holds Try.pinned (OpenSpec.ofChange posPlaysSpec)

/-- ITS FALSE NEIGHBOUR: 'it returns false'. Refute it at one input. -/
def posPlaysWrong : ChangeSpec := { name := "posPlays", fn := fun _ => fun
  | [d1, d2] => { results := [.lit (.bool false)], args := [d1, d2] }
  | _ => none }
def PosPlaysWrongFalsely : Prop := posPlaysRow.holds Try.pinned (OpenSpec.ofChange posPlaysWrong)

/-- 'plummetlaw11.PosFrom': WHATEVER THE INPUT: true; the input reads as it did. -/
def posFromSpec : ChangeSpec := { name := "posFrom", fn := fun _ => fun
  | [d1, d2] => { results := [.lit (.bool true)], args := [d1, d2] }
  | _ => none }
def posFromRow : OpenClaim := { program := "ytppajifkmepdnaa", sum := "f68d9b82c660429a3f259c4990ff290dcff77d625d3e569286a1247ce70d1566", func := "plummet/plummetlaw11.PosFrom", spec := "posFrom", inPlace := ["math/bits.Sub64", "math/bits.Add64"], unfollowed := true, recurses := true, apart := false }
def PosFromSaid : Prop := posFromRow.holds Try.pinned (OpenSpec.ofChange posFromSpec)

/-- ITS FALSE NEIGHBOUR: 'it returns false'. Refute it at one input. -/
def posFromWrong : ChangeSpec := { name := "posFrom", fn := fun _ => fun
  | [d1, d2] => { results := [.lit (.bool false)], args := [d1, d2] }
  | _ => none }
def PosFromWrongFalsely : Prop := posFromRow.holds Try.pinned (OpenSpec.ofChange posFromWrong)

/-- 'plummetlaw11.PosColumns': WHATEVER THE INPUT: true; the input reads as it did. -/
def posColumnsSpec : ChangeSpec := { name := "posColumns", fn := fun _ => fun
  | [d1, d2, d3] => { results := [.lit (.bool true)], args := [d1, d2, d3] }
  | _ => none }
def posColumnsRow : OpenClaim := { program := "ytppajifkmepdnaa", sum := "f68d9b82c660429a3f259c4990ff290dcff77d625d3e569286a1247ce70d1566", func := "plummet/plummetlaw11.PosColumns", spec := "posColumns", inPlace := ["math/bits.Sub64", "math/bits.Add64"], unfollowed := true, recurses := true, apart := false }
def PosColumnsSaid : Prop := posColumnsRow.holds Try.pinned (OpenSpec.ofChange posColumnsSpec)

/-- ITS FALSE NEIGHBOUR: 'it returns false'. Refute it at one input. -/
def posColumnsWrong : ChangeSpec := { name := "posColumns", fn := fun _ => fun
  | [d1, d2, d3] => { results := [.lit (.bool false)], args := [d1, d2, d3] }
  | _ => none }
def PosColumnsWrongFalsely : Prop := posColumnsRow.holds Try.pinned (OpenSpec.ofChange posColumnsWrong)

/-- 'plummetlaw11.PosNone': WHATEVER THE INPUT: true; the input reads as it did. -/
def posNoneSpec : ChangeSpec := { name := "posNone", fn := fun _ => fun
  | [d] => { results := [.lit (.bool true)], args := [d] }
  | _ => none }
def posNoneRow : OpenClaim := { program := "ytppajifkmepdnaa", sum := "f68d9b82c660429a3f259c4990ff290dcff77d625d3e569286a1247ce70d1566", func := "plummet/plummetlaw11.PosNone", spec := "posNone", inPlace := ["math/bits.Add64", "math/bits.Sub64"], unfollowed := true, recurses := true, apart := false }
def PosNoneSaid : Prop := posNoneRow.holds Try.pinned (OpenSpec.ofChange posNoneSpec)

/-- ITS FALSE NEIGHBOUR: 'it returns false'. Refute it at one input. -/
def posNoneWrong : ChangeSpec := { name := "posNone", fn := fun _ => fun
  | [d] => { results := [.lit (.bool false)], args := [d] }
  | _ => none }
def PosNoneWrongFalsely : Prop := posNoneRow.holds Try.pinned (OpenSpec.ofChange posNoneWrong)

/-- 'plummetlaw18.TreeCounts': WHATEVER THE INPUT: true; the input reads as it did. -/
def treeCountsSpec : ChangeSpec := { name := "treeCounts", fn := fun _ => fun
  | [d1, d2, d3] => { results := [.lit (.bool true)], args := [d1, d2, d3] }
  | _ => none }
def treeCountsRow : OpenClaim := { program := "ytppajifkmepdnaa", sum := "f68d9b82c660429a3f259c4990ff290dcff77d625d3e569286a1247ce70d1566", func := "plummet/plummetlaw18.TreeCounts", spec := "treeCounts", inPlace := ["math/bits.Sub64", "math/bits.Add64"], unfollowed := true, recurses := true, apart := false }
def TreeCountsSaid : Prop := treeCountsRow.holds Try.pinned (OpenSpec.ofChange treeCountsSpec)

/-- ITS FALSE NEIGHBOUR: 'it returns false'. Refute it at one input. -/
def treeCountsWrong : ChangeSpec := { name := "treeCounts", fn := fun _ => fun
  | [d1, d2, d3] => { results := [.lit (.bool false)], args := [d1, d2, d3] }
  | _ => none }
def TreeCountsWrongFalsely : Prop := treeCountsRow.holds Try.pinned (OpenSpec.ofChange treeCountsWrong)

/-- 'plummetlaw18.TreeSteps': WHATEVER THE INPUT: true; the input reads as it did. -/
def treeStepsSpec : ChangeSpec := { name := "treeSteps", fn := fun _ => fun
  | [d1, d2] => { results := [.lit (.bool true)], args := [d1, d2] }
  | _ => none }
def treeStepsRow : OpenClaim := { program := "ytppajifkmepdnaa", sum := "f68d9b82c660429a3f259c4990ff290dcff77d625d3e569286a1247ce70d1566", func := "plummet/plummetlaw18.TreeSteps", spec := "treeSteps", inPlace := ["math/bits.Sub64", "math/bits.Add64"], unfollowed := true, recurses := true, apart := false }
def TreeStepsSaid : Prop := treeStepsRow.holds Try.pinned (OpenSpec.ofChange treeStepsSpec)

/-- ITS FALSE NEIGHBOUR: 'it returns false'. Refute it at one input. -/
def treeStepsWrong : ChangeSpec := { name := "treeSteps", fn := fun _ => fun
  | [d1, d2] => { results := [.lit (.bool false)], args := [d1, d2] }
  | _ => none }
def TreeStepsWrongFalsely : Prop := treeStepsRow.holds Try.pinned (OpenSpec.ofChange treeStepsWrong)

/- THE SECOND FORM. 'bulk': how many values and letters a reading holds, each counted each time it is reached (what is shared counts as often as it is met; a slice's spare places count too). A statement '..UptoSaid' is the law's where the arguments, and the package variables that the reading takes, are together of bulk at most 1048576: NARROWER than '..Said'. Prove '..Said' where nothing that the law and all that it calls make is longer than what came in: it says more and counts as full. Else prove '..UptoSaid'. A law counts once. -/
mutual
def uptoBulk {H : Type} : DataW H → Nat
  | .lit (.string bytes) => bytes.length + 1
  | .lit _ => 1
  | .nil => 1
  | .ptr d => uptoBulk d + 1
  | .slice elems spare => uptoBulkAll elems + uptoBulkAll spare + 1
  | .agg parts => uptoBulkAll parts + 1
  | .iface _ d => uptoBulk d + 1
  | .map entries => uptoBulkEntries entries + 1
  | .held _ => 1
def uptoBulkAll {H : Type} : List (DataW H) → Nat
  | [] => 0
  | d :: r => uptoBulk d + uptoBulkAll r
def uptoBulkEntries {H : Type} : List (Lit × DataW H) → Nat
  | [] => 0
  | x :: r => uptoBulkEntry x + uptoBulkEntries r
def uptoBulkEntry {H : Type} : Lit × DataW H → Nat
  | (.string bytes, d) => bytes.length + uptoBulk d + 1
  | (_, d) => uptoBulk d + 1
 end
def uptoSmall : (H : Type) → List (DataW H) → Bool := fun _ ds => decide (uptoBulkAll ds ≤ 1048576)
def OpenSpec.upto (s : _root_.Go.ChangeSpec) : _root_.Go.OpenSpec := { _root_.Go.OpenSpec.ofChange s with cond := some uptoSmall }

/-- 'plummetlaw25.StackOrder', WHERE WHAT IT READS IS OF BULK AT MOST 1048576: true; the input reads as it did. -/
def stackOrderUptoRow : OpenClaim := { program := "ytppajifkmepdnaa", sum := "f68d9b82c660429a3f259c4990ff290dcff77d625d3e569286a1247ce70d1566", func := "plummet/plummetlaw25.StackOrder", spec := "stackOrder", apart := false, narrowed := true }
def StackOrderUptoSaid : Prop := stackOrderUptoRow.holds Try.pinned (OpenSpec.upto stackOrderSpec)

/-- 'plummetlaw25.StackPlays', WHERE WHAT IT READS IS OF BULK AT MOST 1048576: true; the input reads as it did. -/
def stackPlaysUptoRow : OpenClaim := { program := "ytppajifkmepdnaa", sum := "f68d9b82c660429a3f259c4990ff290dcff77d625d3e569286a1247ce70d1566", func := "plummet/plummetlaw25.StackPlays", spec := "stackPlays", unfollowed := true, recurses := true, apart := false, narrowed := true }
def StackPlaysUptoSaid : Prop := stackPlaysUptoRow.holds Try.pinned (OpenSpec.upto stackPlaysSpec)

/-- 'plummetlaw25.StackNone', WHERE WHAT IT READS IS OF BULK AT MOST 1048576: true; the input reads as it did. -/
def stackNoneUptoRow : OpenClaim := { program := "ytppajifkmepdnaa", sum := "f68d9b82c660429a3f259c4990ff290dcff77d625d3e569286a1247ce70d1566", func := "plummet/plummetlaw25.StackNone", spec := "stackNone", unfollowed := true, recurses := true, apart := false, narrowed := true }
def StackNoneUptoSaid : Prop := stackNoneUptoRow.holds Try.pinned (OpenSpec.upto stackNoneSpec)

/-- 'plummetlaw11.PosPlays', WHERE WHAT IT READS IS OF BULK AT MOST 1048576: true; the input reads as it did. -/
def posPlaysUptoRow : OpenClaim := { program := "ytppajifkmepdnaa", sum := "f68d9b82c660429a3f259c4990ff290dcff77d625d3e569286a1247ce70d1566", func := "plummet/plummetlaw11.PosPlays", spec := "posPlays", inPlace := ["math/bits.Sub64", "math/bits.Add64"], unfollowed := true, recurses := true, apart := false, narrowed := true }
def PosPlaysUptoSaid : Prop := posPlaysUptoRow.holds Try.pinned (OpenSpec.upto posPlaysSpec)

/-- 'plummetlaw11.PosFrom', WHERE WHAT IT READS IS OF BULK AT MOST 1048576: true; the input reads as it did. -/
def posFromUptoRow : OpenClaim := { program := "ytppajifkmepdnaa", sum := "f68d9b82c660429a3f259c4990ff290dcff77d625d3e569286a1247ce70d1566", func := "plummet/plummetlaw11.PosFrom", spec := "posFrom", inPlace := ["math/bits.Sub64", "math/bits.Add64"], unfollowed := true, recurses := true, apart := false, narrowed := true }
def PosFromUptoSaid : Prop := posFromUptoRow.holds Try.pinned (OpenSpec.upto posFromSpec)

/-- 'plummetlaw11.PosColumns', WHERE WHAT IT READS IS OF BULK AT MOST 1048576: true; the input reads as it did. -/
def posColumnsUptoRow : OpenClaim := { program := "ytppajifkmepdnaa", sum := "f68d9b82c660429a3f259c4990ff290dcff77d625d3e569286a1247ce70d1566", func := "plummet/plummetlaw11.PosColumns", spec := "posColumns", inPlace := ["math/bits.Sub64", "math/bits.Add64"], unfollowed := true, recurses := true, apart := false, narrowed := true }
def PosColumnsUptoSaid : Prop := posColumnsUptoRow.holds Try.pinned (OpenSpec.upto posColumnsSpec)

/-- 'plummetlaw11.PosNone', WHERE WHAT IT READS IS OF BULK AT MOST 1048576: true; the input reads as it did. -/
def posNoneUptoRow : OpenClaim := { program := "ytppajifkmepdnaa", sum := "f68d9b82c660429a3f259c4990ff290dcff77d625d3e569286a1247ce70d1566", func := "plummet/plummetlaw11.PosNone", spec := "posNone", inPlace := ["math/bits.Add64", "math/bits.Sub64"], unfollowed := true, recurses := true, apart := false, narrowed := true }
def PosNoneUptoSaid : Prop := posNoneUptoRow.holds Try.pinned (OpenSpec.upto posNoneSpec)

/-- 'plummetlaw18.TreeCounts', WHERE WHAT IT READS IS OF BULK AT MOST 1048576: true; the input reads as it did. -/
def treeCountsUptoRow : OpenClaim := { program := "ytppajifkmepdnaa", sum := "f68d9b82c660429a3f259c4990ff290dcff77d625d3e569286a1247ce70d1566", func := "plummet/plummetlaw18.TreeCounts", spec := "treeCounts", inPlace := ["math/bits.Sub64", "math/bits.Add64"], unfollowed := true, recurses := true, apart := false, narrowed := true }
def TreeCountsUptoSaid : Prop := treeCountsUptoRow.holds Try.pinned (OpenSpec.upto treeCountsSpec)

/-- 'plummetlaw18.TreeSteps', WHERE WHAT IT READS IS OF BULK AT MOST 1048576: true; the input reads as it did. -/
def treeStepsUptoRow : OpenClaim := { program := "ytppajifkmepdnaa", sum := "f68d9b82c660429a3f259c4990ff290dcff77d625d3e569286a1247ce70d1566", func := "plummet/plummetlaw18.TreeSteps", spec := "treeSteps", inPlace := ["math/bits.Sub64", "math/bits.Add64"], unfollowed := true, recurses := true, apart := false, narrowed := true }
def TreeStepsUptoSaid : Prop := treeStepsUptoRow.holds Try.pinned (OpenSpec.upto treeStepsSpec)

end Rows
end Go.Proofs.Ytppajifkmepdnaa
