/-
  No cell of these rows narrows 'for every input' (looked for: loops, veiled, ifaces, maps, wideKeys, modest, calm, conditions, laid).
  DERIVED. THE GIVEN ROWS OF THIS SEAT. 8 by the template 'for every input the law returns true; each argument reads behind the call as it read before'; 0 by the template 'total and deterministic' (their statements: YtkmgbnklfnjfjaaTotals.lean).
  GIVEN WITH THE SEED: the statements are not yours to turn. If you find one false, say at which input.
  Laid BY PROGRAM, IN A SANDBOX (cutbox-rows.mjs): the forced cells as the released guide's own fill.sh prints them over the translation 81c11cff959cb86e… (all of the seat's roots in one cut). By AI agents, Wed Nov 11 2026. No macro, syntax, notation, axiom, sorry.
-/
import Derived.Test.YtkmgbnklfnjfjaaChecked
import GoSem.Claim
import GoSem.ClaimJoined
import GoSem.ClaimMapViews
import Derived.JoinedTies
import Derived.KernelRfl
namespace Go.Proofs.Ytkmgbnklfnjfjaa
/- THE CELL 'sum', in the pinned program and in every row, IS THE sha256 OF THE DUMP (.gsa) THAT YtkmgbnklfnjfjaaProg.lean LOADS. Nothing in Lean hashes anything: it is a label: what it is worth is what the hold of that sum in a sandbox is worth. -/
noncomputable def Try.pinned : Pinned := { name := "ytkmgbnklfnjfjaa", sum := "81c11cff959cb86e61f98036dc2e8e7fc09d7ce17924da11231238722911c84b", checked := Try.checked }
namespace Rows
def none {H : Type} : Left H := { results := [], args := [] }

/-- 'bluebelllaw19.KernelPlays': WHATEVER THE INPUT: true; the input reads as it did. -/
def kernelPlaysSpec : ChangeSpec := { name := "kernelPlays", fn := fun _ => fun
  | [d] => { results := [.lit (.bool true)], args := [d] }
  | _ => none }
def kernelPlaysRow : OpenClaim := { program := "ytkmgbnklfnjfjaa", sum := "81c11cff959cb86e61f98036dc2e8e7fc09d7ce17924da11231238722911c84b", func := "bluebell/bluebelllaw19.KernelPlays", spec := "kernelPlays", unfollowed := true, recurses := true, apart := false }
def KernelPlaysSaid : Prop := kernelPlaysRow.holds Try.pinned (OpenSpec.ofChange kernelPlaysSpec)

/-- ITS FALSE NEIGHBOUR: 'it returns false'. Refute it at one input. -/
def kernelPlaysWrong : ChangeSpec := { name := "kernelPlays", fn := fun _ => fun
  | [d] => { results := [.lit (.bool false)], args := [d] }
  | _ => none }
def KernelPlaysWrongFalsely : Prop := kernelPlaysRow.holds Try.pinned (OpenSpec.ofChange kernelPlaysWrong)

/-- 'bluebelllaw19.KernelOrders': WHATEVER THE INPUT: true; the input reads as it did. -/
def kernelOrdersSpec : ChangeSpec := { name := "kernelOrders", fn := fun _ => fun
  | [d] => { results := [.lit (.bool true)], args := [d] }
  | _ => none }
def kernelOrdersRow : OpenClaim := { program := "ytkmgbnklfnjfjaa", sum := "81c11cff959cb86e61f98036dc2e8e7fc09d7ce17924da11231238722911c84b", func := "bluebell/bluebelllaw19.KernelOrders", spec := "kernelOrders", unfollowed := true, recurses := true, apart := false }
def KernelOrdersSaid : Prop := kernelOrdersRow.holds Try.pinned (OpenSpec.ofChange kernelOrdersSpec)

/-- ITS FALSE NEIGHBOUR: 'it returns false'. Refute it at one input. -/
def kernelOrdersWrong : ChangeSpec := { name := "kernelOrders", fn := fun _ => fun
  | [d] => { results := [.lit (.bool false)], args := [d] }
  | _ => none }
def KernelOrdersWrongFalsely : Prop := kernelOrdersRow.holds Try.pinned (OpenSpec.ofChange kernelOrdersWrong)

/-- 'bluebelllaw19.KernelPlaces': WHATEVER THE INPUT: true; the input reads as it did. -/
def kernelPlacesSpec : ChangeSpec := { name := "kernelPlaces", fn := fun _ => fun
  | [d] => { results := [.lit (.bool true)], args := [d] }
  | _ => none }
def kernelPlacesRow : OpenClaim := { program := "ytkmgbnklfnjfjaa", sum := "81c11cff959cb86e61f98036dc2e8e7fc09d7ce17924da11231238722911c84b", func := "bluebell/bluebelllaw19.KernelPlaces", spec := "kernelPlaces", unfollowed := true, recurses := true, apart := false }
def KernelPlacesSaid : Prop := kernelPlacesRow.holds Try.pinned (OpenSpec.ofChange kernelPlacesSpec)

/-- ITS FALSE NEIGHBOUR: 'it returns false'. Refute it at one input. -/
def kernelPlacesWrong : ChangeSpec := { name := "kernelPlaces", fn := fun _ => fun
  | [d] => { results := [.lit (.bool false)], args := [d] }
  | _ => none }
def KernelPlacesWrongFalsely : Prop := kernelPlacesRow.holds Try.pinned (OpenSpec.ofChange kernelPlacesWrong)

/-- 'bluebelllaw19.KernelBack': WHATEVER THE INPUT: true; the input reads as it did. -/
def kernelBackSpec : ChangeSpec := { name := "kernelBack", fn := fun _ => fun
  | [d1, d2, d3] => { results := [.lit (.bool true)], args := [d1, d2, d3] }
  | _ => none }
def kernelBackRow : OpenClaim := { program := "ytkmgbnklfnjfjaa", sum := "81c11cff959cb86e61f98036dc2e8e7fc09d7ce17924da11231238722911c84b", func := "bluebell/bluebelllaw19.KernelBack", spec := "kernelBack", unfollowed := true, recurses := true, apart := false }
def KernelBackSaid : Prop := kernelBackRow.holds Try.pinned (OpenSpec.ofChange kernelBackSpec)

/-- ITS FALSE NEIGHBOUR: 'it returns false'. Refute it at one input. -/
def kernelBackWrong : ChangeSpec := { name := "kernelBack", fn := fun _ => fun
  | [d1, d2, d3] => { results := [.lit (.bool false)], args := [d1, d2, d3] }
  | _ => none }
def KernelBackWrongFalsely : Prop := kernelBackRow.holds Try.pinned (OpenSpec.ofChange kernelBackWrong)

/-- 'bluebelllaw19.KernelRuns': WHATEVER THE INPUT: true; the input reads as it did. -/
def kernelRunsSpec : ChangeSpec := { name := "kernelRuns", fn := fun _ => fun
  | [d] => { results := [.lit (.bool true)], args := [d] }
  | _ => none }
def kernelRunsRow : OpenClaim := { program := "ytkmgbnklfnjfjaa", sum := "81c11cff959cb86e61f98036dc2e8e7fc09d7ce17924da11231238722911c84b", func := "bluebell/bluebelllaw19.KernelRuns", spec := "kernelRuns", unfollowed := true, recurses := true, apart := false }
def KernelRunsSaid : Prop := kernelRunsRow.holds Try.pinned (OpenSpec.ofChange kernelRunsSpec)

/-- ITS FALSE NEIGHBOUR: 'it returns false'. Refute it at one input. -/
def kernelRunsWrong : ChangeSpec := { name := "kernelRuns", fn := fun _ => fun
  | [d] => { results := [.lit (.bool false)], args := [d] }
  | _ => none }
def KernelRunsWrongFalsely : Prop := kernelRunsRow.holds Try.pinned (OpenSpec.ofChange kernelRunsWrong)

/-- 'bluebelllaw19.KernelDoes': WHATEVER THE INPUT: true; the input reads as it did. -/
def kernelDoesSpec : ChangeSpec := { name := "kernelDoes", fn := fun _ => fun
  | [d] => { results := [.lit (.bool true)], args := [d] }
  | _ => none }
def kernelDoesRow : OpenClaim := { program := "ytkmgbnklfnjfjaa", sum := "81c11cff959cb86e61f98036dc2e8e7fc09d7ce17924da11231238722911c84b", func := "bluebell/bluebelllaw19.KernelDoes", spec := "kernelDoes", unfollowed := true, recurses := true, apart := false }
def KernelDoesSaid : Prop := kernelDoesRow.holds Try.pinned (OpenSpec.ofChange kernelDoesSpec)

/-- ITS FALSE NEIGHBOUR: 'it returns false'. Refute it at one input. -/
def kernelDoesWrong : ChangeSpec := { name := "kernelDoes", fn := fun _ => fun
  | [d] => { results := [.lit (.bool false)], args := [d] }
  | _ => none }
def KernelDoesWrongFalsely : Prop := kernelDoesRow.holds Try.pinned (OpenSpec.ofChange kernelDoesWrong)

/-- 'bluebelllaw19.KernelSteady': WHATEVER THE INPUT: true; the input reads as it did. -/
def kernelSteadySpec : ChangeSpec := { name := "kernelSteady", fn := fun _ => fun
  | [d] => { results := [.lit (.bool true)], args := [d] }
  | _ => none }
def kernelSteadyRow : OpenClaim := { program := "ytkmgbnklfnjfjaa", sum := "81c11cff959cb86e61f98036dc2e8e7fc09d7ce17924da11231238722911c84b", func := "bluebell/bluebelllaw19.KernelSteady", spec := "kernelSteady", unfollowed := true, recurses := true, apart := false }
def KernelSteadySaid : Prop := kernelSteadyRow.holds Try.pinned (OpenSpec.ofChange kernelSteadySpec)

/-- ITS FALSE NEIGHBOUR: 'it returns false'. Refute it at one input. -/
def kernelSteadyWrong : ChangeSpec := { name := "kernelSteady", fn := fun _ => fun
  | [d] => { results := [.lit (.bool false)], args := [d] }
  | _ => none }
def KernelSteadyWrongFalsely : Prop := kernelSteadyRow.holds Try.pinned (OpenSpec.ofChange kernelSteadyWrong)

/-- 'bluebelllaw19.KernelNil': WHATEVER THE INPUT: true; the input reads as it did. -/
def kernelNilSpec : ChangeSpec := { name := "kernelNil", fn := fun _ => fun
  | [d1, d2] => { results := [.lit (.bool true)], args := [d1, d2] }
  | _ => none }
def kernelNilRow : OpenClaim := { program := "ytkmgbnklfnjfjaa", sum := "81c11cff959cb86e61f98036dc2e8e7fc09d7ce17924da11231238722911c84b", func := "bluebell/bluebelllaw19.KernelNil", spec := "kernelNil", unfollowed := true, recurses := true, apart := false }
def KernelNilSaid : Prop := kernelNilRow.holds Try.pinned (OpenSpec.ofChange kernelNilSpec)

/-- ITS FALSE NEIGHBOUR: 'it returns false'. Refute it at one input. -/
def kernelNilWrong : ChangeSpec := { name := "kernelNil", fn := fun _ => fun
  | [d1, d2] => { results := [.lit (.bool false)], args := [d1, d2] }
  | _ => none }
def KernelNilWrongFalsely : Prop := kernelNilRow.holds Try.pinned (OpenSpec.ofChange kernelNilWrong)

/- THE SECOND FORM. 'bulk': how many values and letters a reading holds, each counted each time it is reached (what is shared counts as often as it is met; a slice's spare places count too). A statement '..UptoSaid' is the law's where the arguments, and the package variables that the reading takes, are together of bulk at most 1048576: NARROWER than '..Said'. Prove '..Said' where nothing that the law and all that it calls make is longer than what came in: it says more and counts as full. Else prove '..UptoSaid'. A law counts once. -/
mutual
def uptoBulk {H : Type} : DataW H → Nat
  | .lit (.string bytes) => bytes.length + 1
  | .lit _ => 1
  | .nil => 1
  | .ptr d => uptoBulk d + 1
  | .slice elems spare => uptoBulkAll elems + uptoBulkAll spare + 1
  | .agg parts => uptoBulkAll parts + 1
  | .iface _ d => uptoBulk d + 1
  | .map entries => uptoBulkEntries entries + 1
  | .held _ => 1
def uptoBulkAll {H : Type} : List (DataW H) → Nat
  | [] => 0
  | d :: r => uptoBulk d + uptoBulkAll r
def uptoBulkEntries {H : Type} : List (Lit × DataW H) → Nat
  | [] => 0
  | x :: r => uptoBulkEntry x + uptoBulkEntries r
def uptoBulkEntry {H : Type} : Lit × DataW H → Nat
  | (.string bytes, d) => bytes.length + uptoBulk d + 1
  | (_, d) => uptoBulk d + 1
 end
def uptoSmall : (H : Type) → List (DataW H) → Bool := fun _ ds => decide (uptoBulkAll ds ≤ 1048576)
def OpenSpec.upto (s : _root_.Go.ChangeSpec) : _root_.Go.OpenSpec := { _root_.Go.OpenSpec.ofChange s with cond := some uptoSmall }

/-- 'bluebelllaw19.KernelPlays', WHERE WHAT IT READS IS OF BULK AT MOST 1048576: true; the input reads as it did. -/
def kernelPlaysUptoRow : OpenClaim := { program := "ytkmgbnklfnjfjaa", sum := "81c11cff959cb86e61f98036dc2e8e7fc09d7ce17924da11231238722911c84b", func := "bluebell/bluebelllaw19.KernelPlays", spec := "kernelPlays", unfollowed := true, recurses := true, apart := false, narrowed := true }
def KernelPlaysUptoSaid : Prop := kernelPlaysUptoRow.holds Try.pinned (OpenSpec.upto kernelPlaysSpec)

/-- 'bluebelllaw19.KernelOrders', WHERE WHAT IT READS IS OF BULK AT MOST 1048576: true; the input reads as it did. -/
def kernelOrdersUptoRow : OpenClaim := { program := "ytkmgbnklfnjfjaa", sum := "81c11cff959cb86e61f98036dc2e8e7fc09d7ce17924da11231238722911c84b", func := "bluebell/bluebelllaw19.KernelOrders", spec := "kernelOrders", unfollowed := true, recurses := true, apart := false, narrowed := true }
def KernelOrdersUptoSaid : Prop := kernelOrdersUptoRow.holds Try.pinned (OpenSpec.upto kernelOrdersSpec)

/-- 'bluebelllaw19.KernelPlaces', WHERE WHAT IT READS IS OF BULK AT MOST 1048576: true; the input reads as it did. -/
def kernelPlacesUptoRow : OpenClaim := { program := "ytkmgbnklfnjfjaa", sum := "81c11cff959cb86e61f98036dc2e8e7fc09d7ce17924da11231238722911c84b", func := "bluebell/bluebelllaw19.KernelPlaces", spec := "kernelPlaces", unfollowed := true, recurses := true, apart := false, narrowed := true }
def KernelPlacesUptoSaid : Prop := kernelPlacesUptoRow.holds Try.pinned (OpenSpec.upto kernelPlacesSpec)

/-- 'bluebelllaw19.KernelBack', WHERE WHAT IT READS IS OF BULK AT MOST 1048576: true; the input reads as it did. -/
def kernelBackUptoRow : OpenClaim := { program := "ytkmgbnklfnjfjaa", sum := "81c11cff959cb86e61f98036dc2e8e7fc09d7ce17924da11231238722911c84b", func := "bluebell/bluebelllaw19.KernelBack", spec := "kernelBack", unfollowed := true, recurses := true, apart := false, narrowed := true }
def KernelBackUptoSaid : Prop := kernelBackUptoRow.holds Try.pinned (OpenSpec.upto kernelBackSpec)

/-- 'bluebelllaw19.KernelRuns', WHERE WHAT IT READS IS OF BULK AT MOST 1048576: true; the input reads as it did. -/
def kernelRunsUptoRow : OpenClaim := { program := "ytkmgbnklfnjfjaa", sum := "81c11cff959cb86e61f98036dc2e8e7fc09d7ce17924da11231238722911c84b", func := "bluebell/bluebelllaw19.KernelRuns", spec := "kernelRuns", unfollowed := true, recurses := true, apart := false, narrowed := true }
def KernelRunsUptoSaid : Prop := kernelRunsUptoRow.holds Try.pinned (OpenSpec.upto kernelRunsSpec)

/-- 'bluebelllaw19.KernelDoes', WHERE WHAT IT READS IS OF BULK AT MOST 1048576: true; the input reads as it did. -/
def kernelDoesUptoRow : OpenClaim := { program := "ytkmgbnklfnjfjaa", sum := "81c11cff959cb86e61f98036dc2e8e7fc09d7ce17924da11231238722911c84b", func := "bluebell/bluebelllaw19.KernelDoes", spec := "kernelDoes", unfollowed := true, recurses := true, apart := false, narrowed := true }
def KernelDoesUptoSaid : Prop := kernelDoesUptoRow.holds Try.pinned (OpenSpec.upto kernelDoesSpec)

/-- 'bluebelllaw19.KernelSteady', WHERE WHAT IT READS IS OF BULK AT MOST 1048576: true; the input reads as it did. -/
def kernelSteadyUptoRow : OpenClaim := { program := "ytkmgbnklfnjfjaa", sum := "81c11cff959cb86e61f98036dc2e8e7fc09d7ce17924da11231238722911c84b", func := "bluebell/bluebelllaw19.KernelSteady", spec := "kernelSteady", unfollowed := true, recurses := true, apart := false, narrowed := true }
def KernelSteadyUptoSaid : Prop := kernelSteadyUptoRow.holds Try.pinned (OpenSpec.upto kernelSteadySpec)

/-- 'bluebelllaw19.KernelNil', WHERE WHAT IT READS IS OF BULK AT MOST 1048576: true; the input reads as it did. -/
def kernelNilUptoRow : OpenClaim := { program := "ytkmgbnklfnjfjaa", sum := "81c11cff959cb86e61f98036dc2e8e7fc09d7ce17924da11231238722911c84b", func := "bluebell/bluebelllaw19.KernelNil", spec := "kernelNil", unfollowed := true, recurses := true, apart := false, narrowed := true }
def KernelNilUptoSaid : Prop := kernelNilUptoRow.holds Try.pinned (OpenSpec.upto kernelNilSpec)

end Rows
end Go.Proofs.Ytkmgbnklfnjfjaa
