/-
  No cell of these rows narrows 'for every input' (looked for: loops, veiled, ifaces, maps, wideKeys, modest, calm, conditions, laid).
  DERIVED. THE GIVEN ROWS OF THIS SEAT. 10 by the template 'for every input the law returns true; each argument reads behind the call as it read before'; 0 by the template 'total and deterministic' (their statements: YthllfmbdapdogaaTotals.lean).
  GIVEN WITH THE SEED: the statements are not yours to turn. If you find one false, say at which input.
  Laid BY PROGRAM, IN A SANDBOX (cutbox-rows.mjs): the forced cells as the released guide's own fill.sh prints them over the translation bf8c30604513fd0c… (all of the seat's roots in one cut). By AI agents, Wed Nov 11 2026. No macro, syntax, notation, axiom, sorry.
-/
import Derived.Test.YthllfmbdapdogaaChecked
import GoSem.Claim
import GoSem.ClaimJoined
import GoSem.ClaimMapViews
import Derived.JoinedTies
import Derived.KernelRfl
namespace Go.Proofs.Ythllfmbdapdogaa
/- THE CELL 'sum', in the pinned program and in every row, IS THE sha256 OF THE DUMP (.gsa) THAT YthllfmbdapdogaaProg.lean LOADS. Nothing in Lean hashes anything: it is a label: what it is worth is what the hold of that sum in a sandbox is worth. -/
noncomputable def Try.pinned : Pinned := { name := "ythllfmbdapdogaa", sum := "bf8c30604513fd0c825be0faf7577db46eeb8c46f3f3ffd5abc67a10a95767de", checked := Try.checked }
namespace Rows
def none {H : Type} : Left H := { results := [], args := [] }

/-- 'bluebelllaw01.WordApplies': WHATEVER THE INPUT: true; the input reads as it did. -/
def wordAppliesSpec : ChangeSpec := { name := "wordApplies", fn := fun _ => fun
  | [d1, d2, d3, d4] => { results := [.lit (.bool true)], args := [d1, d2, d3, d4] }
  | _ => none }
def wordAppliesRow : OpenClaim := { program := "ythllfmbdapdogaa", sum := "bf8c30604513fd0c825be0faf7577db46eeb8c46f3f3ffd5abc67a10a95767de", func := "bluebell/bluebelllaw01.WordApplies", spec := "wordApplies", unfollowed := true, recurses := true, apart := false }
def WordAppliesSaid : Prop := wordAppliesRow.holds Try.pinned (OpenSpec.ofChange wordAppliesSpec)

/-- ITS FALSE NEIGHBOUR: 'it returns false'. Refute it at one input. -/
def wordAppliesWrong : ChangeSpec := { name := "wordApplies", fn := fun _ => fun
  | [d1, d2, d3, d4] => { results := [.lit (.bool false)], args := [d1, d2, d3, d4] }
  | _ => none }
def WordAppliesWrongFalsely : Prop := wordAppliesRow.holds Try.pinned (OpenSpec.ofChange wordAppliesWrong)

/-- 'bluebelllaw01.WordRings': WHATEVER THE INPUT: true; the input reads as it did. -/
def wordRingsSpec : ChangeSpec := { name := "wordRings", fn := fun _ => fun
  | [d1, d2, d3, d4] => { results := [.lit (.bool true)], args := [d1, d2, d3, d4] }
  | _ => none }
def wordRingsRow : OpenClaim := { program := "ythllfmbdapdogaa", sum := "bf8c30604513fd0c825be0faf7577db46eeb8c46f3f3ffd5abc67a10a95767de", func := "bluebell/bluebelllaw01.WordRings", spec := "wordRings", unfollowed := true, recurses := true, apart := false }
def WordRingsSaid : Prop := wordRingsRow.holds Try.pinned (OpenSpec.ofChange wordRingsSpec)

/-- ITS FALSE NEIGHBOUR: 'it returns false'. Refute it at one input. -/
def wordRingsWrong : ChangeSpec := { name := "wordRings", fn := fun _ => fun
  | [d1, d2, d3, d4] => { results := [.lit (.bool false)], args := [d1, d2, d3, d4] }
  | _ => none }
def WordRingsWrongFalsely : Prop := wordRingsRow.holds Try.pinned (OpenSpec.ofChange wordRingsWrong)

/-- 'bluebelllaw01.WordBits': WHATEVER THE INPUT: true; the input reads as it did. -/
def wordBitsSpec : ChangeSpec := { name := "wordBits", fn := fun _ => fun
  | [d1, d2, d3, d4] => { results := [.lit (.bool true)], args := [d1, d2, d3, d4] }
  | _ => none }
def wordBitsRow : OpenClaim := { program := "ythllfmbdapdogaa", sum := "bf8c30604513fd0c825be0faf7577db46eeb8c46f3f3ffd5abc67a10a95767de", func := "bluebell/bluebelllaw01.WordBits", spec := "wordBits", unfollowed := true, recurses := true, apart := false }
def WordBitsSaid : Prop := wordBitsRow.holds Try.pinned (OpenSpec.ofChange wordBitsSpec)

/-- ITS FALSE NEIGHBOUR: 'it returns false'. Refute it at one input. -/
def wordBitsWrong : ChangeSpec := { name := "wordBits", fn := fun _ => fun
  | [d1, d2, d3, d4] => { results := [.lit (.bool false)], args := [d1, d2, d3, d4] }
  | _ => none }
def WordBitsWrongFalsely : Prop := wordBitsRow.holds Try.pinned (OpenSpec.ofChange wordBitsWrong)

/-- 'bluebelllaw01.WordMulDivs': WHATEVER THE INPUT: true; the input reads as it did. -/
def wordMulDivsSpec : ChangeSpec := { name := "wordMulDivs", fn := fun _ => fun
  | [d1, d2, d3, d4] => { results := [.lit (.bool true)], args := [d1, d2, d3, d4] }
  | _ => none }
def wordMulDivsRow : OpenClaim := { program := "ythllfmbdapdogaa", sum := "bf8c30604513fd0c825be0faf7577db46eeb8c46f3f3ffd5abc67a10a95767de", func := "bluebell/bluebelllaw01.WordMulDivs", spec := "wordMulDivs", unfollowed := true, recurses := true, apart := false }
def WordMulDivsSaid : Prop := wordMulDivsRow.holds Try.pinned (OpenSpec.ofChange wordMulDivsSpec)

/-- ITS FALSE NEIGHBOUR: 'it returns false'. Refute it at one input. -/
def wordMulDivsWrong : ChangeSpec := { name := "wordMulDivs", fn := fun _ => fun
  | [d1, d2, d3, d4] => { results := [.lit (.bool false)], args := [d1, d2, d3, d4] }
  | _ => none }
def WordMulDivsWrongFalsely : Prop := wordMulDivsRow.holds Try.pinned (OpenSpec.ofChange wordMulDivsWrong)

/-- 'bluebelllaw01.WordNorms': WHATEVER THE INPUT: true; the input reads as it did. -/
def wordNormsSpec : ChangeSpec := { name := "wordNorms", fn := fun _ => fun
  | [d1, d2] => { results := [.lit (.bool true)], args := [d1, d2] }
  | _ => none }
def wordNormsRow : OpenClaim := { program := "ythllfmbdapdogaa", sum := "bf8c30604513fd0c825be0faf7577db46eeb8c46f3f3ffd5abc67a10a95767de", func := "bluebell/bluebelllaw01.WordNorms", spec := "wordNorms", unfollowed := true, recurses := true, apart := false }
def WordNormsSaid : Prop := wordNormsRow.holds Try.pinned (OpenSpec.ofChange wordNormsSpec)

/-- ITS FALSE NEIGHBOUR: 'it returns false'. Refute it at one input. -/
def wordNormsWrong : ChangeSpec := { name := "wordNorms", fn := fun _ => fun
  | [d1, d2] => { results := [.lit (.bool false)], args := [d1, d2] }
  | _ => none }
def WordNormsWrongFalsely : Prop := wordNormsRow.holds Try.pinned (OpenSpec.ofChange wordNormsWrong)

/-- 'bluebelllaw01.WordExacts': WHATEVER THE INPUT: true; the input reads as it did. -/
def wordExactsSpec : ChangeSpec := { name := "wordExacts", fn := fun _ => fun
  | [d1, d2, d3, d4] => { results := [.lit (.bool true)], args := [d1, d2, d3, d4] }
  | _ => none }
def wordExactsRow : OpenClaim := { program := "ythllfmbdapdogaa", sum := "bf8c30604513fd0c825be0faf7577db46eeb8c46f3f3ffd5abc67a10a95767de", func := "bluebell/bluebelllaw01.WordExacts", spec := "wordExacts", unfollowed := true, recurses := true, apart := false }
def WordExactsSaid : Prop := wordExactsRow.holds Try.pinned (OpenSpec.ofChange wordExactsSpec)

/-- ITS FALSE NEIGHBOUR: 'it returns false'. Refute it at one input. -/
def wordExactsWrong : ChangeSpec := { name := "wordExacts", fn := fun _ => fun
  | [d1, d2, d3, d4] => { results := [.lit (.bool false)], args := [d1, d2, d3, d4] }
  | _ => none }
def WordExactsWrongFalsely : Prop := wordExactsRow.holds Try.pinned (OpenSpec.ofChange wordExactsWrong)

/-- 'bluebelllaw01.WordNarrow': WHATEVER THE INPUT: true; the input reads as it did. -/
def wordNarrowSpec : ChangeSpec := { name := "wordNarrow", fn := fun _ => fun
  | [d1, d2, d3] => { results := [.lit (.bool true)], args := [d1, d2, d3] }
  | _ => none }
def wordNarrowRow : OpenClaim := { program := "ythllfmbdapdogaa", sum := "bf8c30604513fd0c825be0faf7577db46eeb8c46f3f3ffd5abc67a10a95767de", func := "bluebell/bluebelllaw01.WordNarrow", spec := "wordNarrow", unfollowed := true, recurses := true, apart := false }
def WordNarrowSaid : Prop := wordNarrowRow.holds Try.pinned (OpenSpec.ofChange wordNarrowSpec)

/-- ITS FALSE NEIGHBOUR: 'it returns false'. Refute it at one input. -/
def wordNarrowWrong : ChangeSpec := { name := "wordNarrow", fn := fun _ => fun
  | [d1, d2, d3] => { results := [.lit (.bool false)], args := [d1, d2, d3] }
  | _ => none }
def WordNarrowWrongFalsely : Prop := wordNarrowRow.holds Try.pinned (OpenSpec.ofChange wordNarrowWrong)

/-- 'bluebelllaw01.WordBytes': WHATEVER THE INPUT: true; the input reads as it did. -/
def wordBytesSpec : ChangeSpec := { name := "wordBytes", fn := fun _ => fun
  | [d1, d2, d3, d4] => { results := [.lit (.bool true)], args := [d1, d2, d3, d4] }
  | _ => none }
def wordBytesRow : OpenClaim := { program := "ythllfmbdapdogaa", sum := "bf8c30604513fd0c825be0faf7577db46eeb8c46f3f3ffd5abc67a10a95767de", func := "bluebell/bluebelllaw01.WordBytes", spec := "wordBytes", unfollowed := true, recurses := true, apart := false }
def WordBytesSaid : Prop := wordBytesRow.holds Try.pinned (OpenSpec.ofChange wordBytesSpec)

/-- ITS FALSE NEIGHBOUR: 'it returns false'. Refute it at one input. -/
def wordBytesWrong : ChangeSpec := { name := "wordBytes", fn := fun _ => fun
  | [d1, d2, d3, d4] => { results := [.lit (.bool false)], args := [d1, d2, d3, d4] }
  | _ => none }
def WordBytesWrongFalsely : Prop := wordBytesRow.holds Try.pinned (OpenSpec.ofChange wordBytesWrong)

/-- 'bluebelllaw01.WordPacks': WHATEVER THE INPUT: true; the input reads as it did. -/
def wordPacksSpec : ChangeSpec := { name := "wordPacks", fn := fun _ => fun
  | [d1, d2, d3] => { results := [.lit (.bool true)], args := [d1, d2, d3] }
  | _ => none }
def wordPacksRow : OpenClaim := { program := "ythllfmbdapdogaa", sum := "bf8c30604513fd0c825be0faf7577db46eeb8c46f3f3ffd5abc67a10a95767de", func := "bluebell/bluebelllaw01.WordPacks", spec := "wordPacks", unfollowed := true, recurses := true, apart := false }
def WordPacksSaid : Prop := wordPacksRow.holds Try.pinned (OpenSpec.ofChange wordPacksSpec)

/-- ITS FALSE NEIGHBOUR: 'it returns false'. Refute it at one input. -/
def wordPacksWrong : ChangeSpec := { name := "wordPacks", fn := fun _ => fun
  | [d1, d2, d3] => { results := [.lit (.bool false)], args := [d1, d2, d3] }
  | _ => none }
def WordPacksWrongFalsely : Prop := wordPacksRow.holds Try.pinned (OpenSpec.ofChange wordPacksWrong)

/-- 'bluebelllaw01.WordBack': WHATEVER THE INPUT: true; the input reads as it did. -/
def wordBackSpec : ChangeSpec := { name := "wordBack", fn := fun _ => fun
  | [d1, d2, d3, d4, d5] => { results := [.lit (.bool true)], args := [d1, d2, d3, d4, d5] }
  | _ => none }
def wordBackRow : OpenClaim := { program := "ythllfmbdapdogaa", sum := "bf8c30604513fd0c825be0faf7577db46eeb8c46f3f3ffd5abc67a10a95767de", func := "bluebell/bluebelllaw01.WordBack", spec := "wordBack", unfollowed := true, recurses := true, apart := false }
def WordBackSaid : Prop := wordBackRow.holds Try.pinned (OpenSpec.ofChange wordBackSpec)

/-- ITS FALSE NEIGHBOUR: 'it returns false'. Refute it at one input. -/
def wordBackWrong : ChangeSpec := { name := "wordBack", fn := fun _ => fun
  | [d1, d2, d3, d4, d5] => { results := [.lit (.bool false)], args := [d1, d2, d3, d4, d5] }
  | _ => none }
def WordBackWrongFalsely : Prop := wordBackRow.holds Try.pinned (OpenSpec.ofChange wordBackWrong)

/- THE SECOND FORM. 'bulk': how many values and letters a reading holds, each counted each time it is reached (what is shared counts as often as it is met; a slice's spare places count too). A statement '..UptoSaid' is the law's where the arguments, and the package variables that the reading takes, are together of bulk at most 1048576: NARROWER than '..Said'. Prove '..Said' where nothing that the law and all that it calls make is longer than what came in: it says more and counts as full. Else prove '..UptoSaid'. A law counts once. -/
mutual
def uptoBulk {H : Type} : DataW H → Nat
  | .lit (.string bytes) => bytes.length + 1
  | .lit _ => 1
  | .nil => 1
  | .ptr d => uptoBulk d + 1
  | .slice elems spare => uptoBulkAll elems + uptoBulkAll spare + 1
  | .agg parts => uptoBulkAll parts + 1
  | .iface _ d => uptoBulk d + 1
  | .map entries => uptoBulkEntries entries + 1
  | .held _ => 1
def uptoBulkAll {H : Type} : List (DataW H) → Nat
  | [] => 0
  | d :: r => uptoBulk d + uptoBulkAll r
def uptoBulkEntries {H : Type} : List (Lit × DataW H) → Nat
  | [] => 0
  | x :: r => uptoBulkEntry x + uptoBulkEntries r
def uptoBulkEntry {H : Type} : Lit × DataW H → Nat
  | (.string bytes, d) => bytes.length + uptoBulk d + 1
  | (_, d) => uptoBulk d + 1
 end
def uptoSmall : (H : Type) → List (DataW H) → Bool := fun _ ds => decide (uptoBulkAll ds ≤ 1048576)
def OpenSpec.upto (s : _root_.Go.ChangeSpec) : _root_.Go.OpenSpec := { _root_.Go.OpenSpec.ofChange s with cond := some uptoSmall }

/-- 'bluebelllaw01.WordApplies', WHERE WHAT IT READS IS OF BULK AT MOST 1048576: true; the input reads as it did. -/
def wordAppliesUptoRow : OpenClaim := { program := "ythllfmbdapdogaa", sum := "bf8c30604513fd0c825be0faf7577db46eeb8c46f3f3ffd5abc67a10a95767de", func := "bluebell/bluebelllaw01.WordApplies", spec := "wordApplies", unfollowed := true, recurses := true, apart := false, narrowed := true }
def WordAppliesUptoSaid : Prop := wordAppliesUptoRow.holds Try.pinned (OpenSpec.upto wordAppliesSpec)

/-- 'bluebelllaw01.WordRings', WHERE WHAT IT READS IS OF BULK AT MOST 1048576: true; the input reads as it did. -/
def wordRingsUptoRow : OpenClaim := { program := "ythllfmbdapdogaa", sum := "bf8c30604513fd0c825be0faf7577db46eeb8c46f3f3ffd5abc67a10a95767de", func := "bluebell/bluebelllaw01.WordRings", spec := "wordRings", unfollowed := true, recurses := true, apart := false, narrowed := true }
def WordRingsUptoSaid : Prop := wordRingsUptoRow.holds Try.pinned (OpenSpec.upto wordRingsSpec)

/-- 'bluebelllaw01.WordBits', WHERE WHAT IT READS IS OF BULK AT MOST 1048576: true; the input reads as it did. -/
def wordBitsUptoRow : OpenClaim := { program := "ythllfmbdapdogaa", sum := "bf8c30604513fd0c825be0faf7577db46eeb8c46f3f3ffd5abc67a10a95767de", func := "bluebell/bluebelllaw01.WordBits", spec := "wordBits", unfollowed := true, recurses := true, apart := false, narrowed := true }
def WordBitsUptoSaid : Prop := wordBitsUptoRow.holds Try.pinned (OpenSpec.upto wordBitsSpec)

/-- 'bluebelllaw01.WordMulDivs', WHERE WHAT IT READS IS OF BULK AT MOST 1048576: true; the input reads as it did. -/
def wordMulDivsUptoRow : OpenClaim := { program := "ythllfmbdapdogaa", sum := "bf8c30604513fd0c825be0faf7577db46eeb8c46f3f3ffd5abc67a10a95767de", func := "bluebell/bluebelllaw01.WordMulDivs", spec := "wordMulDivs", unfollowed := true, recurses := true, apart := false, narrowed := true }
def WordMulDivsUptoSaid : Prop := wordMulDivsUptoRow.holds Try.pinned (OpenSpec.upto wordMulDivsSpec)

/-- 'bluebelllaw01.WordNorms', WHERE WHAT IT READS IS OF BULK AT MOST 1048576: true; the input reads as it did. -/
def wordNormsUptoRow : OpenClaim := { program := "ythllfmbdapdogaa", sum := "bf8c30604513fd0c825be0faf7577db46eeb8c46f3f3ffd5abc67a10a95767de", func := "bluebell/bluebelllaw01.WordNorms", spec := "wordNorms", unfollowed := true, recurses := true, apart := false, narrowed := true }
def WordNormsUptoSaid : Prop := wordNormsUptoRow.holds Try.pinned (OpenSpec.upto wordNormsSpec)

/-- 'bluebelllaw01.WordExacts', WHERE WHAT IT READS IS OF BULK AT MOST 1048576: true; the input reads as it did. -/
def wordExactsUptoRow : OpenClaim := { program := "ythllfmbdapdogaa", sum := "bf8c30604513fd0c825be0faf7577db46eeb8c46f3f3ffd5abc67a10a95767de", func := "bluebell/bluebelllaw01.WordExacts", spec := "wordExacts", unfollowed := true, recurses := true, apart := false, narrowed := true }
def WordExactsUptoSaid : Prop := wordExactsUptoRow.holds Try.pinned (OpenSpec.upto wordExactsSpec)

/-- 'bluebelllaw01.WordNarrow', WHERE WHAT IT READS IS OF BULK AT MOST 1048576: true; the input reads as it did. -/
def wordNarrowUptoRow : OpenClaim := { program := "ythllfmbdapdogaa", sum := "bf8c30604513fd0c825be0faf7577db46eeb8c46f3f3ffd5abc67a10a95767de", func := "bluebell/bluebelllaw01.WordNarrow", spec := "wordNarrow", unfollowed := true, recurses := true, apart := false, narrowed := true }
def WordNarrowUptoSaid : Prop := wordNarrowUptoRow.holds Try.pinned (OpenSpec.upto wordNarrowSpec)

/-- 'bluebelllaw01.WordBytes', WHERE WHAT IT READS IS OF BULK AT MOST 1048576: true; the input reads as it did. -/
def wordBytesUptoRow : OpenClaim := { program := "ythllfmbdapdogaa", sum := "bf8c30604513fd0c825be0faf7577db46eeb8c46f3f3ffd5abc67a10a95767de", func := "bluebell/bluebelllaw01.WordBytes", spec := "wordBytes", unfollowed := true, recurses := true, apart := false, narrowed := true }
def WordBytesUptoSaid : Prop := wordBytesUptoRow.holds Try.pinned (OpenSpec.upto wordBytesSpec)

/-- 'bluebelllaw01.WordPacks', WHERE WHAT IT READS IS OF BULK AT MOST 1048576: true; the input reads as it did. -/
def wordPacksUptoRow : OpenClaim := { program := "ythllfmbdapdogaa", sum := "bf8c30604513fd0c825be0faf7577db46eeb8c46f3f3ffd5abc67a10a95767de", func := "bluebell/bluebelllaw01.WordPacks", spec := "wordPacks", unfollowed := true, recurses := true, apart := false, narrowed := true }
def WordPacksUptoSaid : Prop := wordPacksUptoRow.holds Try.pinned (OpenSpec.upto wordPacksSpec)

/-- 'bluebelllaw01.WordBack', WHERE WHAT IT READS IS OF BULK AT MOST 1048576: true; the input reads as it did. -/
def wordBackUptoRow : OpenClaim := { program := "ythllfmbdapdogaa", sum := "bf8c30604513fd0c825be0faf7577db46eeb8c46f3f3ffd5abc67a10a95767de", func := "bluebell/bluebelllaw01.WordBack", spec := "wordBack", unfollowed := true, recurses := true, apart := false, narrowed := true }
def WordBackUptoSaid : Prop := wordBackUptoRow.holds Try.pinned (OpenSpec.upto wordBackSpec)

end Rows
end Go.Proofs.Ythllfmbdapdogaa
