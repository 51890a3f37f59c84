/-
  No cell of these rows narrows 'for every input' (looked for: loops, veiled, ifaces, maps, wideKeys, modest, calm, conditions, laid).
  DERIVED. THE GIVEN ROWS OF THIS SEAT. 7 by the template 'for every input the law returns true; each argument reads behind the call as it read before'; 0 by the template 'total and deterministic' (their statements: YtkdnkjjnmadhgaaTotals.lean).
  GIVEN WITH THE SEED: the statements are not yours to turn. If you find one false, say at which input.
  Laid BY PROGRAM, IN A SANDBOX (cutbox-rows.mjs): the forced cells as the released guide's own fill.sh prints them over the translation d22b66c5f09d6de9… (all of the seat's roots in one cut). By AI agents, Wed Nov 11 2026. No macro, syntax, notation, axiom, sorry.
-/
import Derived.Test.YtkdnkjjnmadhgaaChecked
import GoSem.Claim
import GoSem.ClaimJoined
import GoSem.ClaimMapViews
import Derived.JoinedTies
import Derived.KernelRfl
namespace Go.Proofs.Ytkdnkjjnmadhgaa
/- THE CELL 'sum', in the pinned program and in every row, IS THE sha256 OF THE DUMP (.gsa) THAT YtkdnkjjnmadhgaaProg.lean LOADS. Nothing in Lean hashes anything: it is a label: what it is worth is what the hold of that sum in a sandbox is worth. -/
noncomputable def Try.pinned : Pinned := { name := "ytkdnkjjnmadhgaa", sum := "d22b66c5f09d6de9ae739775327f010c6f7349454a3812ca70ba540af3979fe2", checked := Try.checked }
namespace Rows
def none {H : Type} : Left H := { results := [], args := [] }

/-- 'bluebelllaw20.DevicePlays': WHATEVER THE INPUT: true; the input reads as it did. -/
def devicePlaysSpec : ChangeSpec := { name := "devicePlays", fn := fun _ => fun
  | [d1, d2] => { results := [.lit (.bool true)], args := [d1, d2] }
  | _ => none }
def devicePlaysRow : OpenClaim := { program := "ytkdnkjjnmadhgaa", sum := "d22b66c5f09d6de9ae739775327f010c6f7349454a3812ca70ba540af3979fe2", func := "bluebell/bluebelllaw20.DevicePlays", spec := "devicePlays", unfollowed := true, recurses := true, apart := false }
def DevicePlaysSaid : Prop := devicePlaysRow.holds Try.pinned (OpenSpec.ofChange devicePlaysSpec)

/-- ITS FALSE NEIGHBOUR: 'it returns false'. Refute it at one input. -/
def devicePlaysWrong : ChangeSpec := { name := "devicePlays", fn := fun _ => fun
  | [d1, d2] => { results := [.lit (.bool false)], args := [d1, d2] }
  | _ => none }
def DevicePlaysWrongFalsely : Prop := devicePlaysRow.holds Try.pinned (OpenSpec.ofChange devicePlaysWrong)

/-- 'bluebelllaw20.DeviceApart': WHATEVER THE INPUT: true; the input reads as it did. -/
def deviceApartSpec : ChangeSpec := { name := "deviceApart", fn := fun _ => fun
  | [d1, d2, d3] => { results := [.lit (.bool true)], args := [d1, d2, d3] }
  | _ => none }
def deviceApartRow : OpenClaim := { program := "ytkdnkjjnmadhgaa", sum := "d22b66c5f09d6de9ae739775327f010c6f7349454a3812ca70ba540af3979fe2", func := "bluebell/bluebelllaw20.DeviceApart", spec := "deviceApart", unfollowed := true, recurses := true, apart := false }
def DeviceApartSaid : Prop := deviceApartRow.holds Try.pinned (OpenSpec.ofChange deviceApartSpec)

/-- ITS FALSE NEIGHBOUR: 'it returns false'. Refute it at one input. -/
def deviceApartWrong : ChangeSpec := { name := "deviceApart", fn := fun _ => fun
  | [d1, d2, d3] => { results := [.lit (.bool false)], args := [d1, d2, d3] }
  | _ => none }
def DeviceApartWrongFalsely : Prop := deviceApartRow.holds Try.pinned (OpenSpec.ofChange deviceApartWrong)

/-- 'bluebelllaw20.DevicePieces': WHATEVER THE INPUT: true; the input reads as it did. -/
def devicePiecesSpec : ChangeSpec := { name := "devicePieces", fn := fun _ => fun
  | [d1, d2, d3] => { results := [.lit (.bool true)], args := [d1, d2, d3] }
  | _ => none }
def devicePiecesRow : OpenClaim := { program := "ytkdnkjjnmadhgaa", sum := "d22b66c5f09d6de9ae739775327f010c6f7349454a3812ca70ba540af3979fe2", func := "bluebell/bluebelllaw20.DevicePieces", spec := "devicePieces", unfollowed := true, recurses := true, apart := false }
def DevicePiecesSaid : Prop := devicePiecesRow.holds Try.pinned (OpenSpec.ofChange devicePiecesSpec)

/-- ITS FALSE NEIGHBOUR: 'it returns false'. Refute it at one input. -/
def devicePiecesWrong : ChangeSpec := { name := "devicePieces", fn := fun _ => fun
  | [d1, d2, d3] => { results := [.lit (.bool false)], args := [d1, d2, d3] }
  | _ => none }
def DevicePiecesWrongFalsely : Prop := devicePiecesRow.holds Try.pinned (OpenSpec.ofChange devicePiecesWrong)

/-- 'bluebelllaw20.DeviceLines': WHATEVER THE INPUT: true; the input reads as it did. -/
def deviceLinesSpec : ChangeSpec := { name := "deviceLines", fn := fun _ => fun
  | [d1, d2] => { results := [.lit (.bool true)], args := [d1, d2] }
  | _ => none }
def deviceLinesRow : OpenClaim := { program := "ytkdnkjjnmadhgaa", sum := "d22b66c5f09d6de9ae739775327f010c6f7349454a3812ca70ba540af3979fe2", func := "bluebell/bluebelllaw20.DeviceLines", spec := "deviceLines", unfollowed := true, recurses := true, apart := false }
def DeviceLinesSaid : Prop := deviceLinesRow.holds Try.pinned (OpenSpec.ofChange deviceLinesSpec)

/-- ITS FALSE NEIGHBOUR: 'it returns false'. Refute it at one input. -/
def deviceLinesWrong : ChangeSpec := { name := "deviceLines", fn := fun _ => fun
  | [d1, d2] => { results := [.lit (.bool false)], args := [d1, d2] }
  | _ => none }
def DeviceLinesWrongFalsely : Prop := deviceLinesRow.holds Try.pinned (OpenSpec.ofChange deviceLinesWrong)

/-- 'bluebelllaw20.DeviceReads': WHATEVER THE INPUT: true; the input reads as it did. -/
def deviceReadsSpec : ChangeSpec := { name := "deviceReads", fn := fun _ => fun
  | [d1, d2] => { results := [.lit (.bool true)], args := [d1, d2] }
  | _ => none }
def deviceReadsRow : OpenClaim := { program := "ytkdnkjjnmadhgaa", sum := "d22b66c5f09d6de9ae739775327f010c6f7349454a3812ca70ba540af3979fe2", func := "bluebell/bluebelllaw20.DeviceReads", spec := "deviceReads", inPlace := ["internal/bytealg.MakeNoZero"], unfollowed := true, recurses := true, apart := false }
def DeviceReadsSaid : Prop := deviceReadsRow.holds Try.pinned (OpenSpec.ofChange deviceReadsSpec)

/-- ITS FALSE NEIGHBOUR: 'it returns false'. Refute it at one input. -/
def deviceReadsWrong : ChangeSpec := { name := "deviceReads", fn := fun _ => fun
  | [d1, d2] => { results := [.lit (.bool false)], args := [d1, d2] }
  | _ => none }
def DeviceReadsWrongFalsely : Prop := deviceReadsRow.holds Try.pinned (OpenSpec.ofChange deviceReadsWrong)

/-- 'bluebelllaw20.DeviceDoes': WHATEVER THE INPUT: true; the input reads as it did. -/
def deviceDoesSpec : ChangeSpec := { name := "deviceDoes", fn := fun _ => fun
  | [d1, d2] => { results := [.lit (.bool true)], args := [d1, d2] }
  | _ => none }
def deviceDoesRow : OpenClaim := { program := "ytkdnkjjnmadhgaa", sum := "d22b66c5f09d6de9ae739775327f010c6f7349454a3812ca70ba540af3979fe2", func := "bluebell/bluebelllaw20.DeviceDoes", spec := "deviceDoes", inPlace := ["internal/bytealg.MakeNoZero"], unfollowed := true, recurses := true, apart := false }
def DeviceDoesSaid : Prop := deviceDoesRow.holds Try.pinned (OpenSpec.ofChange deviceDoesSpec)

/-- ITS FALSE NEIGHBOUR: 'it returns false'. Refute it at one input. -/
def deviceDoesWrong : ChangeSpec := { name := "deviceDoes", fn := fun _ => fun
  | [d1, d2] => { results := [.lit (.bool false)], args := [d1, d2] }
  | _ => none }
def DeviceDoesWrongFalsely : Prop := deviceDoesRow.holds Try.pinned (OpenSpec.ofChange deviceDoesWrong)

/-- 'bluebelllaw20.DeviceNil': WHATEVER THE INPUT: true; the input reads as it did. -/
def deviceNilSpec : ChangeSpec := { name := "deviceNil", fn := fun _ => fun
  | [d] => { results := [.lit (.bool true)], args := [d] }
  | _ => none }
def deviceNilRow : OpenClaim := { program := "ytkdnkjjnmadhgaa", sum := "d22b66c5f09d6de9ae739775327f010c6f7349454a3812ca70ba540af3979fe2", func := "bluebell/bluebelllaw20.DeviceNil", spec := "deviceNil", inPlace := ["internal/bytealg.MakeNoZero"], unfollowed := true, recurses := true, apart := false }
def DeviceNilSaid : Prop := deviceNilRow.holds Try.pinned (OpenSpec.ofChange deviceNilSpec)

/-- ITS FALSE NEIGHBOUR: 'it returns false'. Refute it at one input. -/
def deviceNilWrong : ChangeSpec := { name := "deviceNil", fn := fun _ => fun
  | [d] => { results := [.lit (.bool false)], args := [d] }
  | _ => none }
def DeviceNilWrongFalsely : Prop := deviceNilRow.holds Try.pinned (OpenSpec.ofChange deviceNilWrong)

/- THE SECOND FORM. 'bulk': how many values and letters a reading holds, each counted each time it is reached (what is shared counts as often as it is met; a slice's spare places count too). A statement '..UptoSaid' is the law's where the arguments, and the package variables that the reading takes, are together of bulk at most 1048576: NARROWER than '..Said'. Prove '..Said' where nothing that the law and all that it calls make is longer than what came in: it says more and counts as full. Else prove '..UptoSaid'. A law counts once. -/
mutual
def uptoBulk {H : Type} : DataW H → Nat
  | .lit (.string bytes) => bytes.length + 1
  | .lit _ => 1
  | .nil => 1
  | .ptr d => uptoBulk d + 1
  | .slice elems spare => uptoBulkAll elems + uptoBulkAll spare + 1
  | .agg parts => uptoBulkAll parts + 1
  | .iface _ d => uptoBulk d + 1
  | .map entries => uptoBulkEntries entries + 1
  | .held _ => 1
def uptoBulkAll {H : Type} : List (DataW H) → Nat
  | [] => 0
  | d :: r => uptoBulk d + uptoBulkAll r
def uptoBulkEntries {H : Type} : List (Lit × DataW H) → Nat
  | [] => 0
  | x :: r => uptoBulkEntry x + uptoBulkEntries r
def uptoBulkEntry {H : Type} : Lit × DataW H → Nat
  | (.string bytes, d) => bytes.length + uptoBulk d + 1
  | (_, d) => uptoBulk d + 1
 end
def uptoSmall : (H : Type) → List (DataW H) → Bool := fun _ ds => decide (uptoBulkAll ds ≤ 1048576)
def OpenSpec.upto (s : _root_.Go.ChangeSpec) : _root_.Go.OpenSpec := { _root_.Go.OpenSpec.ofChange s with cond := some uptoSmall }

/-- 'bluebelllaw20.DevicePlays', WHERE WHAT IT READS IS OF BULK AT MOST 1048576: true; the input reads as it did. -/
def devicePlaysUptoRow : OpenClaim := { program := "ytkdnkjjnmadhgaa", sum := "d22b66c5f09d6de9ae739775327f010c6f7349454a3812ca70ba540af3979fe2", func := "bluebell/bluebelllaw20.DevicePlays", spec := "devicePlays", unfollowed := true, recurses := true, apart := false, narrowed := true }
def DevicePlaysUptoSaid : Prop := devicePlaysUptoRow.holds Try.pinned (OpenSpec.upto devicePlaysSpec)

/-- 'bluebelllaw20.DeviceApart', WHERE WHAT IT READS IS OF BULK AT MOST 1048576: true; the input reads as it did. -/
def deviceApartUptoRow : OpenClaim := { program := "ytkdnkjjnmadhgaa", sum := "d22b66c5f09d6de9ae739775327f010c6f7349454a3812ca70ba540af3979fe2", func := "bluebell/bluebelllaw20.DeviceApart", spec := "deviceApart", unfollowed := true, recurses := true, apart := false, narrowed := true }
def DeviceApartUptoSaid : Prop := deviceApartUptoRow.holds Try.pinned (OpenSpec.upto deviceApartSpec)

/-- 'bluebelllaw20.DevicePieces', WHERE WHAT IT READS IS OF BULK AT MOST 1048576: true; the input reads as it did. -/
def devicePiecesUptoRow : OpenClaim := { program := "ytkdnkjjnmadhgaa", sum := "d22b66c5f09d6de9ae739775327f010c6f7349454a3812ca70ba540af3979fe2", func := "bluebell/bluebelllaw20.DevicePieces", spec := "devicePieces", unfollowed := true, recurses := true, apart := false, narrowed := true }
def DevicePiecesUptoSaid : Prop := devicePiecesUptoRow.holds Try.pinned (OpenSpec.upto devicePiecesSpec)

/-- 'bluebelllaw20.DeviceLines', WHERE WHAT IT READS IS OF BULK AT MOST 1048576: true; the input reads as it did. -/
def deviceLinesUptoRow : OpenClaim := { program := "ytkdnkjjnmadhgaa", sum := "d22b66c5f09d6de9ae739775327f010c6f7349454a3812ca70ba540af3979fe2", func := "bluebell/bluebelllaw20.DeviceLines", spec := "deviceLines", unfollowed := true, recurses := true, apart := false, narrowed := true }
def DeviceLinesUptoSaid : Prop := deviceLinesUptoRow.holds Try.pinned (OpenSpec.upto deviceLinesSpec)

/-- 'bluebelllaw20.DeviceReads', WHERE WHAT IT READS IS OF BULK AT MOST 1048576: true; the input reads as it did. -/
def deviceReadsUptoRow : OpenClaim := { program := "ytkdnkjjnmadhgaa", sum := "d22b66c5f09d6de9ae739775327f010c6f7349454a3812ca70ba540af3979fe2", func := "bluebell/bluebelllaw20.DeviceReads", spec := "deviceReads", inPlace := ["internal/bytealg.MakeNoZero"], unfollowed := true, recurses := true, apart := false, narrowed := true }
def DeviceReadsUptoSaid : Prop := deviceReadsUptoRow.holds Try.pinned (OpenSpec.upto deviceReadsSpec)

/-- 'bluebelllaw20.DeviceDoes', WHERE WHAT IT READS IS OF BULK AT MOST 1048576: true; the input reads as it did. -/
def deviceDoesUptoRow : OpenClaim := { program := "ytkdnkjjnmadhgaa", sum := "d22b66c5f09d6de9ae739775327f010c6f7349454a3812ca70ba540af3979fe2", func := "bluebell/bluebelllaw20.DeviceDoes", spec := "deviceDoes", inPlace := ["internal/bytealg.MakeNoZero"], unfollowed := true, recurses := true, apart := false, narrowed := true }
def DeviceDoesUptoSaid : Prop := deviceDoesUptoRow.holds Try.pinned (OpenSpec.upto deviceDoesSpec)

/-- 'bluebelllaw20.DeviceNil', WHERE WHAT IT READS IS OF BULK AT MOST 1048576: true; the input reads as it did. -/
def deviceNilUptoRow : OpenClaim := { program := "ytkdnkjjnmadhgaa", sum := "d22b66c5f09d6de9ae739775327f010c6f7349454a3812ca70ba540af3979fe2", func := "bluebell/bluebelllaw20.DeviceNil", spec := "deviceNil", inPlace := ["internal/bytealg.MakeNoZero"], unfollowed := true, recurses := true, apart := false, narrowed := true }
def DeviceNilUptoSaid : Prop := deviceNilUptoRow.holds Try.pinned (OpenSpec.upto deviceNilSpec)

end Rows
end Go.Proofs.Ytkdnkjjnmadhgaa
