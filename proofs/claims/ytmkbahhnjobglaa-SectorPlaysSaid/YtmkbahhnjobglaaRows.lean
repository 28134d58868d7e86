/-
  No cell of these rows narrows 'for every input' (looked for: loops, veiled, ifaces, maps, wideKeys, modest, calm, conditions, laid).
  DERIVED. THE GIVEN ROWS OF THIS SEAT. 7 by the template 'for every input the law returns true; each argument reads behind the call as it read before'; 0 by the template 'total and deterministic' (their statements: YtmkbahhnjobglaaTotals.lean).
  GIVEN WITH THE SEED: the statements are not yours to turn. If you find one false, say at which input.
  Laid BY PROGRAM, IN A SANDBOX (cutbox-rows.mjs): the forced cells as the released guide's own fill.sh prints them over the translation a149dbebf4c1843c… (all of the seat's roots in one cut). By AI agents, Wed Nov 11 2026. No macro, syntax, notation, axiom, sorry.
-/
import Derived.Test.YtmkbahhnjobglaaChecked
import GoSem.Claim
import GoSem.ClaimJoined
import GoSem.ClaimMapViews
import Derived.JoinedTies
import Derived.KernelRfl
namespace Go.Proofs.Ytmkbahhnjobglaa
/- THE CELL 'sum', in the pinned program and in every row, IS THE sha256 OF THE DUMP (.gsa) THAT YtmkbahhnjobglaaProg.lean LOADS. Nothing in Lean hashes anything: it is a label: what it is worth is what the hold of that sum in a sandbox is worth. -/
noncomputable def Try.pinned : Pinned := { name := "ytmkbahhnjobglaa", sum := "a149dbebf4c1843cdbf8a805d081c48f7257d88d418c5ace16f3b274bfb1bd75", checked := Try.checked }
namespace Rows
def none {H : Type} : Left H := { results := [], args := [] }

/-- 'valiselaw11.SectorEach': WHATEVER THE INPUT: true; the input reads as it did. -/
def sectorEachSpec : ChangeSpec := { name := "sectorEach", fn := fun _ => fun
  | [d1, d2, d3] => { results := [.lit (.bool true)], args := [d1, d2, d3] }
  | _ => none }
def sectorEachRow : OpenClaim := { program := "ytmkbahhnjobglaa", sum := "a149dbebf4c1843cdbf8a805d081c48f7257d88d418c5ace16f3b274bfb1bd75", func := "valise/valiselaw11.SectorEach", spec := "sectorEach", unfollowed := true, recurses := true, apart := false }
def SectorEachSaid : Prop := sectorEachRow.holds Try.pinned (OpenSpec.ofChange sectorEachSpec)

/-- ITS FALSE NEIGHBOUR: 'it returns false'. Refute it at one input. -/
def sectorEachWrong : ChangeSpec := { name := "sectorEach", fn := fun _ => fun
  | [d1, d2, d3] => { results := [.lit (.bool false)], args := [d1, d2, d3] }
  | _ => none }
def SectorEachWrongFalsely : Prop := sectorEachRow.holds Try.pinned (OpenSpec.ofChange sectorEachWrong)

/-- 'valiselaw11.SectorDark': WHATEVER THE INPUT: true; the input reads as it did. -/
def sectorDarkSpec : ChangeSpec := { name := "sectorDark", fn := fun _ => fun
  | [d1, d2] => { results := [.lit (.bool true)], args := [d1, d2] }
  | _ => none }
def sectorDarkRow : OpenClaim := { program := "ytmkbahhnjobglaa", sum := "a149dbebf4c1843cdbf8a805d081c48f7257d88d418c5ace16f3b274bfb1bd75", func := "valise/valiselaw11.SectorDark", spec := "sectorDark", unfollowed := true, recurses := true, apart := false }
def SectorDarkSaid : Prop := sectorDarkRow.holds Try.pinned (OpenSpec.ofChange sectorDarkSpec)

/-- ITS FALSE NEIGHBOUR: 'it returns false'. Refute it at one input. -/
def sectorDarkWrong : ChangeSpec := { name := "sectorDark", fn := fun _ => fun
  | [d1, d2] => { results := [.lit (.bool false)], args := [d1, d2] }
  | _ => none }
def SectorDarkWrongFalsely : Prop := sectorDarkRow.holds Try.pinned (OpenSpec.ofChange sectorDarkWrong)

/-- 'valiselaw11.SectorSure': WHATEVER THE INPUT: true; the input reads as it did. -/
def sectorSureSpec : ChangeSpec := { name := "sectorSure", fn := fun _ => fun
  | [d1, d2, d3, d4, d5] => { results := [.lit (.bool true)], args := [d1, d2, d3, d4, d5] }
  | _ => none }
def sectorSureRow : OpenClaim := { program := "ytmkbahhnjobglaa", sum := "a149dbebf4c1843cdbf8a805d081c48f7257d88d418c5ace16f3b274bfb1bd75", func := "valise/valiselaw11.SectorSure", spec := "sectorSure", unfollowed := true, recurses := true, apart := false }
def SectorSureSaid : Prop := sectorSureRow.holds Try.pinned (OpenSpec.ofChange sectorSureSpec)

/-- ITS FALSE NEIGHBOUR: 'it returns false'. Refute it at one input. -/
def sectorSureWrong : ChangeSpec := { name := "sectorSure", fn := fun _ => fun
  | [d1, d2, d3, d4, d5] => { results := [.lit (.bool false)], args := [d1, d2, d3, d4, d5] }
  | _ => none }
def SectorSureWrongFalsely : Prop := sectorSureRow.holds Try.pinned (OpenSpec.ofChange sectorSureWrong)

/-- 'valiselaw11.SectorRefuses': WHATEVER THE INPUT: true; the input reads as it did. -/
def sectorRefusesSpec : ChangeSpec := { name := "sectorRefuses", fn := fun _ => fun
  | [d1, d2, d3] => { results := [.lit (.bool true)], args := [d1, d2, d3] }
  | _ => none }
def sectorRefusesRow : OpenClaim := { program := "ytmkbahhnjobglaa", sum := "a149dbebf4c1843cdbf8a805d081c48f7257d88d418c5ace16f3b274bfb1bd75", func := "valise/valiselaw11.SectorRefuses", spec := "sectorRefuses", unfollowed := true, recurses := true, apart := false }
def SectorRefusesSaid : Prop := sectorRefusesRow.holds Try.pinned (OpenSpec.ofChange sectorRefusesSpec)

/-- ITS FALSE NEIGHBOUR: 'it returns false'. Refute it at one input. -/
def sectorRefusesWrong : ChangeSpec := { name := "sectorRefuses", fn := fun _ => fun
  | [d1, d2, d3] => { results := [.lit (.bool false)], args := [d1, d2, d3] }
  | _ => none }
def SectorRefusesWrongFalsely : Prop := sectorRefusesRow.holds Try.pinned (OpenSpec.ofChange sectorRefusesWrong)

/-- 'valiselaw11.SectorPlays': WHATEVER THE INPUT: true; the input reads as it did. -/
def sectorPlaysSpec : ChangeSpec := { name := "sectorPlays", fn := fun _ => fun
  | [d1, d2] => { results := [.lit (.bool true)], args := [d1, d2] }
  | _ => none }
def sectorPlaysRow : OpenClaim := { program := "ytmkbahhnjobglaa", sum := "a149dbebf4c1843cdbf8a805d081c48f7257d88d418c5ace16f3b274bfb1bd75", func := "valise/valiselaw11.SectorPlays", spec := "sectorPlays", unfollowed := true, recurses := true, apart := false }
def SectorPlaysSaid : Prop := sectorPlaysRow.holds Try.pinned (OpenSpec.ofChange sectorPlaysSpec)

/-- ITS FALSE NEIGHBOUR: 'it returns false'. Refute it at one input. -/
def sectorPlaysWrong : ChangeSpec := { name := "sectorPlays", fn := fun _ => fun
  | [d1, d2] => { results := [.lit (.bool false)], args := [d1, d2] }
  | _ => none }
def SectorPlaysWrongFalsely : Prop := sectorPlaysRow.holds Try.pinned (OpenSpec.ofChange sectorPlaysWrong)

/-- 'valiselaw11.SectorWhole': WHATEVER THE INPUT: true; the input reads as it did. -/
def sectorWholeSpec : ChangeSpec := { name := "sectorWhole", fn := fun _ => fun
  | [d1, d2] => { results := [.lit (.bool true)], args := [d1, d2] }
  | _ => none }
def sectorWholeRow : OpenClaim := { program := "ytmkbahhnjobglaa", sum := "a149dbebf4c1843cdbf8a805d081c48f7257d88d418c5ace16f3b274bfb1bd75", func := "valise/valiselaw11.SectorWhole", spec := "sectorWhole", unfollowed := true, recurses := true, apart := false }
def SectorWholeSaid : Prop := sectorWholeRow.holds Try.pinned (OpenSpec.ofChange sectorWholeSpec)

/-- ITS FALSE NEIGHBOUR: 'it returns false'. Refute it at one input. -/
def sectorWholeWrong : ChangeSpec := { name := "sectorWhole", fn := fun _ => fun
  | [d1, d2] => { results := [.lit (.bool false)], args := [d1, d2] }
  | _ => none }
def SectorWholeWrongFalsely : Prop := sectorWholeRow.holds Try.pinned (OpenSpec.ofChange sectorWholeWrong)

/-- 'valiselaw11.SectorNil': WHATEVER THE INPUT: true; the input reads as it did. -/
def sectorNilSpec : ChangeSpec := { name := "sectorNil", fn := fun _ => fun
  | [d1, d2, d3, d4] => { results := [.lit (.bool true)], args := [d1, d2, d3, d4] }
  | _ => none }
def sectorNilRow : OpenClaim := { program := "ytmkbahhnjobglaa", sum := "a149dbebf4c1843cdbf8a805d081c48f7257d88d418c5ace16f3b274bfb1bd75", func := "valise/valiselaw11.SectorNil", spec := "sectorNil", unfollowed := true, recurses := true, apart := false }
def SectorNilSaid : Prop := sectorNilRow.holds Try.pinned (OpenSpec.ofChange sectorNilSpec)

/-- ITS FALSE NEIGHBOUR: 'it returns false'. Refute it at one input. -/
def sectorNilWrong : ChangeSpec := { name := "sectorNil", fn := fun _ => fun
  | [d1, d2, d3, d4] => { results := [.lit (.bool false)], args := [d1, d2, d3, d4] }
  | _ => none }
def SectorNilWrongFalsely : Prop := sectorNilRow.holds Try.pinned (OpenSpec.ofChange sectorNilWrong)

/- THE SECOND FORM. 'bulk': how many values and letters a reading holds, each counted each time it is reached (what is shared counts as often as it is met; a slice's spare places count too). A statement '..UptoSaid' is the law's where the arguments, and the package variables that the reading takes, are together of bulk at most 1048576: NARROWER than '..Said'. Prove '..Said' where nothing that the law and all that it calls make is longer than what came in: it says more and counts as full. Else prove '..UptoSaid'. A law counts once. -/
mutual
def uptoBulk {H : Type} : DataW H → Nat
  | .lit (.string bytes) => bytes.length + 1
  | .lit _ => 1
  | .nil => 1
  | .ptr d => uptoBulk d + 1
  | .slice elems spare => uptoBulkAll elems + uptoBulkAll spare + 1
  | .agg parts => uptoBulkAll parts + 1
  | .iface _ d => uptoBulk d + 1
  | .map entries => uptoBulkEntries entries + 1
  | .held _ => 1
def uptoBulkAll {H : Type} : List (DataW H) → Nat
  | [] => 0
  | d :: r => uptoBulk d + uptoBulkAll r
def uptoBulkEntries {H : Type} : List (Lit × DataW H) → Nat
  | [] => 0
  | x :: r => uptoBulkEntry x + uptoBulkEntries r
def uptoBulkEntry {H : Type} : Lit × DataW H → Nat
  | (.string bytes, d) => bytes.length + uptoBulk d + 1
  | (_, d) => uptoBulk d + 1
 end
def uptoSmall : (H : Type) → List (DataW H) → Bool := fun _ ds => decide (uptoBulkAll ds ≤ 1048576)
def OpenSpec.upto (s : _root_.Go.ChangeSpec) : _root_.Go.OpenSpec := { _root_.Go.OpenSpec.ofChange s with cond := some uptoSmall }

/-- 'valiselaw11.SectorEach', WHERE WHAT IT READS IS OF BULK AT MOST 1048576: true; the input reads as it did. -/
def sectorEachUptoRow : OpenClaim := { program := "ytmkbahhnjobglaa", sum := "a149dbebf4c1843cdbf8a805d081c48f7257d88d418c5ace16f3b274bfb1bd75", func := "valise/valiselaw11.SectorEach", spec := "sectorEach", unfollowed := true, recurses := true, apart := false, narrowed := true }
def SectorEachUptoSaid : Prop := sectorEachUptoRow.holds Try.pinned (OpenSpec.upto sectorEachSpec)

/-- 'valiselaw11.SectorDark', WHERE WHAT IT READS IS OF BULK AT MOST 1048576: true; the input reads as it did. -/
def sectorDarkUptoRow : OpenClaim := { program := "ytmkbahhnjobglaa", sum := "a149dbebf4c1843cdbf8a805d081c48f7257d88d418c5ace16f3b274bfb1bd75", func := "valise/valiselaw11.SectorDark", spec := "sectorDark", unfollowed := true, recurses := true, apart := false, narrowed := true }
def SectorDarkUptoSaid : Prop := sectorDarkUptoRow.holds Try.pinned (OpenSpec.upto sectorDarkSpec)

/-- 'valiselaw11.SectorSure', WHERE WHAT IT READS IS OF BULK AT MOST 1048576: true; the input reads as it did. -/
def sectorSureUptoRow : OpenClaim := { program := "ytmkbahhnjobglaa", sum := "a149dbebf4c1843cdbf8a805d081c48f7257d88d418c5ace16f3b274bfb1bd75", func := "valise/valiselaw11.SectorSure", spec := "sectorSure", unfollowed := true, recurses := true, apart := false, narrowed := true }
def SectorSureUptoSaid : Prop := sectorSureUptoRow.holds Try.pinned (OpenSpec.upto sectorSureSpec)

/-- 'valiselaw11.SectorRefuses', WHERE WHAT IT READS IS OF BULK AT MOST 1048576: true; the input reads as it did. -/
def sectorRefusesUptoRow : OpenClaim := { program := "ytmkbahhnjobglaa", sum := "a149dbebf4c1843cdbf8a805d081c48f7257d88d418c5ace16f3b274bfb1bd75", func := "valise/valiselaw11.SectorRefuses", spec := "sectorRefuses", unfollowed := true, recurses := true, apart := false, narrowed := true }
def SectorRefusesUptoSaid : Prop := sectorRefusesUptoRow.holds Try.pinned (OpenSpec.upto sectorRefusesSpec)

/-- 'valiselaw11.SectorPlays', WHERE WHAT IT READS IS OF BULK AT MOST 1048576: true; the input reads as it did. -/
def sectorPlaysUptoRow : OpenClaim := { program := "ytmkbahhnjobglaa", sum := "a149dbebf4c1843cdbf8a805d081c48f7257d88d418c5ace16f3b274bfb1bd75", func := "valise/valiselaw11.SectorPlays", spec := "sectorPlays", unfollowed := true, recurses := true, apart := false, narrowed := true }
def SectorPlaysUptoSaid : Prop := sectorPlaysUptoRow.holds Try.pinned (OpenSpec.upto sectorPlaysSpec)

/-- 'valiselaw11.SectorWhole', WHERE WHAT IT READS IS OF BULK AT MOST 1048576: true; the input reads as it did. -/
def sectorWholeUptoRow : OpenClaim := { program := "ytmkbahhnjobglaa", sum := "a149dbebf4c1843cdbf8a805d081c48f7257d88d418c5ace16f3b274bfb1bd75", func := "valise/valiselaw11.SectorWhole", spec := "sectorWhole", unfollowed := true, recurses := true, apart := false, narrowed := true }
def SectorWholeUptoSaid : Prop := sectorWholeUptoRow.holds Try.pinned (OpenSpec.upto sectorWholeSpec)

/-- 'valiselaw11.SectorNil', WHERE WHAT IT READS IS OF BULK AT MOST 1048576: true; the input reads as it did. -/
def sectorNilUptoRow : OpenClaim := { program := "ytmkbahhnjobglaa", sum := "a149dbebf4c1843cdbf8a805d081c48f7257d88d418c5ace16f3b274bfb1bd75", func := "valise/valiselaw11.SectorNil", spec := "sectorNil", unfollowed := true, recurses := true, apart := false, narrowed := true }
def SectorNilUptoSaid : Prop := sectorNilUptoRow.holds Try.pinned (OpenSpec.upto sectorNilSpec)

end Rows
end Go.Proofs.Ytmkbahhnjobglaa
