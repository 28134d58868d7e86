/-
  No cell of these rows narrows 'for every input' (looked for: loops, veiled, ifaces, maps, wideKeys, modest, calm, conditions, laid).
  DERIVED. THE GIVEN ROWS OF THIS SEAT. 7 by the template 'for every input the law returns true; each argument reads behind the call as it read before'; 0 by the template 'total and deterministic' (their statements: YtlhfhhbafhnbkaaTotals.lean).
  GIVEN WITH THE SEED: the statements are not yours to turn. If you find one false, say at which input.
  Laid BY PROGRAM, IN A SANDBOX (cutbox-rows.mjs): the forced cells as the released guide's own fill.sh prints them over the translation 41b5b622034cba4b… (all of the seat's roots in one cut). By AI agents, Wed Nov 11 2026. No macro, syntax, notation, axiom, sorry.
-/
import Derived.Test.YtlhfhhbafhnbkaaChecked
import GoSem.Claim
import GoSem.ClaimJoined
import GoSem.ClaimMapViews
import Derived.JoinedTies
import Derived.KernelRfl
namespace Go.Proofs.Ytlhfhhbafhnbkaa
/- THE CELL 'sum', in the pinned program and in every row, IS THE sha256 OF THE DUMP (.gsa) THAT YtlhfhhbafhnbkaaProg.lean LOADS. Nothing in Lean hashes anything: it is a label: what it is worth is what the hold of that sum in a sandbox is worth. -/
noncomputable def Try.pinned : Pinned := { name := "ytlhfhhbafhnbkaa", sum := "41b5b622034cba4b09d261b41408beae1c33782a373edca92b984d903bcf1869", checked := Try.checked }
namespace Rows
def none {H : Type} : Left H := { results := [], args := [] }

/-- 'valiselaw12.SlotsRooms': WHATEVER THE INPUT: true; the input reads as it did. -/
def slotsRoomsSpec : ChangeSpec := { name := "slotsRooms", fn := fun _ => fun
  | [d] => { results := [.lit (.bool true)], args := [d] }
  | _ => none }
def slotsRoomsRow : OpenClaim := { program := "ytlhfhhbafhnbkaa", sum := "41b5b622034cba4b09d261b41408beae1c33782a373edca92b984d903bcf1869", func := "valise/valiselaw12.SlotsRooms", spec := "slotsRooms", unfollowed := true, recurses := true, apart := false }
def SlotsRoomsSaid : Prop := slotsRoomsRow.holds Try.pinned (OpenSpec.ofChange slotsRoomsSpec)

/-- ITS FALSE NEIGHBOUR: 'it returns false'. Refute it at one input. -/
def slotsRoomsWrong : ChangeSpec := { name := "slotsRooms", fn := fun _ => fun
  | [d] => { results := [.lit (.bool false)], args := [d] }
  | _ => none }
def SlotsRoomsWrongFalsely : Prop := slotsRoomsRow.holds Try.pinned (OpenSpec.ofChange slotsRoomsWrong)

/-- 'valiselaw12.SlotsHeaders': WHATEVER THE INPUT: true; the input reads as it did. -/
def slotsHeadersSpec : ChangeSpec := { name := "slotsHeaders", fn := fun _ => fun
  | [d1, d2, d3, d4, d5] => { results := [.lit (.bool true)], args := [d1, d2, d3, d4, d5] }
  | _ => none }
def slotsHeadersRow : OpenClaim := { program := "ytlhfhhbafhnbkaa", sum := "41b5b622034cba4b09d261b41408beae1c33782a373edca92b984d903bcf1869", func := "valise/valiselaw12.SlotsHeaders", spec := "slotsHeaders", unfollowed := true, recurses := true, apart := false }
def SlotsHeadersSaid : Prop := slotsHeadersRow.holds Try.pinned (OpenSpec.ofChange slotsHeadersSpec)

/-- ITS FALSE NEIGHBOUR: 'it returns false'. Refute it at one input. -/
def slotsHeadersWrong : ChangeSpec := { name := "slotsHeaders", fn := fun _ => fun
  | [d1, d2, d3, d4, d5] => { results := [.lit (.bool false)], args := [d1, d2, d3, d4, d5] }
  | _ => none }
def SlotsHeadersWrongFalsely : Prop := slotsHeadersRow.holds Try.pinned (OpenSpec.ofChange slotsHeadersWrong)

/-- 'valiselaw12.SlotsNil': WHATEVER THE INPUT: true; the input reads as it did. -/
def slotsNilSpec : ChangeSpec := { name := "slotsNil", fn := fun _ => fun
  | [d1, d2] => { results := [.lit (.bool true)], args := [d1, d2] }
  | _ => none }
def slotsNilRow : OpenClaim := { program := "ytlhfhhbafhnbkaa", sum := "41b5b622034cba4b09d261b41408beae1c33782a373edca92b984d903bcf1869", func := "valise/valiselaw12.SlotsNil", spec := "slotsNil", unfollowed := true, recurses := true, apart := false }
def SlotsNilSaid : Prop := slotsNilRow.holds Try.pinned (OpenSpec.ofChange slotsNilSpec)

/-- ITS FALSE NEIGHBOUR: 'it returns false'. Refute it at one input. -/
def slotsNilWrong : ChangeSpec := { name := "slotsNil", fn := fun _ => fun
  | [d1, d2] => { results := [.lit (.bool false)], args := [d1, d2] }
  | _ => none }
def SlotsNilWrongFalsely : Prop := slotsNilRow.holds Try.pinned (OpenSpec.ofChange slotsNilWrong)

/-- 'valiselaw12.SlotsTurned': WHATEVER THE INPUT: true; the input reads as it did. -/
def slotsTurnedSpec : ChangeSpec := { name := "slotsTurned", fn := fun _ => fun
  | [d1, d2, d3] => { results := [.lit (.bool true)], args := [d1, d2, d3] }
  | _ => none }
def slotsTurnedRow : OpenClaim := { program := "ytlhfhhbafhnbkaa", sum := "41b5b622034cba4b09d261b41408beae1c33782a373edca92b984d903bcf1869", func := "valise/valiselaw12.SlotsTurned", spec := "slotsTurned", unfollowed := true, recurses := true, apart := false }
def SlotsTurnedSaid : Prop := slotsTurnedRow.holds Try.pinned (OpenSpec.ofChange slotsTurnedSpec)

/-- ITS FALSE NEIGHBOUR: 'it returns false'. Refute it at one input. -/
def slotsTurnedWrong : ChangeSpec := { name := "slotsTurned", fn := fun _ => fun
  | [d1, d2, d3] => { results := [.lit (.bool false)], args := [d1, d2, d3] }
  | _ => none }
def SlotsTurnedWrongFalsely : Prop := slotsTurnedRow.holds Try.pinned (OpenSpec.ofChange slotsTurnedWrong)

/-- 'valiselaw12.SlotsBack': WHATEVER THE INPUT: true; the input reads as it did. -/
def slotsBackSpec : ChangeSpec := { name := "slotsBack", fn := fun _ => fun
  | [d1, d2] => { results := [.lit (.bool true)], args := [d1, d2] }
  | _ => none }
def slotsBackRow : OpenClaim := { program := "ytlhfhhbafhnbkaa", sum := "41b5b622034cba4b09d261b41408beae1c33782a373edca92b984d903bcf1869", func := "valise/valiselaw12.SlotsBack", spec := "slotsBack", unfollowed := true, recurses := true, apart := false }
def SlotsBackSaid : Prop := slotsBackRow.holds Try.pinned (OpenSpec.ofChange slotsBackSpec)

/-- ITS FALSE NEIGHBOUR: 'it returns false'. Refute it at one input. -/
def slotsBackWrong : ChangeSpec := { name := "slotsBack", fn := fun _ => fun
  | [d1, d2] => { results := [.lit (.bool false)], args := [d1, d2] }
  | _ => none }
def SlotsBackWrongFalsely : Prop := slotsBackRow.holds Try.pinned (OpenSpec.ofChange slotsBackWrong)

/-- 'valiselaw12.SlotsPower': WHATEVER THE INPUT: true; the input reads as it did. -/
def slotsPowerSpec : ChangeSpec := { name := "slotsPower", fn := fun _ => fun
  | [d1, d2, d3] => { results := [.lit (.bool true)], args := [d1, d2, d3] }
  | _ => none }
def slotsPowerRow : OpenClaim := { program := "ytlhfhhbafhnbkaa", sum := "41b5b622034cba4b09d261b41408beae1c33782a373edca92b984d903bcf1869", func := "valise/valiselaw12.SlotsPower", spec := "slotsPower", unfollowed := true, recurses := true, apart := false }
def SlotsPowerSaid : Prop := slotsPowerRow.holds Try.pinned (OpenSpec.ofChange slotsPowerSpec)

/-- ITS FALSE NEIGHBOUR: 'it returns false'. Refute it at one input. -/
def slotsPowerWrong : ChangeSpec := { name := "slotsPower", fn := fun _ => fun
  | [d1, d2, d3] => { results := [.lit (.bool false)], args := [d1, d2, d3] }
  | _ => none }
def SlotsPowerWrongFalsely : Prop := slotsPowerRow.holds Try.pinned (OpenSpec.ofChange slotsPowerWrong)

/-- 'valiselaw12.SlotsPlays': WHATEVER THE INPUT: true; the input reads as it did. -/
def slotsPlaysSpec : ChangeSpec := { name := "slotsPlays", fn := fun _ => fun
  | [d1, d2] => { results := [.lit (.bool true)], args := [d1, d2] }
  | _ => none }
def slotsPlaysRow : OpenClaim := { program := "ytlhfhhbafhnbkaa", sum := "41b5b622034cba4b09d261b41408beae1c33782a373edca92b984d903bcf1869", func := "valise/valiselaw12.SlotsPlays", spec := "slotsPlays", unfollowed := true, recurses := true, apart := false }
def SlotsPlaysSaid : Prop := slotsPlaysRow.holds Try.pinned (OpenSpec.ofChange slotsPlaysSpec)

/-- ITS FALSE NEIGHBOUR: 'it returns false'. Refute it at one input. -/
def slotsPlaysWrong : ChangeSpec := { name := "slotsPlays", fn := fun _ => fun
  | [d1, d2] => { results := [.lit (.bool false)], args := [d1, d2] }
  | _ => none }
def SlotsPlaysWrongFalsely : Prop := slotsPlaysRow.holds Try.pinned (OpenSpec.ofChange slotsPlaysWrong)

/- THE SECOND FORM. 'bulk': how many values and letters a reading holds, each counted each time it is reached (what is shared counts as often as it is met; a slice's spare places count too). A statement '..UptoSaid' is the law's where the arguments, and the package variables that the reading takes, are together of bulk at most 1048576: NARROWER than '..Said'. Prove '..Said' where nothing that the law and all that it calls make is longer than what came in: it says more and counts as full. Else prove '..UptoSaid'. A law counts once. -/
mutual
def uptoBulk {H : Type} : DataW H → Nat
  | .lit (.string bytes) => bytes.length + 1
  | .lit _ => 1
  | .nil => 1
  | .ptr d => uptoBulk d + 1
  | .slice elems spare => uptoBulkAll elems + uptoBulkAll spare + 1
  | .agg parts => uptoBulkAll parts + 1
  | .iface _ d => uptoBulk d + 1
  | .map entries => uptoBulkEntries entries + 1
  | .held _ => 1
def uptoBulkAll {H : Type} : List (DataW H) → Nat
  | [] => 0
  | d :: r => uptoBulk d + uptoBulkAll r
def uptoBulkEntries {H : Type} : List (Lit × DataW H) → Nat
  | [] => 0
  | x :: r => uptoBulkEntry x + uptoBulkEntries r
def uptoBulkEntry {H : Type} : Lit × DataW H → Nat
  | (.string bytes, d) => bytes.length + uptoBulk d + 1
  | (_, d) => uptoBulk d + 1
 end
def uptoSmall : (H : Type) → List (DataW H) → Bool := fun _ ds => decide (uptoBulkAll ds ≤ 1048576)
def OpenSpec.upto (s : _root_.Go.ChangeSpec) : _root_.Go.OpenSpec := { _root_.Go.OpenSpec.ofChange s with cond := some uptoSmall }

/-- 'valiselaw12.SlotsRooms', WHERE WHAT IT READS IS OF BULK AT MOST 1048576: true; the input reads as it did. -/
def slotsRoomsUptoRow : OpenClaim := { program := "ytlhfhhbafhnbkaa", sum := "41b5b622034cba4b09d261b41408beae1c33782a373edca92b984d903bcf1869", func := "valise/valiselaw12.SlotsRooms", spec := "slotsRooms", unfollowed := true, recurses := true, apart := false, narrowed := true }
def SlotsRoomsUptoSaid : Prop := slotsRoomsUptoRow.holds Try.pinned (OpenSpec.upto slotsRoomsSpec)

/-- 'valiselaw12.SlotsHeaders', WHERE WHAT IT READS IS OF BULK AT MOST 1048576: true; the input reads as it did. -/
def slotsHeadersUptoRow : OpenClaim := { program := "ytlhfhhbafhnbkaa", sum := "41b5b622034cba4b09d261b41408beae1c33782a373edca92b984d903bcf1869", func := "valise/valiselaw12.SlotsHeaders", spec := "slotsHeaders", unfollowed := true, recurses := true, apart := false, narrowed := true }
def SlotsHeadersUptoSaid : Prop := slotsHeadersUptoRow.holds Try.pinned (OpenSpec.upto slotsHeadersSpec)

/-- 'valiselaw12.SlotsNil', WHERE WHAT IT READS IS OF BULK AT MOST 1048576: true; the input reads as it did. -/
def slotsNilUptoRow : OpenClaim := { program := "ytlhfhhbafhnbkaa", sum := "41b5b622034cba4b09d261b41408beae1c33782a373edca92b984d903bcf1869", func := "valise/valiselaw12.SlotsNil", spec := "slotsNil", unfollowed := true, recurses := true, apart := false, narrowed := true }
def SlotsNilUptoSaid : Prop := slotsNilUptoRow.holds Try.pinned (OpenSpec.upto slotsNilSpec)

/-- 'valiselaw12.SlotsTurned', WHERE WHAT IT READS IS OF BULK AT MOST 1048576: true; the input reads as it did. -/
def slotsTurnedUptoRow : OpenClaim := { program := "ytlhfhhbafhnbkaa", sum := "41b5b622034cba4b09d261b41408beae1c33782a373edca92b984d903bcf1869", func := "valise/valiselaw12.SlotsTurned", spec := "slotsTurned", unfollowed := true, recurses := true, apart := false, narrowed := true }
def SlotsTurnedUptoSaid : Prop := slotsTurnedUptoRow.holds Try.pinned (OpenSpec.upto slotsTurnedSpec)

/-- 'valiselaw12.SlotsBack', WHERE WHAT IT READS IS OF BULK AT MOST 1048576: true; the input reads as it did. -/
def slotsBackUptoRow : OpenClaim := { program := "ytlhfhhbafhnbkaa", sum := "41b5b622034cba4b09d261b41408beae1c33782a373edca92b984d903bcf1869", func := "valise/valiselaw12.SlotsBack", spec := "slotsBack", unfollowed := true, recurses := true, apart := false, narrowed := true }
def SlotsBackUptoSaid : Prop := slotsBackUptoRow.holds Try.pinned (OpenSpec.upto slotsBackSpec)

/-- 'valiselaw12.SlotsPower', WHERE WHAT IT READS IS OF BULK AT MOST 1048576: true; the input reads as it did. -/
def slotsPowerUptoRow : OpenClaim := { program := "ytlhfhhbafhnbkaa", sum := "41b5b622034cba4b09d261b41408beae1c33782a373edca92b984d903bcf1869", func := "valise/valiselaw12.SlotsPower", spec := "slotsPower", unfollowed := true, recurses := true, apart := false, narrowed := true }
def SlotsPowerUptoSaid : Prop := slotsPowerUptoRow.holds Try.pinned (OpenSpec.upto slotsPowerSpec)

/-- 'valiselaw12.SlotsPlays', WHERE WHAT IT READS IS OF BULK AT MOST 1048576: true; the input reads as it did. -/
def slotsPlaysUptoRow : OpenClaim := { program := "ytlhfhhbafhnbkaa", sum := "41b5b622034cba4b09d261b41408beae1c33782a373edca92b984d903bcf1869", func := "valise/valiselaw12.SlotsPlays", spec := "slotsPlays", unfollowed := true, recurses := true, apart := false, narrowed := true }
def SlotsPlaysUptoSaid : Prop := slotsPlaysUptoRow.holds Try.pinned (OpenSpec.upto slotsPlaysSpec)

end Rows
end Go.Proofs.Ytlhfhhbafhnbkaa
