/-
  No cell of these rows narrows 'for every input' (looked for: loops, veiled, ifaces, maps, wideKeys, modest, calm, conditions, laid).
  DERIVED. THE GIVEN ROWS OF THIS SEAT. 7 by the template 'for every input the law returns true; each argument reads behind the call as it read before'; 0 by the template 'total and deterministic' (their statements: YtgojdkjneggmjaaTotals.lean).
  GIVEN WITH THE SEED: the statements are not yours to turn. If you find one false, say at which input.
  Laid BY PROGRAM, IN A SANDBOX (cutbox-rows.mjs): the forced cells as the released guide's own fill.sh prints them over the translation 55f5c62fcb5aa386… (all of the seat's roots in one cut). By AI agents, Wed Nov 11 2026. No macro, syntax, notation, axiom, sorry.
-/
import Derived.Test.YtgojdkjneggmjaaChecked
import GoSem.Claim
import GoSem.ClaimJoined
import GoSem.ClaimMapViews
import Derived.JoinedTies
import Derived.KernelRfl
namespace Go.Proofs.Ytgojdkjneggmjaa
/- THE CELL 'sum', in the pinned program and in every row, IS THE sha256 OF THE DUMP (.gsa) THAT YtgojdkjneggmjaaProg.lean LOADS. Nothing in Lean hashes anything: it is a label: what it is worth is what the hold of that sum in a sandbox is worth. -/
noncomputable def Try.pinned : Pinned := { name := "ytgojdkjneggmjaa", sum := "55f5c62fcb5aa38678ef67116a5f69adf12bdc5779c305f227fb08caaa4a1719", checked := Try.checked }
namespace Rows
def none {H : Type} : Left H := { results := [], args := [] }

/-- 'valiselaw14.RecordLays': WHATEVER THE INPUT: true; the input reads as it did. -/
def recordLaysSpec : ChangeSpec := { name := "recordLays", fn := fun _ => fun
  | [d] => { results := [.lit (.bool true)], args := [d] }
  | _ => none }
def recordLaysRow : OpenClaim := { program := "ytgojdkjneggmjaa", sum := "55f5c62fcb5aa38678ef67116a5f69adf12bdc5779c305f227fb08caaa4a1719", func := "valise/valiselaw14.RecordLays", spec := "recordLays", unfollowed := true, recurses := true, apart := false }
def RecordLaysSaid : Prop := recordLaysRow.holds Try.pinned (OpenSpec.ofChange recordLaysSpec)

/-- ITS FALSE NEIGHBOUR: 'it returns false'. Refute it at one input. -/
def recordLaysWrong : ChangeSpec := { name := "recordLays", fn := fun _ => fun
  | [d] => { results := [.lit (.bool false)], args := [d] }
  | _ => none }
def RecordLaysWrongFalsely : Prop := recordLaysRow.holds Try.pinned (OpenSpec.ofChange recordLaysWrong)

/-- 'valiselaw14.RecordEnds': WHATEVER THE INPUT: true; the input reads as it did. -/
def recordEndsSpec : ChangeSpec := { name := "recordEnds", fn := fun _ => fun
  | [d1, d2, d3] => { results := [.lit (.bool true)], args := [d1, d2, d3] }
  | _ => none }
def recordEndsRow : OpenClaim := { program := "ytgojdkjneggmjaa", sum := "55f5c62fcb5aa38678ef67116a5f69adf12bdc5779c305f227fb08caaa4a1719", func := "valise/valiselaw14.RecordEnds", spec := "recordEnds", unfollowed := true, recurses := true, apart := false }
def RecordEndsSaid : Prop := recordEndsRow.holds Try.pinned (OpenSpec.ofChange recordEndsSpec)

/-- ITS FALSE NEIGHBOUR: 'it returns false'. Refute it at one input. -/
def recordEndsWrong : ChangeSpec := { name := "recordEnds", fn := fun _ => fun
  | [d1, d2, d3] => { results := [.lit (.bool false)], args := [d1, d2, d3] }
  | _ => none }
def RecordEndsWrongFalsely : Prop := recordEndsRow.holds Try.pinned (OpenSpec.ofChange recordEndsWrong)

/-- 'valiselaw14.RecordReadEnds': WHATEVER THE INPUT: true; the input reads as it did. -/
def recordReadEndsSpec : ChangeSpec := { name := "recordReadEnds", fn := fun _ => fun
  | [d1, d2] => { results := [.lit (.bool true)], args := [d1, d2] }
  | _ => none }
def recordReadEndsRow : OpenClaim := { program := "ytgojdkjneggmjaa", sum := "55f5c62fcb5aa38678ef67116a5f69adf12bdc5779c305f227fb08caaa4a1719", func := "valise/valiselaw14.RecordReadEnds", spec := "recordReadEnds", unfollowed := true, recurses := true, apart := false }
def RecordReadEndsSaid : Prop := recordReadEndsRow.holds Try.pinned (OpenSpec.ofChange recordReadEndsSpec)

/-- ITS FALSE NEIGHBOUR: 'it returns false'. Refute it at one input. -/
def recordReadEndsWrong : ChangeSpec := { name := "recordReadEnds", fn := fun _ => fun
  | [d1, d2] => { results := [.lit (.bool false)], args := [d1, d2] }
  | _ => none }
def RecordReadEndsWrongFalsely : Prop := recordReadEndsRow.holds Try.pinned (OpenSpec.ofChange recordReadEndsWrong)

/-- 'valiselaw14.RecordEndBack': WHATEVER THE INPUT: true; the input reads as it did. -/
def recordEndBackSpec : ChangeSpec := { name := "recordEndBack", fn := fun _ => fun
  | [d1, d2, d3, d4, d5] => { results := [.lit (.bool true)], args := [d1, d2, d3, d4, d5] }
  | _ => none }
def recordEndBackRow : OpenClaim := { program := "ytgojdkjneggmjaa", sum := "55f5c62fcb5aa38678ef67116a5f69adf12bdc5779c305f227fb08caaa4a1719", func := "valise/valiselaw14.RecordEndBack", spec := "recordEndBack", unfollowed := true, recurses := true, apart := false }
def RecordEndBackSaid : Prop := recordEndBackRow.holds Try.pinned (OpenSpec.ofChange recordEndBackSpec)

/-- ITS FALSE NEIGHBOUR: 'it returns false'. Refute it at one input. -/
def recordEndBackWrong : ChangeSpec := { name := "recordEndBack", fn := fun _ => fun
  | [d1, d2, d3, d4, d5] => { results := [.lit (.bool false)], args := [d1, d2, d3, d4, d5] }
  | _ => none }
def RecordEndBackWrongFalsely : Prop := recordEndBackRow.holds Try.pinned (OpenSpec.ofChange recordEndBackWrong)

/-- 'valiselaw14.RecordReads': WHATEVER THE INPUT: true; the input reads as it did. -/
def recordReadsSpec : ChangeSpec := { name := "recordReads", fn := fun _ => fun
  | [d1, d2] => { results := [.lit (.bool true)], args := [d1, d2] }
  | _ => none }
def recordReadsRow : OpenClaim := { program := "ytgojdkjneggmjaa", sum := "55f5c62fcb5aa38678ef67116a5f69adf12bdc5779c305f227fb08caaa4a1719", func := "valise/valiselaw14.RecordReads", spec := "recordReads", unfollowed := true, recurses := true, apart := false }
def RecordReadsSaid : Prop := recordReadsRow.holds Try.pinned (OpenSpec.ofChange recordReadsSpec)

/-- ITS FALSE NEIGHBOUR: 'it returns false'. Refute it at one input. -/
def recordReadsWrong : ChangeSpec := { name := "recordReads", fn := fun _ => fun
  | [d1, d2] => { results := [.lit (.bool false)], args := [d1, d2] }
  | _ => none }
def RecordReadsWrongFalsely : Prop := recordReadsRow.holds Try.pinned (OpenSpec.ofChange recordReadsWrong)

/-- 'valiselaw14.RecordBack': WHATEVER THE INPUT: true; the input reads as it did. -/
def recordBackSpec : ChangeSpec := { name := "recordBack", fn := fun _ => fun
  | [d1, d2, d3] => { results := [.lit (.bool true)], args := [d1, d2, d3] }
  | _ => none }
def recordBackRow : OpenClaim := { program := "ytgojdkjneggmjaa", sum := "55f5c62fcb5aa38678ef67116a5f69adf12bdc5779c305f227fb08caaa4a1719", func := "valise/valiselaw14.RecordBack", spec := "recordBack", unfollowed := true, recurses := true, apart := false }
def RecordBackSaid : Prop := recordBackRow.holds Try.pinned (OpenSpec.ofChange recordBackSpec)

/-- ITS FALSE NEIGHBOUR: 'it returns false'. Refute it at one input. -/
def recordBackWrong : ChangeSpec := { name := "recordBack", fn := fun _ => fun
  | [d1, d2, d3] => { results := [.lit (.bool false)], args := [d1, d2, d3] }
  | _ => none }
def RecordBackWrongFalsely : Prop := recordBackRow.holds Try.pinned (OpenSpec.ofChange recordBackWrong)

/-- 'valiselaw14.RecordApart': WHATEVER THE INPUT: true; the input reads as it did. -/
def recordApartSpec : ChangeSpec := { name := "recordApart", fn := fun _ => fun
  | [d1, d2] => { results := [.lit (.bool true)], args := [d1, d2] }
  | _ => none }
def recordApartRow : OpenClaim := { program := "ytgojdkjneggmjaa", sum := "55f5c62fcb5aa38678ef67116a5f69adf12bdc5779c305f227fb08caaa4a1719", func := "valise/valiselaw14.RecordApart", spec := "recordApart", unfollowed := true, recurses := true, apart := false }
def RecordApartSaid : Prop := recordApartRow.holds Try.pinned (OpenSpec.ofChange recordApartSpec)

/-- ITS FALSE NEIGHBOUR: 'it returns false'. Refute it at one input. -/
def recordApartWrong : ChangeSpec := { name := "recordApart", fn := fun _ => fun
  | [d1, d2] => { results := [.lit (.bool false)], args := [d1, d2] }
  | _ => none }
def RecordApartWrongFalsely : Prop := recordApartRow.holds Try.pinned (OpenSpec.ofChange recordApartWrong)

/- THE SECOND FORM. 'bulk': how many values and letters a reading holds, each counted each time it is reached (what is shared counts as often as it is met; a slice's spare places count too). A statement '..UptoSaid' is the law's where the arguments, and the package variables that the reading takes, are together of bulk at most 1048576: NARROWER than '..Said'. Prove '..Said' where nothing that the law and all that it calls make is longer than what came in: it says more and counts as full. Else prove '..UptoSaid'. A law counts once. -/
mutual
def uptoBulk {H : Type} : DataW H → Nat
  | .lit (.string bytes) => bytes.length + 1
  | .lit _ => 1
  | .nil => 1
  | .ptr d => uptoBulk d + 1
  | .slice elems spare => uptoBulkAll elems + uptoBulkAll spare + 1
  | .agg parts => uptoBulkAll parts + 1
  | .iface _ d => uptoBulk d + 1
  | .map entries => uptoBulkEntries entries + 1
  | .held _ => 1
def uptoBulkAll {H : Type} : List (DataW H) → Nat
  | [] => 0
  | d :: r => uptoBulk d + uptoBulkAll r
def uptoBulkEntries {H : Type} : List (Lit × DataW H) → Nat
  | [] => 0
  | x :: r => uptoBulkEntry x + uptoBulkEntries r
def uptoBulkEntry {H : Type} : Lit × DataW H → Nat
  | (.string bytes, d) => bytes.length + uptoBulk d + 1
  | (_, d) => uptoBulk d + 1
 end
def uptoSmall : (H : Type) → List (DataW H) → Bool := fun _ ds => decide (uptoBulkAll ds ≤ 1048576)
def OpenSpec.upto (s : _root_.Go.ChangeSpec) : _root_.Go.OpenSpec := { _root_.Go.OpenSpec.ofChange s with cond := some uptoSmall }

/-- 'valiselaw14.RecordLays', WHERE WHAT IT READS IS OF BULK AT MOST 1048576: true; the input reads as it did. -/
def recordLaysUptoRow : OpenClaim := { program := "ytgojdkjneggmjaa", sum := "55f5c62fcb5aa38678ef67116a5f69adf12bdc5779c305f227fb08caaa4a1719", func := "valise/valiselaw14.RecordLays", spec := "recordLays", unfollowed := true, recurses := true, apart := false, narrowed := true }
def RecordLaysUptoSaid : Prop := recordLaysUptoRow.holds Try.pinned (OpenSpec.upto recordLaysSpec)

/-- 'valiselaw14.RecordEnds', WHERE WHAT IT READS IS OF BULK AT MOST 1048576: true; the input reads as it did. -/
def recordEndsUptoRow : OpenClaim := { program := "ytgojdkjneggmjaa", sum := "55f5c62fcb5aa38678ef67116a5f69adf12bdc5779c305f227fb08caaa4a1719", func := "valise/valiselaw14.RecordEnds", spec := "recordEnds", unfollowed := true, recurses := true, apart := false, narrowed := true }
def RecordEndsUptoSaid : Prop := recordEndsUptoRow.holds Try.pinned (OpenSpec.upto recordEndsSpec)

/-- 'valiselaw14.RecordReadEnds', WHERE WHAT IT READS IS OF BULK AT MOST 1048576: true; the input reads as it did. -/
def recordReadEndsUptoRow : OpenClaim := { program := "ytgojdkjneggmjaa", sum := "55f5c62fcb5aa38678ef67116a5f69adf12bdc5779c305f227fb08caaa4a1719", func := "valise/valiselaw14.RecordReadEnds", spec := "recordReadEnds", unfollowed := true, recurses := true, apart := false, narrowed := true }
def RecordReadEndsUptoSaid : Prop := recordReadEndsUptoRow.holds Try.pinned (OpenSpec.upto recordReadEndsSpec)

/-- 'valiselaw14.RecordEndBack', WHERE WHAT IT READS IS OF BULK AT MOST 1048576: true; the input reads as it did. -/
def recordEndBackUptoRow : OpenClaim := { program := "ytgojdkjneggmjaa", sum := "55f5c62fcb5aa38678ef67116a5f69adf12bdc5779c305f227fb08caaa4a1719", func := "valise/valiselaw14.RecordEndBack", spec := "recordEndBack", unfollowed := true, recurses := true, apart := false, narrowed := true }
def RecordEndBackUptoSaid : Prop := recordEndBackUptoRow.holds Try.pinned (OpenSpec.upto recordEndBackSpec)

/-- 'valiselaw14.RecordReads', WHERE WHAT IT READS IS OF BULK AT MOST 1048576: true; the input reads as it did. -/
def recordReadsUptoRow : OpenClaim := { program := "ytgojdkjneggmjaa", sum := "55f5c62fcb5aa38678ef67116a5f69adf12bdc5779c305f227fb08caaa4a1719", func := "valise/valiselaw14.RecordReads", spec := "recordReads", unfollowed := true, recurses := true, apart := false, narrowed := true }
def RecordReadsUptoSaid : Prop := recordReadsUptoRow.holds Try.pinned (OpenSpec.upto recordReadsSpec)

/-- 'valiselaw14.RecordBack', WHERE WHAT IT READS IS OF BULK AT MOST 1048576: true; the input reads as it did. -/
def recordBackUptoRow : OpenClaim := { program := "ytgojdkjneggmjaa", sum := "55f5c62fcb5aa38678ef67116a5f69adf12bdc5779c305f227fb08caaa4a1719", func := "valise/valiselaw14.RecordBack", spec := "recordBack", unfollowed := true, recurses := true, apart := false, narrowed := true }
def RecordBackUptoSaid : Prop := recordBackUptoRow.holds Try.pinned (OpenSpec.upto recordBackSpec)

/-- 'valiselaw14.RecordApart', WHERE WHAT IT READS IS OF BULK AT MOST 1048576: true; the input reads as it did. -/
def recordApartUptoRow : OpenClaim := { program := "ytgojdkjneggmjaa", sum := "55f5c62fcb5aa38678ef67116a5f69adf12bdc5779c305f227fb08caaa4a1719", func := "valise/valiselaw14.RecordApart", spec := "recordApart", unfollowed := true, recurses := true, apart := false, narrowed := true }
def RecordApartUptoSaid : Prop := recordApartUptoRow.holds Try.pinned (OpenSpec.upto recordApartSpec)

end Rows
end Go.Proofs.Ytgojdkjneggmjaa
