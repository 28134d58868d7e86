/-
  A STEP of both disks, of any kind.
-/
import Derived.Test.YtmkbahhnjobglaaSecStep0
import Derived.Test.YtmkbahhnjobglaaSecStep1
import Derived.Test.YtmkbahhnjobglaaSecStep2
import Derived.Test.YtmkbahhnjobglaaSecStep3
import Derived.Test.YtmkbahhnjobglaaSecStep4
import Derived.Test.YtmkbahhnjobglaaSecStep5
namespace Go.Proofs.Ytmkbahhnjobglaa
open Go.RowKit
set_option linter.unusedSimpArgs false
set_option linter.unusedVariables false
theorem step_any {B : Nat} {W : World} {g : Nat} {F : Nat → Prop} {s p : Value} {K : Dk} {n m : Nat} (hB : B ≤ W.heap.size) (hJ : BK B W g F s p K n m) (hm : m ≤ 100) (x : ActV) (hx : ActOk W B x) (hkn : x.kn ≤ 17592186043904) :
    Calls Try.prog 24 #[.pointer (some ⟨g, 0, none⟩), rkV s p K, actV x] W (StepPost B W F n m) := by
  by_cases h1 : x.kind = 1
  · exact step_write hB hJ hm x h1
  by_cases h2 : x.kind = 2
  · exact step_sync hB hJ hm x h2
  by_cases h3 : x.kind = 3
  · exact step_fuse hB hJ hm x h3 hx.hi.2
  by_cases h4 : x.kind = 4
  · exact step_crash hB hJ hm x h4 hx hkn
  by_cases h5 : x.kind = 5
  · exact step_copy hB hJ hm x h5
  exact step_read hB hJ hm x ⟨h1, h2, h3, h4, h5⟩
end Go.Proofs.Ytmkbahhnjobglaa
