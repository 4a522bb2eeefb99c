/-
  The document's Take.
-/
import Derived.Test.YtjjbfmaldhlenaaRefTakeB
import Derived.Test.YtjjbfmaldhlenaaRefTakeC
import Derived.Test.YtjjbfmaldhlenaaRefTakeD
namespace Go.Proofs.Ytjjbfmaldhlenaa
open Go.RowKit
set_option linter.unusedVariables false
set_option linter.unusedSimpArgs false
attribute [local go_sem ↓] Go.wp_at_zero Go.wp_at_succ
theorem rtake_any (B : Nat) (s : St) (f : Fr) (w : World) (h : Rf B s w) (ok : s.Ok)  :
    Calls Try.prog 22 #[.pointer (some ⟨B, 0, none⟩), f.val] w fun e w' => e = .returned (s.take f).val ∧ Rf B (s.take f).st w' ∧ Keep B w w' := by
  cases hm : mayB f.fa f.fi
  · exact rtake_no B s f w h ok hm
  · by_cases h9 : f.kind = 9
    · exact rtake_9 B s f w h ok hm h9
    · by_cases h10 : f.kind = 10
      · exact rtake_10 B s f w h ok hm h10
      · by_cases h11 : f.kind = 11
        · exact rtake_11 B s f w h ok hm h11
        · exact rtake_else B s f w h ok hm h9 h10 h11
end Go.Proofs.Ytjjbfmaldhlenaa
