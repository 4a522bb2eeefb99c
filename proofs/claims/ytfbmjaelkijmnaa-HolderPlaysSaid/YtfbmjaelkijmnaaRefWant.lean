/-
  The document's Want.
-/
import Derived.Test.YtfbmjaelkijmnaaRefWantA
import Derived.Test.YtfbmjaelkijmnaaRefWantB
import Derived.Test.YtfbmjaelkijmnaaRefWantC
import Derived.Test.YtfbmjaelkijmnaaRefWantD
import Derived.Test.YtfbmjaelkijmnaaRefWantE
import Derived.Test.YtfbmjaelkijmnaaRefWantF
import Derived.Test.YtfbmjaelkijmnaaRefWantG
namespace Go.Proofs.Ytfbmjaelkijmnaa
open Go.RowKit
theorem rwant_any (C : Nat) (s : St) (z : Int) (now : Int) (w : World) (h : Doc C s z w) (ok : s.Ok) (k : Tie s z) :
    Calls Try.prog 25 #[.pointer (some ⟨C, 0, none⟩), .int .i64 now] w fun e w' => e = .returned (.tuple #[(s.want now).2.1.val, .bool (s.want now).2.2]) ∧ DocAt C (s.want now).1 w w' := by
  cases hr : s.refused
  · cases hw : s.waits
    · cases hh : s.holds (s.time now)
      · exact rwant_c C s z now w h ok k hr hw hh
      · by_cases hm : max 1 (s.hold / 3) ≤ s.time now - s.since
        · exact rwant_d C s z now w h ok k hr hw hh hm
        · exact rwant_e C s z now w h ok k hr hw hh hm
    · cases he : decide (s.time now - s.asked < s.retry)
      · cases hh : s.holds (s.time now)
        · exact rwant_f C s z now w h ok k hr hw he hh
        · exact rwant_g C s z now w h ok k hr hw he hh
      · exact rwant_b C s z now w h ok k hr hw he
  · exact rwant_a C s z now w h ok k hr
end Go.Proofs.Ytfbmjaelkijmnaa
