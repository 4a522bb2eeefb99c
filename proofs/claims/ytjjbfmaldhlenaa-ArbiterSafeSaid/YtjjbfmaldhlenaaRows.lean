/-
  No cell of these rows narrows 'for every input' (looked for: loops, veiled, ifaces, maps, wideKeys, modest, calm, conditions, laid).
  DERIVED. THE GIVEN ROWS OF THIS SEAT. 4 by the template 'for every input the law returns true; each argument reads behind the call as it read before'; 0 by the template 'total and deterministic' (their statements: YtjjbfmaldhlenaaTotals.lean).
  GIVEN WITH THE SEED: the statements are not yours to turn. If you find one false, say at which input.
  Laid BY PROGRAM, IN A SANDBOX (cutbox-rows.mjs): the forced cells as the released guide's own fill.sh prints them over the translation 7fa0a5ade501dc17… (all of the seat's roots in one cut). By AI agents, Wed Nov 11 2026. No macro, syntax, notation, axiom, sorry.
-/
import Derived.Test.YtjjbfmaldhlenaaChecked
import GoSem.Claim
import GoSem.ClaimJoined
import GoSem.ClaimMapViews
import Derived.JoinedTies
import Derived.KernelRfl
namespace Go.Proofs.Ytjjbfmaldhlenaa
/- THE CELL 'sum', in the pinned program and in every row, IS THE sha256 OF THE DUMP (.gsa) THAT YtjjbfmaldhlenaaProg.lean LOADS. Nothing in Lean hashes anything: it is a label: what it is worth is what the hold of that sum in a sandbox is worth. -/
noncomputable def Try.pinned : Pinned := { name := "ytjjbfmaldhlenaa", sum := "7fa0a5ade501dc171d588c39130f7549befe48d3f831697bd335abeb9854d54b", checked := Try.checked }
namespace Rows
def none {H : Type} : Left H := { results := [], args := [] }

/-- 'coveylaw24.ArbiterSafe': WHATEVER THE INPUT: true; the input reads as it did. -/
def arbiterSafeSpec : ChangeSpec := { name := "arbiterSafe", fn := fun _ => fun
  | [d1, d2, d3] => { results := [.lit (.bool true)], args := [d1, d2, d3] }
  | _ => none }
def arbiterSafeRow : OpenClaim := { program := "ytjjbfmaldhlenaa", sum := "7fa0a5ade501dc171d588c39130f7549befe48d3f831697bd335abeb9854d54b", func := "covey/coveylaw24.ArbiterSafe", spec := "arbiterSafe", unfollowed := true, recurses := true, apart := false }
def ArbiterSafeSaid : Prop := arbiterSafeRow.holds Try.pinned (OpenSpec.ofChange arbiterSafeSpec)

/-- ITS FALSE NEIGHBOUR: 'it returns false'. Refute it at one input. -/
def arbiterSafeWrong : ChangeSpec := { name := "arbiterSafe", fn := fun _ => fun
  | [d1, d2, d3] => { results := [.lit (.bool false)], args := [d1, d2, d3] }
  | _ => none }
def ArbiterSafeWrongFalsely : Prop := arbiterSafeRow.holds Try.pinned (OpenSpec.ofChange arbiterSafeWrong)

/-- 'coveylaw24.ArbiterOne': WHATEVER THE INPUT: true; the input reads as it did. -/
def arbiterOneSpec : ChangeSpec := { name := "arbiterOne", fn := fun _ => fun
  | [d1, d2] => { results := [.lit (.bool true)], args := [d1, d2] }
  | _ => none }
def arbiterOneRow : OpenClaim := { program := "ytjjbfmaldhlenaa", sum := "7fa0a5ade501dc171d588c39130f7549befe48d3f831697bd335abeb9854d54b", func := "covey/coveylaw24.ArbiterOne", spec := "arbiterOne", unfollowed := true, recurses := true, apart := false }
def ArbiterOneSaid : Prop := arbiterOneRow.holds Try.pinned (OpenSpec.ofChange arbiterOneSpec)

/-- ITS FALSE NEIGHBOUR: 'it returns false'. Refute it at one input. -/
def arbiterOneWrong : ChangeSpec := { name := "arbiterOne", fn := fun _ => fun
  | [d1, d2] => { results := [.lit (.bool false)], args := [d1, d2] }
  | _ => none }
def ArbiterOneWrongFalsely : Prop := arbiterOneRow.holds Try.pinned (OpenSpec.ofChange arbiterOneWrong)

/-- 'coveylaw24.ArbiterPlays': WHATEVER THE INPUT: true; the input reads as it did. -/
def arbiterPlaysSpec : ChangeSpec := { name := "arbiterPlays", fn := fun _ => fun
  | [d1, d2] => { results := [.lit (.bool true)], args := [d1, d2] }
  | _ => none }
def arbiterPlaysRow : OpenClaim := { program := "ytjjbfmaldhlenaa", sum := "7fa0a5ade501dc171d588c39130f7549befe48d3f831697bd335abeb9854d54b", func := "covey/coveylaw24.ArbiterPlays", spec := "arbiterPlays", unfollowed := true, recurses := true, apart := false }
def ArbiterPlaysSaid : Prop := arbiterPlaysRow.holds Try.pinned (OpenSpec.ofChange arbiterPlaysSpec)

/-- ITS FALSE NEIGHBOUR: 'it returns false'. Refute it at one input. -/
def arbiterPlaysWrong : ChangeSpec := { name := "arbiterPlays", fn := fun _ => fun
  | [d1, d2] => { results := [.lit (.bool false)], args := [d1, d2] }
  | _ => none }
def ArbiterPlaysWrongFalsely : Prop := arbiterPlaysRow.holds Try.pinned (OpenSpec.ofChange arbiterPlaysWrong)

/-- 'coveylaw24.ArbiterNames': WHATEVER THE INPUT: true; the input reads as it did. -/
def arbiterNamesSpec : ChangeSpec := { name := "arbiterNames", fn := fun _ => fun
  | [] => { results := [.lit (.bool true)], args := [] }
  | _ => none }
def arbiterNamesRow : OpenClaim := { program := "ytjjbfmaldhlenaa", sum := "7fa0a5ade501dc171d588c39130f7549befe48d3f831697bd335abeb9854d54b", func := "covey/coveylaw24.ArbiterNames", spec := "arbiterNames", unfollowed := true, recurses := true, apart := false }
def ArbiterNamesSaid : Prop := arbiterNamesRow.holds Try.pinned (OpenSpec.ofChange arbiterNamesSpec)

/-- ITS FALSE NEIGHBOUR: 'it returns false'. Refute it at one input. -/
def arbiterNamesWrong : ChangeSpec := { name := "arbiterNames", fn := fun _ => fun
  | [] => { results := [.lit (.bool false)], args := [] }
  | _ => none }
def ArbiterNamesWrongFalsely : Prop := arbiterNamesRow.holds Try.pinned (OpenSpec.ofChange arbiterNamesWrong)

/- THE SECOND FORM. 'bulk': how many values and letters a reading holds, each counted each time it is reached (what is shared counts as often as it is met; a slice's spare places count too). A statement '..UptoSaid' is the law's where the arguments, and the package variables that the reading takes, are together of bulk at most 1048576: NARROWER than '..Said'. Prove '..Said' where nothing that the law and all that it calls make is longer than what came in: it says more and counts as full. Else prove '..UptoSaid'. A law counts once. -/
mutual
def uptoBulk {H : Type} : DataW H → Nat
  | .lit (.string bytes) => bytes.length + 1
  | .lit _ => 1
  | .nil => 1
  | .ptr d => uptoBulk d + 1
  | .slice elems spare => uptoBulkAll elems + uptoBulkAll spare + 1
  | .agg parts => uptoBulkAll parts + 1
  | .iface _ d => uptoBulk d + 1
  | .map entries => uptoBulkEntries entries + 1
  | .held _ => 1
def uptoBulkAll {H : Type} : List (DataW H) → Nat
  | [] => 0
  | d :: r => uptoBulk d + uptoBulkAll r
def uptoBulkEntries {H : Type} : List (Lit × DataW H) → Nat
  | [] => 0
  | x :: r => uptoBulkEntry x + uptoBulkEntries r
def uptoBulkEntry {H : Type} : Lit × DataW H → Nat
  | (.string bytes, d) => bytes.length + uptoBulk d + 1
  | (_, d) => uptoBulk d + 1
 end
def uptoSmall : (H : Type) → List (DataW H) → Bool := fun _ ds => decide (uptoBulkAll ds ≤ 1048576)
def OpenSpec.upto (s : _root_.Go.ChangeSpec) : _root_.Go.OpenSpec := { _root_.Go.OpenSpec.ofChange s with cond := some uptoSmall }

/-- 'coveylaw24.ArbiterSafe', WHERE WHAT IT READS IS OF BULK AT MOST 1048576: true; the input reads as it did. -/
def arbiterSafeUptoRow : OpenClaim := { program := "ytjjbfmaldhlenaa", sum := "7fa0a5ade501dc171d588c39130f7549befe48d3f831697bd335abeb9854d54b", func := "covey/coveylaw24.ArbiterSafe", spec := "arbiterSafe", unfollowed := true, recurses := true, apart := false, narrowed := true }
def ArbiterSafeUptoSaid : Prop := arbiterSafeUptoRow.holds Try.pinned (OpenSpec.upto arbiterSafeSpec)

/-- 'coveylaw24.ArbiterOne', WHERE WHAT IT READS IS OF BULK AT MOST 1048576: true; the input reads as it did. -/
def arbiterOneUptoRow : OpenClaim := { program := "ytjjbfmaldhlenaa", sum := "7fa0a5ade501dc171d588c39130f7549befe48d3f831697bd335abeb9854d54b", func := "covey/coveylaw24.ArbiterOne", spec := "arbiterOne", unfollowed := true, recurses := true, apart := false, narrowed := true }
def ArbiterOneUptoSaid : Prop := arbiterOneUptoRow.holds Try.pinned (OpenSpec.upto arbiterOneSpec)

/-- 'coveylaw24.ArbiterPlays', WHERE WHAT IT READS IS OF BULK AT MOST 1048576: true; the input reads as it did. -/
def arbiterPlaysUptoRow : OpenClaim := { program := "ytjjbfmaldhlenaa", sum := "7fa0a5ade501dc171d588c39130f7549befe48d3f831697bd335abeb9854d54b", func := "covey/coveylaw24.ArbiterPlays", spec := "arbiterPlays", unfollowed := true, recurses := true, apart := false, narrowed := true }
def ArbiterPlaysUptoSaid : Prop := arbiterPlaysUptoRow.holds Try.pinned (OpenSpec.upto arbiterPlaysSpec)

/-- 'coveylaw24.ArbiterNames', WHERE WHAT IT READS IS OF BULK AT MOST 1048576: true; the input reads as it did. -/
def arbiterNamesUptoRow : OpenClaim := { program := "ytjjbfmaldhlenaa", sum := "7fa0a5ade501dc171d588c39130f7549befe48d3f831697bd335abeb9854d54b", func := "covey/coveylaw24.ArbiterNames", spec := "arbiterNames", unfollowed := true, recurses := true, apart := false, narrowed := true }
def ArbiterNamesUptoSaid : Prop := arbiterNamesUptoRow.holds Try.pinned (OpenSpec.upto arbiterNamesSpec)

end Rows
end Go.Proofs.Ytjjbfmaldhlenaa
