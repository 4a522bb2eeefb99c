/-
  No cell of these rows narrows 'for every input' (looked for: loops, veiled, ifaces, maps, wideKeys, modest, calm, conditions, laid).
  DERIVED. THE GIVEN ROWS OF THIS SEAT. 5 by the template 'for every input the law returns true; each argument reads behind the call as it read before'; 0 by the template 'total and deterministic' (their statements: YtialfpmfiapepaaTotals.lean).
  GIVEN WITH THE SEED: the statements are not yours to turn. If you find one false, say at which input.
  Laid BY PROGRAM, IN A SANDBOX (cutbox-rows.mjs): the forced cells as the released guide's own fill.sh prints them over the translation e2b0d944bcabbf77… (all of the seat's roots in one cut). By AI agents, Wed Nov 11 2026. No macro, syntax, notation, axiom, sorry.
-/
import Derived.Test.YtialfpmfiapepaaChecked
import GoSem.Claim
import GoSem.ClaimJoined
import GoSem.ClaimMapViews
import Derived.JoinedTies
import Derived.KernelRfl
namespace Go.Proofs.Ytialfpmfiapepaa
/- THE CELL 'sum', in the pinned program and in every row, IS THE sha256 OF THE DUMP (.gsa) THAT YtialfpmfiapepaaProg.lean LOADS. Nothing in Lean hashes anything: it is a label: what it is worth is what the hold of that sum in a sandbox is worth. -/
noncomputable def Try.pinned : Pinned := { name := "ytialfpmfiapepaa", sum := "e2b0d944bcabbf770db8ded8b8413208c6fe0be604aae653cf47231728b0331c", checked := Try.checked }
namespace Rows
def none {H : Type} : Left H := { results := [], args := [] }

/-- 'coveylaw29.NetSent': WHATEVER THE INPUT: true; the input reads as it did. -/
def netSentSpec : ChangeSpec := { name := "netSent", fn := fun _ => fun
  | [d1, d2] => { results := [.lit (.bool true)], args := [d1, d2] }
  | _ => none }
def netSentRow : OpenClaim := { program := "ytialfpmfiapepaa", sum := "e2b0d944bcabbf770db8ded8b8413208c6fe0be604aae653cf47231728b0331c", func := "covey/coveylaw29.NetSent", spec := "netSent", unfollowed := true, recurses := true, plainKeys := false, apart := false }
def NetSentSaid : Prop := netSentRow.holds Try.pinned (OpenSpec.ofChange netSentSpec)

/-- ITS FALSE NEIGHBOUR: 'it returns false'. Refute it at one input. -/
def netSentWrong : ChangeSpec := { name := "netSent", fn := fun _ => fun
  | [d1, d2] => { results := [.lit (.bool false)], args := [d1, d2] }
  | _ => none }
def NetSentWrongFalsely : Prop := netSentRow.holds Try.pinned (OpenSpec.ofChange netSentWrong)

/-- 'coveylaw29.NetRow': WHATEVER THE INPUT: true; the input reads as it did. -/
def netRowSpec : ChangeSpec := { name := "netRow", fn := fun _ => fun
  | [d1, d2] => { results := [.lit (.bool true)], args := [d1, d2] }
  | _ => none }
def netRowRow : OpenClaim := { program := "ytialfpmfiapepaa", sum := "e2b0d944bcabbf770db8ded8b8413208c6fe0be604aae653cf47231728b0331c", func := "covey/coveylaw29.NetRow", spec := "netRow", unfollowed := true, recurses := true, plainKeys := false, apart := false }
def NetRowSaid : Prop := netRowRow.holds Try.pinned (OpenSpec.ofChange netRowSpec)

/-- ITS FALSE NEIGHBOUR: 'it returns false'. Refute it at one input. -/
def netRowWrong : ChangeSpec := { name := "netRow", fn := fun _ => fun
  | [d1, d2] => { results := [.lit (.bool false)], args := [d1, d2] }
  | _ => none }
def NetRowWrongFalsely : Prop := netRowRow.holds Try.pinned (OpenSpec.ofChange netRowWrong)

/-- 'coveylaw29.NetNames': WHATEVER THE INPUT: true; the input reads as it did. -/
def netNamesSpec : ChangeSpec := { name := "netNames", fn := fun _ => fun
  | [] => { results := [.lit (.bool true)], args := [] }
  | _ => none }
def netNamesRow : OpenClaim := { program := "ytialfpmfiapepaa", sum := "e2b0d944bcabbf770db8ded8b8413208c6fe0be604aae653cf47231728b0331c", func := "covey/coveylaw29.NetNames", spec := "netNames", unfollowed := true, recurses := true, plainKeys := false, apart := false }
def NetNamesSaid : Prop := netNamesRow.holds Try.pinned (OpenSpec.ofChange netNamesSpec)

/-- ITS FALSE NEIGHBOUR: 'it returns false'. Refute it at one input. -/
def netNamesWrong : ChangeSpec := { name := "netNames", fn := fun _ => fun
  | [] => { results := [.lit (.bool false)], args := [] }
  | _ => none }
def NetNamesWrongFalsely : Prop := netNamesRow.holds Try.pinned (OpenSpec.ofChange netNamesWrong)

/-- 'coveylaw29.NetPlays': WHATEVER THE INPUT: true; the input reads as it did. -/
def netPlaysSpec : ChangeSpec := { name := "netPlays", fn := fun _ => fun
  | [d1, d2] => { results := [.lit (.bool true)], args := [d1, d2] }
  | _ => none }
def netPlaysRow : OpenClaim := { program := "ytialfpmfiapepaa", sum := "e2b0d944bcabbf770db8ded8b8413208c6fe0be604aae653cf47231728b0331c", func := "covey/coveylaw29.NetPlays", spec := "netPlays", unfollowed := true, recurses := true, plainKeys := false, apart := false }
def NetPlaysSaid : Prop := netPlaysRow.holds Try.pinned (OpenSpec.ofChange netPlaysSpec)

/-- ITS FALSE NEIGHBOUR: 'it returns false'. Refute it at one input. -/
def netPlaysWrong : ChangeSpec := { name := "netPlays", fn := fun _ => fun
  | [d1, d2] => { results := [.lit (.bool false)], args := [d1, d2] }
  | _ => none }
def NetPlaysWrongFalsely : Prop := netPlaysRow.holds Try.pinned (OpenSpec.ofChange netPlaysWrong)

/-- 'coveylaw29.NetOne': WHATEVER THE INPUT: true; the input reads as it did. -/
def netOneSpec : ChangeSpec := { name := "netOne", fn := fun _ => fun
  | [d1, d2, d3] => { results := [.lit (.bool true)], args := [d1, d2, d3] }
  | _ => none }
def netOneRow : OpenClaim := { program := "ytialfpmfiapepaa", sum := "e2b0d944bcabbf770db8ded8b8413208c6fe0be604aae653cf47231728b0331c", func := "covey/coveylaw29.NetOne", spec := "netOne", unfollowed := true, recurses := true, plainKeys := false, apart := false }
def NetOneSaid : Prop := netOneRow.holds Try.pinned (OpenSpec.ofChange netOneSpec)

/-- ITS FALSE NEIGHBOUR: 'it returns false'. Refute it at one input. -/
def netOneWrong : ChangeSpec := { name := "netOne", fn := fun _ => fun
  | [d1, d2, d3] => { results := [.lit (.bool false)], args := [d1, d2, d3] }
  | _ => none }
def NetOneWrongFalsely : Prop := netOneRow.holds Try.pinned (OpenSpec.ofChange netOneWrong)

/- THE SECOND FORM. 'bulk': how many values and letters a reading holds, each counted each time it is reached (what is shared counts as often as it is met; a slice's spare places count too). A statement '..UptoSaid' is the law's where the arguments, and the package variables that the reading takes, are together of bulk at most 1048576: NARROWER than '..Said'. Prove '..Said' where nothing that the law and all that it calls make is longer than what came in: it says more and counts as full. Else prove '..UptoSaid'. A law counts once. -/
mutual
def uptoBulk {H : Type} : DataW H → Nat
  | .lit (.string bytes) => bytes.length + 1
  | .lit _ => 1
  | .nil => 1
  | .ptr d => uptoBulk d + 1
  | .slice elems spare => uptoBulkAll elems + uptoBulkAll spare + 1
  | .agg parts => uptoBulkAll parts + 1
  | .iface _ d => uptoBulk d + 1
  | .map entries => uptoBulkEntries entries + 1
  | .held _ => 1
def uptoBulkAll {H : Type} : List (DataW H) → Nat
  | [] => 0
  | d :: r => uptoBulk d + uptoBulkAll r
def uptoBulkEntries {H : Type} : List (Lit × DataW H) → Nat
  | [] => 0
  | x :: r => uptoBulkEntry x + uptoBulkEntries r
def uptoBulkEntry {H : Type} : Lit × DataW H → Nat
  | (.string bytes, d) => bytes.length + uptoBulk d + 1
  | (_, d) => uptoBulk d + 1
 end
def uptoSmall : (H : Type) → List (DataW H) → Bool := fun _ ds => decide (uptoBulkAll ds ≤ 1048576)
def OpenSpec.upto (s : _root_.Go.ChangeSpec) : _root_.Go.OpenSpec := { _root_.Go.OpenSpec.ofChange s with cond := some uptoSmall }

/-- 'coveylaw29.NetSent', WHERE WHAT IT READS IS OF BULK AT MOST 1048576: true; the input reads as it did. -/
def netSentUptoRow : OpenClaim := { program := "ytialfpmfiapepaa", sum := "e2b0d944bcabbf770db8ded8b8413208c6fe0be604aae653cf47231728b0331c", func := "covey/coveylaw29.NetSent", spec := "netSent", unfollowed := true, recurses := true, plainKeys := false, apart := false, narrowed := true }
def NetSentUptoSaid : Prop := netSentUptoRow.holds Try.pinned (OpenSpec.upto netSentSpec)

/-- 'coveylaw29.NetRow', WHERE WHAT IT READS IS OF BULK AT MOST 1048576: true; the input reads as it did. -/
def netRowUptoRow : OpenClaim := { program := "ytialfpmfiapepaa", sum := "e2b0d944bcabbf770db8ded8b8413208c6fe0be604aae653cf47231728b0331c", func := "covey/coveylaw29.NetRow", spec := "netRow", unfollowed := true, recurses := true, plainKeys := false, apart := false, narrowed := true }
def NetRowUptoSaid : Prop := netRowUptoRow.holds Try.pinned (OpenSpec.upto netRowSpec)

/-- 'coveylaw29.NetNames', WHERE WHAT IT READS IS OF BULK AT MOST 1048576: true; the input reads as it did. -/
def netNamesUptoRow : OpenClaim := { program := "ytialfpmfiapepaa", sum := "e2b0d944bcabbf770db8ded8b8413208c6fe0be604aae653cf47231728b0331c", func := "covey/coveylaw29.NetNames", spec := "netNames", unfollowed := true, recurses := true, plainKeys := false, apart := false, narrowed := true }
def NetNamesUptoSaid : Prop := netNamesUptoRow.holds Try.pinned (OpenSpec.upto netNamesSpec)

/-- 'coveylaw29.NetPlays', WHERE WHAT IT READS IS OF BULK AT MOST 1048576: true; the input reads as it did. -/
def netPlaysUptoRow : OpenClaim := { program := "ytialfpmfiapepaa", sum := "e2b0d944bcabbf770db8ded8b8413208c6fe0be604aae653cf47231728b0331c", func := "covey/coveylaw29.NetPlays", spec := "netPlays", unfollowed := true, recurses := true, plainKeys := false, apart := false, narrowed := true }
def NetPlaysUptoSaid : Prop := netPlaysUptoRow.holds Try.pinned (OpenSpec.upto netPlaysSpec)

/-- 'coveylaw29.NetOne', WHERE WHAT IT READS IS OF BULK AT MOST 1048576: true; the input reads as it did. -/
def netOneUptoRow : OpenClaim := { program := "ytialfpmfiapepaa", sum := "e2b0d944bcabbf770db8ded8b8413208c6fe0be604aae653cf47231728b0331c", func := "covey/coveylaw29.NetOne", spec := "netOne", unfollowed := true, recurses := true, plainKeys := false, apart := false, narrowed := true }
def NetOneUptoSaid : Prop := netOneUptoRow.holds Try.pinned (OpenSpec.upto netOneSpec)

end Rows
end Go.Proofs.Ytialfpmfiapepaa
