/-
  No cell of these rows narrows 'for every input' (looked for: loops, veiled, ifaces, maps, wideKeys, modest, calm, conditions, laid).
  DERIVED. THE GIVEN ROWS OF THIS SEAT. 7 by the template 'for every input the law returns true; each argument reads behind the call as it read before'; 0 by the template 'total and deterministic' (their statements: YtfbmjaelkijmnaaTotals.lean).
  GIVEN WITH THE SEED: the statements are not yours to turn. If you find one false, say at which input.
  Laid BY PROGRAM, IN A SANDBOX (cutbox-rows.mjs): the forced cells as the released guide's own fill.sh prints them over the translation 994e39b45021f36c… (all of the seat's roots in one cut). By AI agents, Wed Nov 11 2026. No macro, syntax, notation, axiom, sorry.
-/
import Derived.Test.YtfbmjaelkijmnaaChecked
import GoSem.Claim
import GoSem.ClaimJoined
import GoSem.ClaimMapViews
import Derived.JoinedTies
import Derived.KernelRfl
namespace Go.Proofs.Ytfbmjaelkijmnaa
/- THE CELL 'sum', in the pinned program and in every row, IS THE sha256 OF THE DUMP (.gsa) THAT YtfbmjaelkijmnaaProg.lean LOADS. Nothing in Lean hashes anything: it is a label: what it is worth is what the hold of that sum in a sandbox is worth. -/
noncomputable def Try.pinned : Pinned := { name := "ytfbmjaelkijmnaa", sum := "994e39b45021f36c0cfb06d5238f33d2767629d53da282a67fbaa880e2919337", checked := Try.checked }
namespace Rows
def none {H : Type} : Left H := { results := [], args := [] }

/-- 'coveylaw25.HolderKeeps': WHATEVER THE INPUT: true; the input reads as it did. -/
def holderKeepsSpec : ChangeSpec := { name := "holderKeeps", fn := fun _ => fun
  | [d1, d2, d3, d4, d5] => { results := [.lit (.bool true)], args := [d1, d2, d3, d4, d5] }
  | _ => none }
def holderKeepsRow : OpenClaim := { program := "ytfbmjaelkijmnaa", sum := "994e39b45021f36c0cfb06d5238f33d2767629d53da282a67fbaa880e2919337", func := "covey/coveylaw25.HolderKeeps", spec := "holderKeeps", unfollowed := true, recurses := true, apart := false }
def HolderKeepsSaid : Prop := holderKeepsRow.holds Try.pinned (OpenSpec.ofChange holderKeepsSpec)

/-- ITS FALSE NEIGHBOUR: 'it returns false'. Refute it at one input. -/
def holderKeepsWrong : ChangeSpec := { name := "holderKeeps", fn := fun _ => fun
  | [d1, d2, d3, d4, d5] => { results := [.lit (.bool false)], args := [d1, d2, d3, d4, d5] }
  | _ => none }
def HolderKeepsWrongFalsely : Prop := holderKeepsRow.holds Try.pinned (OpenSpec.ofChange holderKeepsWrong)

/-- 'coveylaw25.HolderRefused': WHATEVER THE INPUT: true; the input reads as it did. -/
def holderRefusedSpec : ChangeSpec := { name := "holderRefused", fn := fun _ => fun
  | [d1, d2, d3, d4, d5] => { results := [.lit (.bool true)], args := [d1, d2, d3, d4, d5] }
  | _ => none }
def holderRefusedRow : OpenClaim := { program := "ytfbmjaelkijmnaa", sum := "994e39b45021f36c0cfb06d5238f33d2767629d53da282a67fbaa880e2919337", func := "covey/coveylaw25.HolderRefused", spec := "holderRefused", unfollowed := true, recurses := true, apart := false }
def HolderRefusedSaid : Prop := holderRefusedRow.holds Try.pinned (OpenSpec.ofChange holderRefusedSpec)

/-- ITS FALSE NEIGHBOUR: 'it returns false'. Refute it at one input. -/
def holderRefusedWrong : ChangeSpec := { name := "holderRefused", fn := fun _ => fun
  | [d1, d2, d3, d4, d5] => { results := [.lit (.bool false)], args := [d1, d2, d3, d4, d5] }
  | _ => none }
def HolderRefusedWrongFalsely : Prop := holderRefusedRow.holds Try.pinned (OpenSpec.ofChange holderRefusedWrong)

/-- 'coveylaw25.HolderAsked': WHATEVER THE INPUT: true; the input reads as it did. -/
def holderAskedSpec : ChangeSpec := { name := "holderAsked", fn := fun _ => fun
  | [d1, d2, d3, d4, d5] => { results := [.lit (.bool true)], args := [d1, d2, d3, d4, d5] }
  | _ => none }
def holderAskedRow : OpenClaim := { program := "ytfbmjaelkijmnaa", sum := "994e39b45021f36c0cfb06d5238f33d2767629d53da282a67fbaa880e2919337", func := "covey/coveylaw25.HolderAsked", spec := "holderAsked", unfollowed := true, recurses := true, apart := false }
def HolderAskedSaid : Prop := holderAskedRow.holds Try.pinned (OpenSpec.ofChange holderAskedSpec)

/-- ITS FALSE NEIGHBOUR: 'it returns false'. Refute it at one input. -/
def holderAskedWrong : ChangeSpec := { name := "holderAsked", fn := fun _ => fun
  | [d1, d2, d3, d4, d5] => { results := [.lit (.bool false)], args := [d1, d2, d3, d4, d5] }
  | _ => none }
def HolderAskedWrongFalsely : Prop := holderAskedRow.holds Try.pinned (OpenSpec.ofChange holderAskedWrong)

/-- 'coveylaw25.HolderOnce': WHATEVER THE INPUT: true; the input reads as it did. -/
def holderOnceSpec : ChangeSpec := { name := "holderOnce", fn := fun _ => fun
  | [d1, d2, d3, d4] => { results := [.lit (.bool true)], args := [d1, d2, d3, d4] }
  | _ => none }
def holderOnceRow : OpenClaim := { program := "ytfbmjaelkijmnaa", sum := "994e39b45021f36c0cfb06d5238f33d2767629d53da282a67fbaa880e2919337", func := "covey/coveylaw25.HolderOnce", spec := "holderOnce", unfollowed := true, recurses := true, apart := false }
def HolderOnceSaid : Prop := holderOnceRow.holds Try.pinned (OpenSpec.ofChange holderOnceSpec)

/-- ITS FALSE NEIGHBOUR: 'it returns false'. Refute it at one input. -/
def holderOnceWrong : ChangeSpec := { name := "holderOnce", fn := fun _ => fun
  | [d1, d2, d3, d4] => { results := [.lit (.bool false)], args := [d1, d2, d3, d4] }
  | _ => none }
def HolderOnceWrongFalsely : Prop := holderOnceRow.holds Try.pinned (OpenSpec.ofChange holderOnceWrong)

/-- 'coveylaw25.HolderDrop': WHATEVER THE INPUT: true; the input reads as it did. -/
def holderDropSpec : ChangeSpec := { name := "holderDrop", fn := fun _ => fun
  | [d1, d2, d3, d4, d5, d6] => { results := [.lit (.bool true)], args := [d1, d2, d3, d4, d5, d6] }
  | _ => none }
def holderDropRow : OpenClaim := { program := "ytfbmjaelkijmnaa", sum := "994e39b45021f36c0cfb06d5238f33d2767629d53da282a67fbaa880e2919337", func := "covey/coveylaw25.HolderDrop", spec := "holderDrop", unfollowed := true, recurses := true, apart := false }
def HolderDropSaid : Prop := holderDropRow.holds Try.pinned (OpenSpec.ofChange holderDropSpec)

/-- ITS FALSE NEIGHBOUR: 'it returns false'. Refute it at one input. -/
def holderDropWrong : ChangeSpec := { name := "holderDrop", fn := fun _ => fun
  | [d1, d2, d3, d4, d5, d6] => { results := [.lit (.bool false)], args := [d1, d2, d3, d4, d5, d6] }
  | _ => none }
def HolderDropWrongFalsely : Prop := holderDropRow.holds Try.pinned (OpenSpec.ofChange holderDropWrong)

/-- 'coveylaw25.HolderNames': WHATEVER THE INPUT: true; the input reads as it did. -/
def holderNamesSpec : ChangeSpec := { name := "holderNames", fn := fun _ => fun
  | [] => { results := [.lit (.bool true)], args := [] }
  | _ => none }
def holderNamesRow : OpenClaim := { program := "ytfbmjaelkijmnaa", sum := "994e39b45021f36c0cfb06d5238f33d2767629d53da282a67fbaa880e2919337", func := "covey/coveylaw25.HolderNames", spec := "holderNames", unfollowed := true, recurses := true, apart := false }
def HolderNamesSaid : Prop := holderNamesRow.holds Try.pinned (OpenSpec.ofChange holderNamesSpec)

/-- ITS FALSE NEIGHBOUR: 'it returns false'. Refute it at one input. -/
def holderNamesWrong : ChangeSpec := { name := "holderNames", fn := fun _ => fun
  | [] => { results := [.lit (.bool false)], args := [] }
  | _ => none }
def HolderNamesWrongFalsely : Prop := holderNamesRow.holds Try.pinned (OpenSpec.ofChange holderNamesWrong)

/-- 'coveylaw25.HolderPlays': WHATEVER THE INPUT: true; the input reads as it did. -/
def holderPlaysSpec : ChangeSpec := { name := "holderPlays", fn := fun _ => fun
  | [d1, d2, d3, d4, d5] => { results := [.lit (.bool true)], args := [d1, d2, d3, d4, d5] }
  | _ => none }
def holderPlaysRow : OpenClaim := { program := "ytfbmjaelkijmnaa", sum := "994e39b45021f36c0cfb06d5238f33d2767629d53da282a67fbaa880e2919337", func := "covey/coveylaw25.HolderPlays", spec := "holderPlays", unfollowed := true, recurses := true, apart := false }
def HolderPlaysSaid : Prop := holderPlaysRow.holds Try.pinned (OpenSpec.ofChange holderPlaysSpec)

/-- ITS FALSE NEIGHBOUR: 'it returns false'. Refute it at one input. -/
def holderPlaysWrong : ChangeSpec := { name := "holderPlays", fn := fun _ => fun
  | [d1, d2, d3, d4, d5] => { results := [.lit (.bool false)], args := [d1, d2, d3, d4, d5] }
  | _ => none }
def HolderPlaysWrongFalsely : Prop := holderPlaysRow.holds Try.pinned (OpenSpec.ofChange holderPlaysWrong)

/- THE SECOND FORM. 'bulk': how many values and letters a reading holds, each counted each time it is reached (what is shared counts as often as it is met; a slice's spare places count too). A statement '..UptoSaid' is the law's where the arguments, and the package variables that the reading takes, are together of bulk at most 1048576: NARROWER than '..Said'. Prove '..Said' where nothing that the law and all that it calls make is longer than what came in: it says more and counts as full. Else prove '..UptoSaid'. A law counts once. -/
mutual
def uptoBulk {H : Type} : DataW H → Nat
  | .lit (.string bytes) => bytes.length + 1
  | .lit _ => 1
  | .nil => 1
  | .ptr d => uptoBulk d + 1
  | .slice elems spare => uptoBulkAll elems + uptoBulkAll spare + 1
  | .agg parts => uptoBulkAll parts + 1
  | .iface _ d => uptoBulk d + 1
  | .map entries => uptoBulkEntries entries + 1
  | .held _ => 1
def uptoBulkAll {H : Type} : List (DataW H) → Nat
  | [] => 0
  | d :: r => uptoBulk d + uptoBulkAll r
def uptoBulkEntries {H : Type} : List (Lit × DataW H) → Nat
  | [] => 0
  | x :: r => uptoBulkEntry x + uptoBulkEntries r
def uptoBulkEntry {H : Type} : Lit × DataW H → Nat
  | (.string bytes, d) => bytes.length + uptoBulk d + 1
  | (_, d) => uptoBulk d + 1
 end
def uptoSmall : (H : Type) → List (DataW H) → Bool := fun _ ds => decide (uptoBulkAll ds ≤ 1048576)
def OpenSpec.upto (s : _root_.Go.ChangeSpec) : _root_.Go.OpenSpec := { _root_.Go.OpenSpec.ofChange s with cond := some uptoSmall }

/-- 'coveylaw25.HolderKeeps', WHERE WHAT IT READS IS OF BULK AT MOST 1048576: true; the input reads as it did. -/
def holderKeepsUptoRow : OpenClaim := { program := "ytfbmjaelkijmnaa", sum := "994e39b45021f36c0cfb06d5238f33d2767629d53da282a67fbaa880e2919337", func := "covey/coveylaw25.HolderKeeps", spec := "holderKeeps", unfollowed := true, recurses := true, apart := false, narrowed := true }
def HolderKeepsUptoSaid : Prop := holderKeepsUptoRow.holds Try.pinned (OpenSpec.upto holderKeepsSpec)

/-- 'coveylaw25.HolderRefused', WHERE WHAT IT READS IS OF BULK AT MOST 1048576: true; the input reads as it did. -/
def holderRefusedUptoRow : OpenClaim := { program := "ytfbmjaelkijmnaa", sum := "994e39b45021f36c0cfb06d5238f33d2767629d53da282a67fbaa880e2919337", func := "covey/coveylaw25.HolderRefused", spec := "holderRefused", unfollowed := true, recurses := true, apart := false, narrowed := true }
def HolderRefusedUptoSaid : Prop := holderRefusedUptoRow.holds Try.pinned (OpenSpec.upto holderRefusedSpec)

/-- 'coveylaw25.HolderAsked', WHERE WHAT IT READS IS OF BULK AT MOST 1048576: true; the input reads as it did. -/
def holderAskedUptoRow : OpenClaim := { program := "ytfbmjaelkijmnaa", sum := "994e39b45021f36c0cfb06d5238f33d2767629d53da282a67fbaa880e2919337", func := "covey/coveylaw25.HolderAsked", spec := "holderAsked", unfollowed := true, recurses := true, apart := false, narrowed := true }
def HolderAskedUptoSaid : Prop := holderAskedUptoRow.holds Try.pinned (OpenSpec.upto holderAskedSpec)

/-- 'coveylaw25.HolderOnce', WHERE WHAT IT READS IS OF BULK AT MOST 1048576: true; the input reads as it did. -/
def holderOnceUptoRow : OpenClaim := { program := "ytfbmjaelkijmnaa", sum := "994e39b45021f36c0cfb06d5238f33d2767629d53da282a67fbaa880e2919337", func := "covey/coveylaw25.HolderOnce", spec := "holderOnce", unfollowed := true, recurses := true, apart := false, narrowed := true }
def HolderOnceUptoSaid : Prop := holderOnceUptoRow.holds Try.pinned (OpenSpec.upto holderOnceSpec)

/-- 'coveylaw25.HolderDrop', WHERE WHAT IT READS IS OF BULK AT MOST 1048576: true; the input reads as it did. -/
def holderDropUptoRow : OpenClaim := { program := "ytfbmjaelkijmnaa", sum := "994e39b45021f36c0cfb06d5238f33d2767629d53da282a67fbaa880e2919337", func := "covey/coveylaw25.HolderDrop", spec := "holderDrop", unfollowed := true, recurses := true, apart := false, narrowed := true }
def HolderDropUptoSaid : Prop := holderDropUptoRow.holds Try.pinned (OpenSpec.upto holderDropSpec)

/-- 'coveylaw25.HolderNames', WHERE WHAT IT READS IS OF BULK AT MOST 1048576: true; the input reads as it did. -/
def holderNamesUptoRow : OpenClaim := { program := "ytfbmjaelkijmnaa", sum := "994e39b45021f36c0cfb06d5238f33d2767629d53da282a67fbaa880e2919337", func := "covey/coveylaw25.HolderNames", spec := "holderNames", unfollowed := true, recurses := true, apart := false, narrowed := true }
def HolderNamesUptoSaid : Prop := holderNamesUptoRow.holds Try.pinned (OpenSpec.upto holderNamesSpec)

/-- 'coveylaw25.HolderPlays', WHERE WHAT IT READS IS OF BULK AT MOST 1048576: true; the input reads as it did. -/
def holderPlaysUptoRow : OpenClaim := { program := "ytfbmjaelkijmnaa", sum := "994e39b45021f36c0cfb06d5238f33d2767629d53da282a67fbaa880e2919337", func := "covey/coveylaw25.HolderPlays", spec := "holderPlays", unfollowed := true, recurses := true, apart := false, narrowed := true }
def HolderPlaysUptoSaid : Prop := holderPlaysUptoRow.holds Try.pinned (OpenSpec.upto holderPlaysSpec)

end Rows
end Go.Proofs.Ytfbmjaelkijmnaa
