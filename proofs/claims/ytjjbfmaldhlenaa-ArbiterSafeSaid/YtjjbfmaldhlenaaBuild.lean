/-
  A slice of one frame.
-/
import Derived.Test.YtjjbfmaldhlenaaOrd
import Derived.Great.BuildSlice
namespace Go.Proofs.Ytjjbfmaldhlenaa
open Go.RowKit
set_option linter.unusedVariables false
set_option linter.unusedSimpArgs false
set_option maxRecDepth 100000 in
theorem run_build48 (f : Fr) (w : World) : (Instr.buildSlice 32 1 #[(0, .agg f.cells)]).run Try.prog w = .ok (.slice (some ⟨w.heap.size, 0, none⟩) 1 1) (w.alloc (.cells f.cells 48)) := by
  obtain ⟨i, z, hi, hz, hs, -, hzs⟩ := info48
  refine run_buildSlice w 32 48 1 _ _ i z Try.underlying32 hi hz (by rw [hs]; decide) (by rw [hs]; decide) ?_
  rw [hs, hzs]
  obtain ⟨kind, fa, fi, ta, ti, n, token⟩ := f
  generalize hZ : Array.map (fun x => z.cells[x % 14]!) (Array.range (1 * 14)) = Z
  have hZs : Z.size = 14 := by rw [← hZ]; simp
  clear hZ hzs hz hi
  have : Z = #[Z[0], Z[1], Z[2], Z[3], Z[4], Z[5], Z[6], Z[7], Z[8], Z[9], Z[10], Z[11], Z[12], Z[13]] := by
    apply Array.ext
    · simp [hZs]
    · intro j h1 h2
      have : j < 14 := by omega
      match j, this with
      | 0, _ | 1, _ | 2, _ | 3, _ | 4, _ | 5, _ | 6, _ | 7, _ | 8, _ | 9, _ | 10, _ | 11, _ | 12, _ | 13, _ => rfl
  obtain ⟨a0, a1, a2, a3, a4, a5, a6, a7, a8, a9, a10, a11, a12, a13, rfl⟩ : ∃ (a0 a1 a2 a3 a4 a5 a6 a7 a8 a9 a10 a11 a12 a13 : Value), Z = #[a0, a1, a2, a3, a4, a5, a6, a7, a8, a9, a10, a11, a12, a13] := ⟨_, _, _, _, _, _, _, _, _, _, _, _, _, _, this⟩
  clear this hZs
  show _ = some (#[.int .u8 kind, .int .i64 fa, .int .i64 fi, .int .i64 ta, .int .i64 ti, .int .i64 n, .int .i64 token, .int .i64 0, .int .i64 0, .slice none 0 0, .slice none 0 0, .slice none 0 0, .slice none 0 0, .slice none 0 0] : Array Value)
  kernel_rfl
section
variable {ops : Array Oper} {rest : List Oper} {op : Oper} {a : Act} {w : World} {Q : Exit → Act → World → Prop}
theorem wpList_build48 (f : Fr) (hgd : op.guard = none) (x : Operand) (ho : op.op = .buildSlice 32 1 #[(0, x)]) (hx : a.eval x = .agg f.cells)
    (h : wpList Try.prog ops Q rest (a.put op.dst (.slice (some ⟨w.heap.size, 0, none⟩) 1 1)) (w.alloc (.cells f.cells 48))) : wpList Try.prog ops Q (op :: rest) a w :=
  wpList_plain hgd fun K hK => by
    unfold Oper.wp execOp
    simp only [ho, List.map_toArray, List.map_cons, List.map_nil, hx, Sem.run_bind, run_build48 f w, Result.andThen_ok]
    exact hK _ _ h
end
end Go.Proofs.Ytjjbfmaldhlenaa
