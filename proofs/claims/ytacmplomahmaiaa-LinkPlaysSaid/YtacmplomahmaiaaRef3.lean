/-
  The document's links: New, Copy.
-/
import Derived.Test.YtacmplomahmaiaaRef2
import Derived.Deep.MidRow
namespace Go.Proofs.Ytacmplomahmaiaa
open Go.RowKit
set_option linter.unusedVariables false
set_option linter.unusedSimpArgs false
attribute [local go_sem ↓] Go.wp_at_zero Go.wp_at_succ
/-- All cells. -/
def all52 (g : Int → Peer) : Array Value := #[.int .i64 (g 0).newest, .int .i64 (g 0).fenced, .int .i64 (g 0).beat, .int .i64 (g 0).reply, .int .i64 (g 1).newest, .int .i64 (g 1).fenced, .int .i64 (g 1).beat, .int .i64 (g 1).reply, .int .i64 (g 2).newest, .int .i64 (g 2).fenced, .int .i64 (g 2).beat, .int .i64 (g 2).reply, .int .i64 (g 3).newest, .int .i64 (g 3).fenced, .int .i64 (g 3).beat, .int .i64 (g 3).reply, .int .i64 (g 4).newest, .int .i64 (g 4).fenced, .int .i64 (g 4).beat, .int .i64 (g 4).reply, .int .i64 (g 5).newest, .int .i64 (g 5).fenced, .int .i64 (g 5).beat, .int .i64 (g 5).reply, .int .i64 (g 6).newest, .int .i64 (g 6).fenced, .int .i64 (g 6).beat, .int .i64 (g 6).reply, .int .i64 (g 7).newest, .int .i64 (g 7).fenced, .int .i64 (g 7).beat, .int .i64 (g 7).reply, .int .i64 (g 8).newest, .int .i64 (g 8).fenced, .int .i64 (g 8).beat, .int .i64 (g 8).reply, .int .i64 (g 9).newest, .int .i64 (g 9).fenced, .int .i64 (g 9).beat, .int .i64 (g 9).reply, .int .i64 (g 10).newest, .int .i64 (g 10).fenced, .int .i64 (g 10).beat, .int .i64 (g 10).reply, .int .i64 (g 11).newest, .int .i64 (g 11).fenced, .int .i64 (g 11).beat, .int .i64 (g 11).reply, .int .i64 (g 12).newest, .int .i64 (g 12).fenced, .int .i64 (g 12).beat, .int .i64 (g 12).reply]
theorem all52_0 (g : Int → Peer) : ∀ k : Nat, k ≤ 12 → (all52 g)[k * 4]? = some (.int .i64 (g k).newest)
  | 0, _ => rfl
  | 1, _ => rfl
  | 2, _ => rfl
  | 3, _ => rfl
  | 4, _ => rfl
  | 5, _ => rfl
  | 6, _ => rfl
  | 7, _ => rfl
  | 8, _ => rfl
  | 9, _ => rfl
  | 10, _ => rfl
  | 11, _ => rfl
  | 12, _ => rfl
  | k + 13, h => by omega
theorem all52_1 (g : Int → Peer) : ∀ k : Nat, k ≤ 12 → (all52 g)[k * 4 + 1]? = some (.int .i64 (g k).fenced)
  | 0, _ => rfl
  | 1, _ => rfl
  | 2, _ => rfl
  | 3, _ => rfl
  | 4, _ => rfl
  | 5, _ => rfl
  | 6, _ => rfl
  | 7, _ => rfl
  | 8, _ => rfl
  | 9, _ => rfl
  | 10, _ => rfl
  | 11, _ => rfl
  | 12, _ => rfl
  | k + 13, h => by omega
theorem all52_2 (g : Int → Peer) : ∀ k : Nat, k ≤ 12 → (all52 g)[k * 4 + 2]? = some (.int .i64 (g k).beat)
  | 0, _ => rfl
  | 1, _ => rfl
  | 2, _ => rfl
  | 3, _ => rfl
  | 4, _ => rfl
  | 5, _ => rfl
  | 6, _ => rfl
  | 7, _ => rfl
  | 8, _ => rfl
  | 9, _ => rfl
  | 10, _ => rfl
  | 11, _ => rfl
  | 12, _ => rfl
  | k + 13, h => by omega
theorem all52_3 (g : Int → Peer) : ∀ k : Nat, k ≤ 12 → (all52 g)[k * 4 + 3]? = some (.int .i64 (g k).reply)
  | 0, _ => rfl
  | 1, _ => rfl
  | 2, _ => rfl
  | 3, _ => rfl
  | 4, _ => rfl
  | 5, _ => rfl
  | 6, _ => rfl
  | 7, _ => rfl
  | 8, _ => rfl
  | 9, _ => rfl
  | 10, _ => rfl
  | 11, _ => rfl
  | 12, _ => rfl
  | k + 13, h => by omega
theorem Rl.whole {R : Nat} {g : Int → Peer} {w : World} (h : Rl R g w) : w.heap[R]? = some (.cells (all52 g) 63 (0, 0)) := by
  obtain ⟨cs, h1, h2⟩ := h.row
  rw [h1]
  congr 2
  apply Array.ext
  · rw [h2]; rfl
  · intro j hj hj2
    have hjs : j < 52 := by omega
    have hq : ∀ j, w.cell? ⟨R, j, none⟩ = cs[j]? := fun j => cell_of_row _ _ _ _ _ _ h1
    have : cs[j]? = (all52 g)[j]? := by
      obtain ⟨k, o, rfl, ho, hk⟩ : ∃ k o, j = k * 4 + o ∧ o < 4 ∧ k ≤ 12 := ⟨j / 4, j % 4, by omega, by omega, by omega⟩
      rw [← hq]
      rcases (show o = 0 ∨ o = 1 ∨ o = 2 ∨ o = 3 by omega) with rfl | rfl | rfl | rfl
      · exact (h.cell0 k hk).trans (all52_0 g k hk).symm
      · exact (h.cell1 k hk).trans (all52_1 g k hk).symm
      · exact (h.cell2 k hk).trans (all52_2 g k hk).symm
      · exact (h.cell3 k hk).trans (all52_3 g k hk).symm
    rw [Array.getElem?_eq_getElem hj, Array.getElem?_eq_getElem hj2] at this
    exact Option.some.inj this
theorem Rl.of_whole {R : Nat} {g : Int → Peer} {w : World} (h : w.heap[R]? = some (.cells (all52 g) 63 (0, 0))) : Rl R g w where
  lt := (Array.getElem?_eq_some_iff.1 h).1
  cell0 := fun k hk => (cell_of_row _ _ _ _ _ _ h).trans (all52_0 g k hk)
  cell1 := fun k hk => (cell_of_row _ _ _ _ _ _ h).trans (all52_1 g k hk)
  cell2 := fun k hk => (cell_of_row _ _ _ _ _ _ h).trans (all52_2 g k hk)
  cell3 := fun k hk => (cell_of_row _ _ _ _ _ _ h).trans (all52_3 g k hk)
  free := fun j _ => frozen_of_row _ _ _ _ _ h
  row := ⟨_, h, rfl⟩
set_option maxRecDepth 100000 in
set_option maxHeartbeats 2000000 in
theorem rnew_any (w : World) : Calls Try.prog 17 #[] w fun e w' => e = .returned (.pointer (some ⟨w.heap.size, 0, none⟩)) ∧ Rl w.heap.size (fun _ => .zero) w' ∧ Below w.heap.size w w' := by
  go_enter Try.func17, Try.ntmps17
  go_wp2_with fail
  go_ret
  exact ⟨rfl, Rl.of_whole (heap_alloc_new _ _), (Below.refl _ _).alloc (Nat.le_refl _) _⟩
theorem size61 (g : Int → Peer) : (Try.prog.info? 61).map (·.size) = some (all52 g).toList.length := by kernel_rfl
theorem build63 (g : Int → Peer) (w : World) : (Instr.build 63 #[(0, .agg (all52 g))]).run Try.prog w = .ok (.agg (all52 g)) w := by kernel_rfl
theorem wpList_build63 {ops : Array Oper} {rest : List Oper} {op : Oper} {a : Act} {w : World} {Q : Exit → Act → World → Prop} (g : Int → Peer) (hgd : op.guard = none) (x : Operand) (ho : op.op = .build 63 #[(0, x)]) (hx : a.eval x = .agg (all52 g))
    (h : wpList Try.prog ops Q rest (a.put op.dst (.agg (all52 g))) w) : wpList Try.prog ops Q (op :: rest) a w :=
  wpList_plain hgd fun _ hK => by
    have hb := build63 g w
    unfold Oper.wp execOp
    simp only [ho, List.map_toArray, List.map_cons, List.map_nil, hx, hb, Sem.run_bind, Sem.run_pure, Result.andThen_ok]
    exact hK _ _ h
set_option maxRecDepth 100000 in
set_option maxHeartbeats 4000000 in
theorem rcopy_any (R : Nat) (g : Int → Peer) (w : World) (h : Rl R g w) : Calls Try.prog 19 #[.pointer (some ⟨R, 0, none⟩)] w fun e w' => e = .returned (.pointer (some ⟨w.heap.size, 0, none⟩)) ∧ Rl w.heap.size g w' ∧ Below w.heap.size w w' := by
  have hw := h.whole
  have hr : w.rangeAt R 0 (all52 g).toList := by
    intro j u hu
    rw [Nat.zero_add, cell_of_row _ _ _ _ _ _ hw]
    simpa using hu
  have HR := Lib.hid hr
  clear hr hw
  go_enter Try.func19, Try.ntmps19
  go_wp2_with (first | (refine wpList_load_mid rfl 61 (.tmp 5) rfl R 0 rfl (all52 g).toList _ HR.out Try.underlying61 rfl (size61 g) ?_; rw [Array.toArray_toList]) | (refine wpList_build63 g rfl (.tmp 6) rfl rfl ?_) | fail)
  go_ret
  exact ⟨rfl, Rl.of_whole (heap_alloc_new _ _), (Below.refl _ _).alloc (Nat.le_refl _) _⟩
end Go.Proofs.Ytacmplomahmaiaa
