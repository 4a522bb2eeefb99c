/-
  A row of IDs, copied.
-/
import Derived.Test.YtimlenapeghknaaWalks8
import Derived.Deep.Upon
import Derived.Laws.OwnMore
import Derived.OwnWalk
namespace Go.Proofs.Ytimlenapeghknaa
open Go.RowKit
set_option linter.unusedVariables false
set_option linter.unusedSimpArgs false
attribute [local go_sem ↓] Go.wp_at_zero Go.wp_at_succ
theorem info23 : ∃ i z, Try.prog.info? 23 = some i ∧ i.zero = some z ∧ i.size = 2 ∧ i.bytes = 16 ∧ z.cells.size = 2 := by
  have h : (Try.prog.info? 23).map (fun i => (i.size, i.bytes, i.zero.map (·.cells.size))) = some (2, 16, some 2) := by kernel_rfl
  cases hi : Try.prog.info? 23 with
  | none => rw [hi] at h; simp at h
  | some i =>
    rw [hi] at h
    simp only [Option.map_some, Option.some.injEq, Prod.mk.injEq] at h
    obtain ⟨h1, h2, h3⟩ := h
    cases hz : i.zero with
    | none => rw [hz] at h3; simp at h3
    | some z => rw [hz] at h3; simp at h3; exact ⟨i, z, rfl, hz, h1, h2, h3⟩
def rowsI : List Idn → List Value
  | [] => []
  | x :: l => .int .i64 x.a :: .int .i64 x.i :: rowsI l
theorem rowsI_length (l : List Idn) : (rowsI l).length = l.length * 2 := by
  induction l with
  | nil => rfl
  | cons x l ih => simp [rowsI, ih]; omega
theorem rowsI_append (a b : List Idn) : rowsI (a ++ b) = rowsI a ++ rowsI b := by
  induction a with
  | nil => rfl
  | cons x a ih => simp [rowsI, ih]
theorem rowsI_one (l : List Idn) : ∀ u ∈ rowsI l, u.oneCell' = true := by
  induction l with
  | nil => simp [rowsI]
  | cons x l ih =>
    intro u hu
    simp only [rowsI, List.mem_cons] at hu
    rcases hu with rfl | rfl | hu
    · rfl
    · rfl
    · exact ih u hu
theorem rowsI_get (l : List Idn) : ∀ k (hk : k < l.length), (rowsI l)[k * 2]? = some (.int .i64 l[k].a) ∧ (rowsI l)[k * 2 + 1]? = some (.int .i64 l[k].i) := by
  induction l with
  | nil => intro k hk; simp at hk
  | cons x l ih =>
    intro k hk
    cases k with
    | zero => exact ⟨rfl, rfl⟩
    | succ k =>
      have := ih k (by simpa using hk)
      simpa [rowsI, Nat.add_mul] using this
/-- A row of the call's own reads so. -/
theorem row_of_own {base n : Nat} {v : Value} {l : List Idn} {w : World} (h : w.ownsRow base 23 2 v n (rowsI l)) (hn : n = l.length) (hl : l.length ≤ 100000) : ∃ oa cap, v = .slice oa l.length cap ∧ Row oa l w := by
  subst hn
  rcases h.2 with ⟨h1, h2⟩ | ⟨g, cap, cur, h1, h2, h3, -⟩
  · have : l = [] := List.eq_nil_of_length_eq_zero h2
    subst this
    exact ⟨none, 0, h1, ⟨by simp, fun k hk => by simp at hk⟩⟩
  · subst h1
    refine ⟨some ⟨g, 0, none⟩, cap, rfl, ⟨hl, fun k hk => ⟨g, 0, rfl, (Array.getElem?_eq_some_iff.1 h3).1, ?_, ?_⟩⟩⟩
    · have := World.ownsRow.cellAt h (k * 2) (by omega)
      rw [(rowsI_get l k hk).1] at this
      simpa using this
    · have := World.ownsRow.cellAt h (k * 2 + 1) (by omega)
      rw [(rowsI_get l k hk).2] at this
      simpa using this
/-- A copy of IDs, behind an empty literal. -/
theorem copy_ids (w : World) (oa : Option Addr) (cap : Nat) (l : List Idn) (hl : Row oa l w) (hl2 : l.length ≤ 1000) (ty : TypeId) :
    ∃ ob cap' w', (Builtin.append_ #[24, 24] ty #[.slice (some ⟨w.heap.size, 0, none⟩) 0 0, .slice oa l.length cap]).run Try.prog (w.alloc (.cells #[] 23)) = .ok (.slice ob l.length cap') w' ∧ Row ob l w' ∧ Below w.heap.size w w' := by
  obtain ⟨i, z, hi, hz, hs, hb, hzs⟩ := info23
  have hb0 : Below w.heap.size w (w.alloc (.cells #[] 23)) := (Below.refl _ w).alloc (Nat.le_refl _) _
  by_cases h0 : l.length = 0
  · have e : l = [] := List.eq_nil_of_length_eq_zero h0
    subst e
    refine ⟨_, _, _, run_append_nothing _ 24 24 ty 23 i Try.underlying24 hi (some ⟨w.heap.size, 0, none⟩) 0 0 (Nat.le_refl _) (.slice oa 0 cap) ?_, ⟨by simp, fun k hk => by simp at hk⟩, hb0⟩
    cases oa with
    | none => exact Src.ofNil _ Try.underlying24 _
    | some a => exact Src.ofSlice _ Try.underlying24 a 0 cap [] (by simp) (by simp) (by simp)
  · have hlt : 0 < l.length := by omega
    obtain ⟨b, off, rfl, -⟩ := hl.cell 0 hlt
    have hown := World.ownsRow_lit (base := w.heap.size) (e := 23) (size := 2) w #[] 0 (Nat.le_refl _) (by decide) rfl
    obtain ⟨v', w', hr, h1, h2, -⟩ := run_append_own (P := Try.prog) (w.alloc (.cells #[] 23)) w.heap.size 24 ty 23 i z 2 16 Try.underlying24 hi hz hs hb hzs (by decide) (.slice (some ⟨w.heap.size, 0, none⟩) 0 0) 0 [] hown
      ⟨b, off, none⟩ l.length cap (rowsI l) (rowsI_length l) (fun j u hj => by
        have hjl : j < l.length * 2 := by rw [← rowsI_length]; exact (List.getElem?_eq_some_iff.1 hj).1
        obtain ⟨k, hk, e⟩ : ∃ k, k < l.length ∧ (j = k * 2 ∨ j = k * 2 + 1) := ⟨j / 2, by omega, by omega⟩
        obtain ⟨b', off', e', hbl, c0, c1⟩ := (hl.below hb0).cell k hk
        simp only [Option.some.injEq, Addr.mk.injEq, and_true] at e'
        obtain ⟨rfl, rfl⟩ := e'
        rw [Addr.add_lit]
        obtain ⟨g0, g1⟩ := rowsI_get l k hk
        rcases e with rfl | rfl
        · rw [g0] at hj
          rw [← hj]; exact c0
        · rw [g1] at hj
          rw [← hj, ← Nat.add_assoc]; exact c1) (rowsI_one l) (by unfold maxLen; omega) (by omega) (by simp)
    simp only [Nat.zero_add, List.nil_append] at h1
    obtain ⟨ob, cap', rfl, hR⟩ := row_of_own h1 rfl (by omega)
    exact ⟨ob, cap', w', hr, hR, Below.grown hb0 h2 hb0.size (fun k hk => by simp [Value.ownBlock] at hk; omega)⟩
theorem wpList_copy_ids {w : World} {ops : Array Oper} {rest : List Oper} {o : Oper} {a : Act} {Q : Exit → Act → World → Prop} (hgd : o.guard = none) (s x : Operand)
    (ho : o.op = .call { callee := .builtin .append, args := #[s, x], argTypes := #[24, 24] })
    (oa : Option Addr) (cap : Nat) (l : List Idn) (v : World) (hw : w = v.alloc (.cells #[] 23)) (hs : a.eval s = .slice (some ⟨v.heap.size, 0, none⟩) 0 0) (hx : a.eval x = .slice oa l.length cap) (hl : Row oa l v) (hl2 : l.length ≤ 1000)
    (h : ∀ ob cap' w', Row ob l w' → Below v.heap.size v w' → wpList Try.prog ops Q rest (a.put o.dst (.slice ob l.length cap')) w') :
    wpList Try.prog ops Q (o :: rest) a w := by
  subst hw
  refine wpList_plain hgd fun K hK => ?_
  obtain ⟨ob, cap', w', hr, h1, h2⟩ := copy_ids v oa cap l hl hl2 o.type
  unfold Oper.wp execOp
  simp only [ho, resolve, invoke, builtin, Sem.run_bind, Sem.run_pure, Result.andThen_ok, List.map_toArray, List.map_cons, List.map_nil, hs, hx, hr]
  exact hK _ _ (h ob cap' w' h1 h2)
end Go.Proofs.Ytimlenapeghknaa
