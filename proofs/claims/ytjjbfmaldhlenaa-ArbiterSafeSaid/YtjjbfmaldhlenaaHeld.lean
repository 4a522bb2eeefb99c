/-
  What the walk of ArbiterSafe holds in memory: the arbiter, the three that ask, the questions, the answers.
-/
import Derived.Test.YtjjbfmaldhlenaaSafePlain
import Derived.Test.YtjjbfmaldhlenaaEvs
import Derived.Test.YtjjbfmaldhlenaaWorks
import Derived.Maps.AppendAt
import Derived.OwnWalk
import Derived.OneCell
import Derived.Laws.OwnMore
namespace Go.Proofs.Ytjjbfmaldhlenaa
open Go.RowKit
set_option linter.unusedVariables false
def Asker.cells (x : Asker) : List Value := [.int .i64 x.now, .int .i64 x.last, .int .i64 x.sent, .int .i64 x.till, .int .i64 x.token]
/-- The three, in a row. -/
def trio (w : Nat → Asker) : Array Value := #[.int .i64 (w 0).now, .int .i64 (w 0).last, .int .i64 (w 0).sent, .int .i64 (w 0).till, .int .i64 (w 0).token,
  .int .i64 (w 1).now, .int .i64 (w 1).last, .int .i64 (w 1).sent, .int .i64 (w 1).till, .int .i64 (w 1).token,
  .int .i64 (w 2).now, .int .i64 (w 2).last, .int .i64 (w 2).sent, .int .i64 (w 2).till, .int .i64 (w 2).token]
def Trio (N : Nat) (w : Nat → Asker) (v : World) : Prop := v.heap[N]? = some (.cells (trio w) 31 (0, 0))
theorem Trio.lt {N : Nat} {w : Nat → Asker} {v : World} (h : Trio N w v) : N < v.heap.size := (Array.getElem?_eq_some_iff.1 h).1
theorem Trio.free {N : Nat} {w : Nat → Asker} {v : World} (h : Trio N w v) (o : Nat) : v.frozen? ⟨N, o, none⟩ = false := frozen_of_row _ _ _ _ _ h
theorem Trio.reads {N : Nat} {w : Nat → Asker} {v : World} (h : Trio N w v) (k : Nat) (hk : k < 3) :
    v.cell? ⟨N, k * 5, none⟩ = some (.int .i64 (w k).now) ∧ v.cell? ⟨N, k * 5 + 1, none⟩ = some (.int .i64 (w k).last) ∧ v.cell? ⟨N, k * 5 + 2, none⟩ = some (.int .i64 (w k).sent) ∧
    v.cell? ⟨N, k * 5 + 3, none⟩ = some (.int .i64 (w k).till) ∧ v.cell? ⟨N, k * 5 + 4, none⟩ = some (.int .i64 (w k).token) := by
  rcases (show k = 0 ∨ k = 1 ∨ k = 2 by omega) with rfl | rfl | rfl <;> refine ⟨?_, ?_, ?_, ?_, ?_⟩ <;> (rw [cell_of_row _ _ _ _ _ _ h]; rfl)
theorem Trio.kept {N C : Nat} {w : Nat → Asker} {v v' : World} (h : Trio N w v) (hK : Keep C v v') (hC : N ≠ C) : Trio N w v' := (hK.block _ h.lt hC).trans h
theorem Trio.set {N : Nat} {w : Nat → Asker} {v : World} (h : Trio N w v) (k : Nat) (hk : k < 3) (x : Asker) (o : Nat) (u : Value) (ho : ∀ j, j < 5 → x.cells[j]? = if j = o then some u else (w k).cells[j]?) (h5 : o < 5) :
    Trio N (upd w k x) (v.setCell ⟨N, k * 5 + o, none⟩ u) := by
  unfold Trio
  rw [heap_setCell_same _ _ _ _ _ _ h]
  have h0 := ho 0 (by omega)
  have h1 := ho 1 (by omega)
  have h2 := ho 2 (by omega)
  have h3 := ho 3 (by omega)
  have h4 := ho 4 (by omega)
  rcases (show o = 0 ∨ o = 1 ∨ o = 2 ∨ o = 3 ∨ o = 4 by omega) with rfl | rfl | rfl | rfl | rfl <;> simp [Asker.cells] at h0 h1 h2 h3 h4 <;>
  rcases (show k = 0 ∨ k = 1 ∨ k = 2 by omega) with rfl | rfl | rfl <;> simp [trio, upd, h0, h1, h2, h3, h4]
theorem upd_upd (w : Nat → Asker) (k : Nat) (x y : Asker) : upd (upd w k x) k y = upd w k y := by
  funext j; unfold upd; split <;> rfl
theorem Trio.now {N : Nat} {w : Nat → Asker} {v : World} (h : Trio N w v) (k : Nat) (hk : k < 3) : Trio N (upd w k (w k).tick) (v.setCell ⟨N, k * 5, none⟩ (.int .i64 ((w k).now + 1))) :=
  h.set k hk _ 0 _ (fun j hj => by rcases (show j = 0 ∨ j = 1 ∨ j = 2 ∨ j = 3 ∨ j = 4 by omega) with rfl | rfl | rfl | rfl | rfl <;> rfl) (by omega)
theorem Trio.send {N : Nat} {w : Nat → Asker} {v : World} (h : Trio N w v) (k : Nat) (hk : k < 3) : Trio N (upd w k (w k).send) ((v.setCell ⟨N, k * 5 + 1, none⟩ (.int .i64 ((w k).last + 1))).setCell ⟨N, k * 5 + 2, none⟩ (.int .i64 (w k).now)) := by
  have h1 := h.set k hk { w k with last := (w k).last + 1 } 1 (.int .i64 ((w k).last + 1)) (fun j hj => by rcases (show j = 0 ∨ j = 1 ∨ j = 2 ∨ j = 3 ∨ j = 4 by omega) with rfl | rfl | rfl | rfl | rfl <;> rfl) (by omega)
  have h2 := h1.set k hk (w k).send 2 (.int .i64 (w k).now) (fun j hj => by rw [upd_same]; rcases (show j = 0 ∨ j = 1 ∨ j = 2 ∨ j = 3 ∨ j = 4 by omega) with rfl | rfl | rfl | rfl | rfl <;> rfl) (by omega)
  rwa [upd_upd] at h2
theorem Trio.heard {N : Nat} {w : Nat → Asker} {v : World} (h : Trio N w v) (k : Nat) (hk : k < 3) (a b : Int) : Trio N (upd w k { w k with till := a, token := b }) ((v.setCell ⟨N, k * 5 + 3, none⟩ (.int .i64 a)).setCell ⟨N, k * 5 + 4, none⟩ (.int .i64 b)) := by
  have h1 := h.set k hk { w k with till := a } 3 (.int .i64 a) (fun j hj => by rcases (show j = 0 ∨ j = 1 ∨ j = 2 ∨ j = 3 ∨ j = 4 by omega) with rfl | rfl | rfl | rfl | rfl <;> rfl) (by omega)
  have h2 := h1.set k hk { w k with till := a, token := b } 4 (.int .i64 b) (fun j hj => by rw [upd_same]; rcases (show j = 0 ∨ j = 1 ∨ j = 2 ∨ j = 3 ∨ j = 4 by omega) with rfl | rfl | rfl | rfl | rfl <;> rfl) (by omega)
  rwa [upd_upd] at h2

/-! ### Frames in a row -/
def rows : List Fr → List Value
  | [] => []
  | f :: l => f.cells.toList ++ rows l
theorem rows_append (a b : List Fr) : rows (a ++ b) = rows a ++ rows b := by
  induction a with
  | nil => rfl
  | cons f a ih => simp [rows, ih]
theorem rows_length (l : List Fr) : (rows l).length = l.length * 14 := by
  induction l with
  | nil => rfl
  | cons f a ih => simp [rows, ih, Fr.size]; omega
theorem rows_get (l : List Fr) (j o : Nat) (hj : j < l.length) (ho : o < 14) : (rows l)[j * 14 + o]? = l[j].cells[o]? := by
  induction l generalizing j with
  | nil => simp at hj
  | cons f a ih =>
    have hf : f.cells.toList.length = 14 := rfl
    cases j with
    | zero => simp only [rows]; rw [List.getElem?_append_left (by rw [hf]; omega)]; simp
    | succ j =>
      simp only [rows]
      rw [List.getElem?_append_right (by rw [hf]; omega), hf, show (j + 1) * 14 + o - 14 = j * 14 + o by omega, ih j (by simpa using hj)]
      simp
/-- A slice of frames that is the walk's own. -/
def Frs (P : Nat) (v : Value) (l : List Fr) (w : World) : Prop := w.ownsRow P 48 14 v l.length (rows l)
theorem Frs.nil (P : Nat) (w : World) : Frs P (.slice none 0 0) [] w := World.ownsRow_nil _ _ _ _
theorem Frs.shape {P : Nat} {v : Value} {l : List Fr} {w : World} (h : Frs P v l w) : (v = .slice none 0 0 ∧ l = []) ∨ ∃ g cap, v = .slice (some ⟨g, 0, none⟩) l.length cap ∧ P ≤ g ∧ g < w.heap.size := by
  rcases h.2 with ⟨h1, h2⟩ | ⟨g, cap, cur, h1, h2, h3, -⟩
  · exact .inl ⟨h1, List.eq_nil_of_length_eq_zero h2⟩
  · exact .inr ⟨g, cap, h1, h2, (Array.getElem?_eq_some_iff.1 h3).1⟩
theorem Frs.kept {P C : Nat} {v : Value} {l : List Fr} {w w' : World} (h : Frs P v l w) (hK : Keep C w w') (hC : C < P) : Frs P v l w' :=
  World.ownsRow.kept h (row := some C) ⟨hK.os, hK.tape, hK.output, hK.size, fun k hk hne => hK.block k hk (fun e => hne (by rw [e]))⟩ (by
    cases hv : v.ownBlock with
    | none => exact .inl rfl
    | some k => right; intro e; have := World.ownsRow.lt h k hv; simp only [Option.some.injEq] at e; omega)
/-- All cells of the frame in place j. -/
theorem Frs.at_ {P : Nat} {g cap : Nat} {l : List Fr} {w : World} (h : Frs P (.slice (some ⟨g, 0, none⟩) l.length cap) l w) (j : Nat) (hj : j < l.length) :
    w.cell? ⟨g, j * 14, none⟩ = some (.int .u8 l[j].kind) ∧ w.cell? ⟨g, j * 14 + 1, none⟩ = some (.int .i64 l[j].fa) ∧ w.cell? ⟨g, j * 14 + 2, none⟩ = some (.int .i64 l[j].fi) ∧ w.cell? ⟨g, j * 14 + 3, none⟩ = some (.int .i64 l[j].ta) ∧
    w.cell? ⟨g, j * 14 + 4, none⟩ = some (.int .i64 l[j].ti) ∧ w.cell? ⟨g, j * 14 + 5, none⟩ = some (.int .i64 l[j].n) ∧ w.cell? ⟨g, j * 14 + 6, none⟩ = some (.int .i64 l[j].token) ∧ w.cell? ⟨g, j * 14 + 7, none⟩ = some (.int .i64 0) ∧
    w.cell? ⟨g, j * 14 + 8, none⟩ = some (.int .i64 0) ∧ w.cell? ⟨g, j * 14 + 9, none⟩ = some (.slice none 0 0) ∧ w.cell? ⟨g, j * 14 + 10, none⟩ = some (.slice none 0 0) ∧ w.cell? ⟨g, j * 14 + 11, none⟩ = some (.slice none 0 0) ∧
    w.cell? ⟨g, j * 14 + 12, none⟩ = some (.slice none 0 0) ∧ w.cell? ⟨g, j * 14 + 13, none⟩ = some (.slice none 0 0) := by
  have hc : ∀ o, o < 14 → w.cell? ⟨g, j * 14 + o, none⟩ = l[j].cells[o]? := fun o ho => by
    rw [World.ownsRow.cellAt h _ (by omega), rows_get _ _ _ hj ho]
  refine ⟨hc 0 (by omega), hc 1 (by omega), hc 2 (by omega), hc 3 (by omega), hc 4 (by omega), hc 5 (by omega), hc 6 (by omega), hc 7 (by omega), hc 8 (by omega), hc 9 (by omega), hc 10 (by omega), hc 11 (by omega), hc 12 (by omega), hc 13 (by omega)⟩
/-- The frame in place j, loaded whole. -/
theorem new_cells (w : World) (c : Array Value) (t : TypeId) : ∀ j u, c.toList[j]? = some u → (w.alloc (.cells c t)).cell? ((⟨w.heap.size, 0, none⟩ : Addr).add j) = some u := by
  intro j u hj
  have h := cell_of_row (w.alloc (.cells c t)) w.heap.size j c t (0, 0) (heap_alloc_new _ _)
  have e : (⟨w.heap.size, 0, none⟩ : Addr).add j = ⟨w.heap.size, j, none⟩ := by
    by_cases h0 : j = 0
    · subst h0; simp [Addr.add]
    · simp [Addr.add, h0]
  rw [e, h]; simpa using hj
theorem info48 : ∃ i z, Try.prog.info? 48 = some i ∧ i.zero = some z ∧ i.size = 14 ∧ i.bytes ≤ 1000 ∧ z.cells.size = 14 := by
  have h : (Try.prog.info? 48).map (fun i => (i.size, decide (i.bytes ≤ 1000), i.zero.map (·.cells.size))) = some (14, true, some 14) := by kernel_rfl
  cases hi : Try.prog.info? 48 with
  | none => rw [hi] at h; simp at h
  | some i =>
    rw [hi] at h
    simp only [Option.map_some, Option.some.injEq, Prod.mk.injEq] at h
    obtain ⟨h1, h2, h3⟩ := h
    cases hz : i.zero with
    | none => rw [hz] at h3; simp at h3
    | some z => rw [hz] at h3; simp at h3 h2; exact ⟨i, z, rfl, hz, h1, h2, h3⟩

/-! ### All of it -/
structure Sw (B N P : Nat) (p : Play) (av tv : Value) (W w : World) : Prop where
  here : At B p.a w
  trio : Trio N p.w w
  asked : Frs P av p.asked w
  told : Frs P tv p.told w
  apart : av.ownBlock = none ∨ av.ownBlock ≠ tv.ownBlock
  below : Below W.heap.size W w
  ownB : W.heap.size ≤ B
  ownN : W.heap.size ≤ N
  ne : N ≠ B
  lb : B < P
  ln : N < P
  lp : P ≤ w.heap.size
section
variable {B N P : Nat} {p : Play} {av tv : Value} {W w w' : World}
/-- The arbiter has turned. -/
theorem Sw.turn (h : Sw B N P p av tv W w) (a : St) (hA : At B a w') (hK : Keep B w w') : Sw B N P { p with a := a } av tv W w' :=
  ⟨hA, h.trio.kept hK h.ne, h.asked.kept hK h.lb, h.told.kept hK h.lb, h.apart, h.below.trans (hK.below h.ownB h.below.size), h.ownB, h.ownN, h.ne, h.lb, h.ln, Nat.le_trans h.lp hK.size⟩
theorem Sw.kept (h : Sw B N P p av tv W w) (hb : Below w.heap.size w w') : Sw B N P p av tv W w' := h.turn p.a (h.here.kept hb) (Keep.of_below hb)
theorem Sw.alloc (h : Sw B N P p av tv W w) (o : Obj) : Sw B N P p av tv W (w.alloc o) := h.kept ((Below.refl _ _).alloc (Nat.le_refl _) _)
theorem Sw.drew (h : Sw B N P p av tv W w) : Sw B N P p av tv W w.drew := h.turn p.a h.here (Keep.refl B w).drew
theorem Sw.drewN (h : Sw B N P p av tv W w) (n : Nat) : Sw B N P p av tv W (w.drewN n) := h.turn p.a h.here ((Keep.refl B w).drewN n)
/-- A new block alone has turned. -/
theorem Sw.fresh (h : Sw B N P p av tv W w) {g : Nat} (hK : Keep g w w') (hg : ∀ k, k < w.heap.size → w'.heap[k]? = w.heap[k]?) : Sw B N P p av tv W w' :=
  h.kept ⟨hK.os, hK.tape, hK.output, hK.size, hg⟩
/-- The three have turned. -/
theorem Sw.asker (h : Sw B N P p av tv W w) (ww : Nat → Asker) (hT : Trio N ww w') (hK : Keep N w w') : Sw B N P { p with w := ww } av tv W w' :=
  ⟨h.here.other hK (Ne.symm h.ne), hT, h.asked.kept hK h.ln, h.told.kept hK h.ln, h.apart, h.below.trans (hK.below h.ownN h.below.size), h.ownB, h.ownN, h.ne, h.lb, h.ln, Nat.le_trans h.lp hK.size⟩
theorem Sw.now (h : Sw B N P p av tv W w) (k : Nat) (hk : k < 3) : Sw B N P { p with w := upd p.w k (p.w k).tick } av tv W (w.setCell ⟨N, k * 5, none⟩ (.int .i64 ((p.w k).now + 1))) :=
  h.asker _ (h.trio.now k hk) ((Keep.refl N w).setCell (.inl rfl) _)
theorem Sw.send (h : Sw B N P p av tv W w) (k : Nat) (hk : k < 3) : Sw B N P { p with w := upd p.w k (p.w k).send } av tv W ((w.setCell ⟨N, k * 5 + 1, none⟩ (.int .i64 ((p.w k).last + 1))).setCell ⟨N, k * 5 + 2, none⟩ (.int .i64 (p.w k).now)) :=
  h.asker _ (h.trio.send k hk) (((Keep.refl N w).setCell (p := ⟨N, k * 5 + 1, none⟩) (.inl rfl) _).setCell (p := ⟨N, k * 5 + 2, none⟩) (.inl rfl) _)
theorem Sw.heard (h : Sw B N P p av tv W w) (k : Nat) (hk : k < 3) (a b : Int) : Sw B N P { p with w := upd p.w k { p.w k with till := a, token := b } } av tv W ((w.setCell ⟨N, k * 5 + 3, none⟩ (.int .i64 a)).setCell ⟨N, k * 5 + 4, none⟩ (.int .i64 b)) :=
  h.asker _ (h.trio.heard k hk a b) (((Keep.refl N w).setCell (p := ⟨N, k * 5 + 3, none⟩) (.inl rfl) _).setCell (p := ⟨N, k * 5 + 4, none⟩) (.inl rfl) _)
/-- One question more. -/
theorem Sw.quests (h : Sw B N P p av tv W w) {av' : Value} (f : Fr) (hown : w'.ownsRow P 48 14 av' (p.asked.length + 1) (rows p.asked ++ f.cells.toList)) (hg : w.grownBy w' av.ownBlock) (hat : av'.ownBlock = av.ownBlock ∨ av'.ownBlock = some w.heap.size) :
    Sw B N P { p with asked := p.asked ++ [f] } av' tv W w' := by
  have hP : ∀ k, av.ownBlock = some k → P ≤ k ∧ k < w.heap.size := World.ownsRow.lt h.asked
  have hT : ∀ k, tv.ownBlock = some k → P ≤ k ∧ k < w.heap.size := World.ownsRow.lt h.told
  have lb := h.lb
  have ln := h.ln
  have hlt := h.here.lt
  have hln := h.trio.lt
  have hne : ∀ k, k < P → some k ≠ av.ownBlock := fun k hk e => by have := (hP k e.symm).1; omega
  refine ⟨(hg.block _ hlt (hne _ lb)).trans h.here, (hg.block _ hln (hne _ ln)).trans h.trio, ?_, World.ownsRow.kept h.told hg ?_, ?_, ?_, h.ownB, h.ownN, h.ne, lb, ln, Nat.le_trans h.lp hg.size⟩
  · unfold Frs; rw [rows_append]; simpa [rows] using hown
  · cases ht : tv.ownBlock with
    | none => exact .inl rfl
    | some k =>
      right
      rcases h.apart with e | e
      · rw [e]; simp
      · rw [ht] at e; exact Ne.symm e
  · rcases hat with e | e
    · rw [e]; exact h.apart
    · right
      rw [e]
      intro e2
      have := (hT _ e2.symm).2
      omega
  · refine Below.grown h.below hg h.below.size (fun k hk => ?_)
    have := (hP k hk).1
    have := h.ownB
    omega
/-- One answer more. -/
theorem Sw.tells (h : Sw B N P p av tv W w) {tv' : Value} (f : Fr) (hown : w'.ownsRow P 48 14 tv' (p.told.length + 1) (rows p.told ++ f.cells.toList)) (hg : w.grownBy w' tv.ownBlock) (hat : tv'.ownBlock = tv.ownBlock ∨ tv'.ownBlock = some w.heap.size) :
    Sw B N P { p with told := p.told ++ [f] } av tv' W w' := by
  have hP : ∀ k, tv.ownBlock = some k → P ≤ k ∧ k < w.heap.size := World.ownsRow.lt h.told
  have hA : ∀ k, av.ownBlock = some k → P ≤ k ∧ k < w.heap.size := World.ownsRow.lt h.asked
  have lb := h.lb
  have ln := h.ln
  have hlt := h.here.lt
  have hln := h.trio.lt
  have hne : ∀ k, k < P → some k ≠ tv.ownBlock := fun k hk e => by have := (hP k e.symm).1; omega
  refine ⟨(hg.block _ hlt (hne _ lb)).trans h.here, (hg.block _ hln (hne _ ln)).trans h.trio, World.ownsRow.kept h.asked hg h.apart, ?_, ?_, ?_, h.ownB, h.ownN, h.ne, lb, ln, Nat.le_trans h.lp hg.size⟩
  · unfold Frs; rw [rows_append]; simpa [rows] using hown
  · rcases hat with e | e
    · rw [e]; exact h.apart
    · cases hv : av.ownBlock with
      | none => exact .inl rfl
      | some k =>
        right
        rw [e]
        intro e2
        simp only [Option.some.injEq] at e2
        have := (hA _ hv).2
        omega
  · refine Below.grown h.below hg h.below.size (fun k hk => ?_)
    have := (hP k hk).1
    have := h.ownB
    omega
theorem Sw.ok (h : Sw B N P p av tv W w) {term hold : Int} {pre : List Ev} {q : Nat} {g suf : List Ev} (s : Safe term hold pre p q g suf) (t1 : 1 ≤ term) (t2 : term ≤ 4096) (hl : pre.length ≤ 300) : p.a.Ok := by
  have := s.trm
  have := s.n0
  have := s.n1
  have := s.k0
  have := s.k1
  exact ⟨by omega, by omega, by omega, by omega, by omega, by omega⟩
end
end Go.Proofs.Ytjjbfmaldhlenaa
