/-
  The box and the document's beside it.
-/
import Derived.Test.YtjdhdmljchnidaaCopies
import Derived.Test.YtjdhdmljchnidaaRefPut
import Derived.Test.YtjdhdmljchnidaaSpoiled
namespace Go.Proofs.Ytjdhdmljchnidaa
open Go.RowKit
set_option linter.unusedVariables false
set_option linter.unusedSimpArgs false
attribute [local go_sem ↓] Go.wp_at_zero Go.wp_at_succ
/-- What Put leaves. -/
def PutE (P B : Nat) (v : Value) (n : N) (xs : List X) (d : Dat) (w : World) (e : Ending) (w' : World) : Prop :=
  ∃ (f' : Fr) (v2 : Value) (a b lo hi : Nat), e = .returned (.tuple #[(n.out f').val, .bool n.full, .int .i64 0]) ∧ Turn B v v2 w w' ∧ Nt P B v2 (n.put f') w' ∧ Bx P P (putX n.full xs ⟨d, a, b⟩) (n.put f').l w' ∧
    Deep P lo hi (outX n.full xs d) (n.out f') w' ∧ Off lo hi (putX n.full xs ⟨d, a, b⟩) ∧ P ≤ lo ∧ hi ≤ w'.heap.size ∧ (∀ l0 h0, h0 ≤ w.heap.size → Off l0 h0 xs → Off l0 h0 (putX n.full xs ⟨d, a, b⟩) ∧ (hi ≤ l0 ∨ h0 ≤ lo))
theorem put_deep2 (P B : Nat) (v : Value) (n : N) (xs : List X) (d : Dat) {lo hi : Nat} (f : Fr) (w : World) (hN : Nt P B v n w) (hX : Bx P P xs n.l w) (hf : Deep P lo hi d f w) (hP : P ≤ w.heap.size) :
    Calls Try.prog 11 #[.pointer (some ⟨B, 0, none⟩), f.val] w (PutE P B v n xs d w) := by
  have ho : OwnOf B v w f (fun f' a b => Deep P a.heap.size b.heap.size d f' b) := fun v1 a hT _ =>
    (own_deep f a (hf.turn hT hN) (Nat.le_trans hP hT.size)).mono fun e b ⟨f', he, hD, hb⟩ => ⟨f', he, hb, hD⟩
  have hcall : Calls Try.prog 11 #[.pointer (some ⟨B, 0, none⟩), f.val] w (PutOut P B v n (fun f' a b => Deep P a.heap.size b.heap.size d f' b) w) := by
    obtain ⟨k, fa, fi, ta, ti, n', tk, ba, bi, ⟨a1, n1, c1⟩, ⟨a2, n2, c2⟩, ⟨a3, n3, c3⟩, ⟨a4, n4, c4⟩, ⟨a5, n5, c5⟩⟩ := f
    exact put_any P B v n k fa fi ta ti n' tk ba bi a1 a2 a3 a4 a5 n1 c1 n2 c2 n3 c3 n4 c4 n5 c5 _ w hN ho
  refine hcall.mono ?_
  rintro e w' ⟨f', v2, a, b, rfl, hQ, hT, hN2, hs1, hs2, hs3, hkeep, -⟩
  have hD : Deep P a.heap.size b.heap.size d f' w' := hQ.same hs3 fun k h1 h2 _ _ => hkeep k h1 h2
  have hX2 := hX.turn hT hN
  have hXa : ∀ x ∈ xs, x.hi ≤ a.heap.size := fun x hx => Nat.le_trans (hX.hi x hx) hs1
  have hPa : P ≤ a.heap.size := Nat.le_trans hP hs1
  have hfst := hX.first
  cases hfull : n.full
  · obtain ⟨e1, e2⟩ := N.put_free hfull f'
    refine ⟨f', v2, a.heap.size, b.heap.size, w'.heap.size, w'.heap.size, by rw [hfull], hT, hN2, ?_, ?_, ?_, Nat.le_trans hPa (Nat.le_trans hs2 hs3), Nat.le_refl _, ?_⟩
    · rw [e1]
      simp only [putX, hfull, Bool.false_eq_true, if_false]
      exact hX2.snoc hD hXa hPa hs3
    · rw [e2]
      simp only [outX, hfull, Bool.false_eq_true, if_false]
      exact Deep.zero _ _ _ _
    · intro x hx
      simp only [putX, hfull, Bool.false_eq_true, if_false, List.mem_append, List.mem_singleton] at hx
      rcases hx with hx | rfl
      · exact .inl (hX2.hi x hx)
      · exact .inl hs3
    · intro l0 h0 hh ho
      have hTs := hT.size
      refine ⟨fun x hx => ?_, .inr (Nat.le_trans hh hTs)⟩
      simp only [putX, hfull, Bool.false_eq_true, if_false, List.mem_append, List.mem_singleton] at hx
      rcases hx with hx | rfl
      · exact ho x hx
      · exact .inr (Nat.le_trans hh hs1)
  · cases hq : Go.Proofs.Ytjdhdmljchnidaa.first n.l with
    | none =>
      obtain ⟨e1, e2⟩ := N.put_none hfull hq f'
      rw [hq] at hfst
      refine ⟨f', v2, a.heap.size, b.heap.size, a.heap.size, b.heap.size, by rw [hfull], hT, hN2, ?_, ?_, ?_, hPa, hs3, ?_⟩
      · rw [e1]
        simp only [putX, hfull, ← hfst, if_true]
        exact hX2
      · rw [e2]
        simp only [outX, hfull, ← hfst, if_true]
        exact hD
      · intro x hx
        simp only [putX, hfull, ← hfst, if_true] at hx
        exact .inl (hXa x hx)
      · intro l0 h0 hh ho
        refine ⟨fun x hx => ?_, .inr (Nat.le_trans hh hs1)⟩
        simp only [putX, hfull, ← hfst, if_true] at hx
        exact ho x hx
    | some p =>
      obtain ⟨hp, -⟩ := first_some hq
      obtain ⟨e1, e2⟩ := N.put_some hfull hq hp f'
      rw [hq] at hfst
      have hpx : p < xs.length := by rw [← hX.len]; exact hp
      have hE := hX2.erase p
      refine ⟨f', v2, a.heap.size, b.heap.size, xs[p].lo, xs[p].hi, by rw [hfull], hT, hN2, ?_, ?_, ?_, hX.lo _ (List.getElem_mem hpx), hX2.hi _ (List.getElem_mem hpx), ?_⟩
      · rw [e1]
        simp only [putX, hfull, ← hfst, if_true]
        exact hE.snoc hD (fun x hx => hXa x (List.mem_of_mem_eraseIdx hx)) hPa hs3
      · rw [e2]
        simp only [outX, hfull, ← hfst, if_true]
        have : (xs.map (·.d)).getD p .zero = xs[p].d := by simp [List.getD, hpx]
        rw [this]
        exact hX2.at_ p hp hpx
      · intro x hx
        simp only [putX, hfull, ← hfst, if_true, List.mem_append, List.mem_singleton] at hx
        rcases hx with hx | rfl
        · exact hX.off p hpx x hx
        · exact .inr (hXa _ (List.getElem_mem hpx))
      · intro l0 h0 hh ho
        refine ⟨fun x hx => ?_, ho _ (List.getElem_mem hpx)⟩
        simp only [putX, hfull, ← hfst, if_true, List.mem_append, List.mem_singleton] at hx
        rcases hx with hx | rfl
        · exact ho x (List.mem_of_mem_eraseIdx hx)
        · exact .inr (Nat.le_trans hh hs1)
/-- What Take leaves. -/
def TakeE (P B : Nat) (v : Value) (n : N) (xs : List X) (w : World) (e : Ending) (w' : World) : Prop :=
  ∃ (v2 : Value) (lo hi : Nat), e = .returned (.tuple #[n.head.val, .bool n.any]) ∧ Turn B v v2 w w' ∧ Nt P B v2 n.take w' ∧ Bx P P xs.tail n.take.l w' ∧ Deep P lo hi (headX xs) n.head w' ∧ Off lo hi xs.tail ∧ P ≤ lo ∧ hi ≤ w'.heap.size ∧ (∀ q, q ≤ w.heap.size → (∀ x ∈ xs, q ≤ x.lo) → q ≤ lo)
theorem take_deep2 (P B : Nat) (v : Value) (n : N) (xs : List X) (w : World) (hN : Nt P B v n w) (hX : Bx P P xs n.l w) : Calls Try.prog 14 #[.pointer (some ⟨B, 0, none⟩)] w (TakeE P B v n xs w) := by
  cases hs : n.any
  · have hl : n.l = [] := by simpa [N.any] using hs
    have hx : xs = [] := List.eq_nil_of_length_eq_zero (by rw [← hX.len, hl]; rfl)
    refine (take_none P B v n w hN hs).mono ?_
    rintro e w' ⟨rfl, hb⟩
    have h1 : n.head = .zero := by simp [N.head, hl]
    have h2 : n.take = n := by cases n; simp only [N.take] at hl ⊢; rw [hl]; rfl
    have hB := hN.lt
    have hpB := hN.pB
    refine ⟨v, w'.heap.size, w'.heap.size, by rw [h1, hs], Turn.of_below hb, by rw [h2]; exact hN.kept hb, ?_, ?_, ?_, by have := hb.size; omega, Nat.le_refl _, fun q hq _ => Nat.le_trans hq hb.size⟩
    · rw [h2, hx]
      have := hX.below hb
      rw [hx] at this
      exact this
    · rw [h1, hx]
      exact Deep.zero _ _ _ _
    · rw [hx]
      intro x hx
      simp at hx
  · have hl : n.l ≠ [] := by simpa [N.any] using hs
    have h0 : 0 < n.l.length := List.length_pos_iff.2 hl
    have h0x : 0 < xs.length := by rw [← hX.len]; exact h0
    refine (take_some P B v n w hN hs).mono ?_
    rintro e w' ⟨rfl, v2, hN2, hT⟩
    have hX2 := hX.turn hT hN
    have hh : n.head = n.l[0] := head_eq n.l h0
    have hd : headX xs = xs[0].d := by
      cases xs with
      | nil => simp at h0x
      | cons a l => rfl
    refine ⟨v2, xs[0].lo, xs[0].hi, by rw [hs], hT, hN2, hX2.tail, ?_, ?_, hX.lo _ (List.getElem_mem h0x), hX2.hi _ (List.getElem_mem h0x), fun q _ h => h _ (List.getElem_mem h0x)⟩
    · rw [hh, hd]
      exact hX2.at_ 0 h0 h0x
    · have := hX.off 0 h0x
      simpa using this
/-! ### What keeps the document's box -/
theorem Rd.same3 {α : Type} {E : El α} {P lo hi : Nat} {a : Option Addr} {n c : Nat} {l : List α} {w w' : World} (h : Rd E P lo hi ⟨a, n, c⟩ l w) (hs : w.heap.size ≤ w'.heap.size)
    (hb : 0 < l.length → ∀ b o, a = some ⟨b, o, none⟩ → b < w.heap.size → (b < P ∨ Of E.e b w) → w'.heap[b]? = w.heap[b]?) : Rd E P lo hi ⟨a, n, c⟩ l w' := by
  refine ⟨h.n, h.le, h.c, h.nil, fun hl => ?_⟩
  obtain ⟨b, o, e, h1, h2, h3, h4, h5⟩ := h.at_ hl
  have hk := hb hl b o e h3 h4
  exact ⟨b, o, e, h1, h2, Nat.lt_of_lt_of_le h3 hs, h4.imp id (fun ⟨cur, hc⟩ => ⟨cur, hk.trans hc⟩), fun j u hj => (World.cell?_of_block (a := ⟨b, o + j, none⟩) hk).trans (h5 j u hj)⟩
section
variable {P B R lo hi : Nat} {m : Int} {v v' rv rv2 : Value} {n n' : N} {xs xs' : List X} {rl rl2 : List Fr} {ds ds2 : List Dat} {W w w1 w' : World}
theorem RB.nest (h : RB P R m rv rl ds w) : ¬ (R < P ∨ Nest R w) := by
  rintro (h1 | h1)
  · have := h.pR; omega
  · have hh := h.here
    rcases h1 with ⟨c, h⟩ | ⟨c, h⟩ | ⟨c, h⟩ | ⟨c, h⟩ <;> (rw [h] at hh; simp at hh)
theorem RB.slt (h : RB P R m rv rl ds w) (hl : rl ≠ []) : ∀ g, rv.ownBlock = some g → g < w.heap.size ∧ (g < P ∨ Of 38 g w) := by
  intro g hg
  obtain ⟨a, n, c, rfl, hR⟩ := h.rd
  obtain ⟨b, o, e, -, -, h3, h4, -⟩ := hR.at_ (List.length_pos_iff.2 hl)
  simp only at e
  subst e
  have e : b = g := by simpa [Value.ownBlock] using hg
  subst e
  exact ⟨h3, h4⟩
theorem RB.same3 (h : RB P R m rv rl ds w) (hs : w.heap.size ≤ w'.heap.size) (hb : ∀ k, k < w.heap.size → (k < P ∨ k = R) → w'.heap[k]? = w.heap[k]?)
    (hv : rl ≠ [] → ∀ g, rv.ownBlock = some g → g < w.heap.size → (g < P ∨ Of 38 g w) → w'.heap[g]? = w.heap[g]?) : RB P R m rv rl ds w' := by
  obtain ⟨a, n, c, e, hR⟩ := h.rd
  have hlt := h.lt
  refine ⟨(hb R hlt (.inr rfl)).trans h.here, ⟨a, n, c, e, (hR.same3 hs fun hl b o e2 h3 h4 => hv (List.length_pos_iff.1 hl) b ?_ h3 h4).wide (Nat.le_refl _) hs⟩, h.len, fun j h1 h2 => (h.at_ j h1 h2).same hs fun k _ hk hk2 _ => hb k hk2 (.inl hk), h.pR, h.m1, h.m2, h.le⟩
  rw [e, e2]
  rfl
theorem Nt.tag (h : Nt P B v n w) : ∀ g, v.ownBlock = some g → Of 38 g w := by
  intro g hg
  rcases h.row.2 with ⟨e, -⟩ | ⟨q, cap, cur, rfl, -, hq, -⟩
  · rw [e] at hg; cases hg
  · have e : q = g := by simpa [Value.ownBlock] using hg
    subst e
    exact ⟨_, hq⟩
theorem RB.other (h : RB P R m rv rl ds w) (hN : Nt P B v n w) : R ≠ B ∧ v.ownBlock ≠ some R := by
  refine ⟨fun e => ?_, fun e => ?_⟩
  · have h1 := h.here
    rw [e, hN.here] at h1
    simp at h1
  · obtain ⟨c, hc⟩ := hN.tag R e
    have h1 := h.here
    rw [hc] at h1
    simp at h1
theorem RB.turn (h : RB P R m rv rl ds w) (hN : Nt P B v n w) (ha : rl ≠ [] → Away rv v) (hT : Turn B v v' w w') : RB P R m rv rl ds w' := by
  obtain ⟨h1, h2⟩ := h.other hN
  refine h.same3 hT.size (fun k hk hp => ?_) fun hl g hg hlt ho => hT.block g hlt (fun e => ?_) (ha hl g hg)
  · rcases hp with hp | rfl
    · exact hT.nest hN hk (.inl hp)
    · exact hT.block k hk h1 h2
  · subst e
    rcases ho with ho | ⟨c, hc⟩
    · have := hN.pB; omega
    · have hh := hN.here
      rw [hc] at hh
      simp at hh
theorem RB.away (h : RB P R m rv rl ds w) (ha : rl ≠ [] → Away rv v) (hT : Turn B v v' w w') : rl ≠ [] → Away rv v' := by
  intro hl g hg e
  rcases hT.own g e with e | e
  · exact ha hl g hg e
  · have := (h.slt hl g hg).1; omega
theorem RB.over (h : RB P R m rv rl ds w) (ho : Over lo hi w w') (hlo : P ≤ lo) : RB P R m rv rl ds w' := by
  refine h.same ho.size fun k hk hp => ho.block k hk ?_
  rintro ⟨h1, h2, h3⟩
  rcases hp with hp | rfl | ⟨c, hc⟩
  · omega
  · exact h.nest (.inr h3)
  · rcases h3 with ⟨c2, h⟩ | ⟨c2, h⟩ | ⟨c2, h⟩ | ⟨c2, h⟩ <;> (rw [h] at hc; simp at hc)
theorem RB.frs (h : RB P R m rv rl ds w) : ∃ s : SL, rv = s.val ∧ Frs P P w.heap.size s rl ds w := by
  obtain ⟨a, n, c, e, hR⟩ := h.rd
  exact ⟨⟨a, n, c⟩, e, hR, h.len, fun j h1 h2 => ⟨_, _, h.at_ j h1 h2⟩⟩
/-! ### What keeps the box -/
theorem Kept.below (hk : Kept R w w') (hR : P ≤ R) (hP : P ≤ w.heap.size) : Below P w w' := ⟨hk.os, hk.tape, hk.output, hk.size, fun k h1 => hk.block k (by omega) (by omega)⟩
theorem Nt.keptR (h : Nt P B v n w) (hR : RB P R m rv rl ds w) (hk : Kept R w w') : Nt P B v n w' := by
  obtain ⟨h1, h2⟩ := hR.other h
  refine ⟨(hk.block _ h.lt (Ne.symm h1)).trans h.here, ⟨h.row.1, ?_⟩, h.ne, h.ok, h.pB⟩
  rcases h.row.2 with hn | ⟨g, cap, cur, rfl, hb, hgg, rest⟩
  · exact .inl hn
  · refine .inr ⟨g, cap, cur, rfl, hb, (hk.block _ (Array.getElem?_eq_some_iff.1 hgg).1 (fun e => h2 (by rw [← e]; rfl))).trans hgg, rest⟩
theorem Deep.keptR {d : Dat} {f : Fr} (h : Deep P lo hi d f w) (hR : RB P R m rv rl ds w) (hk : Kept R w w') : Deep P lo hi d f w' :=
  h.same hk.size fun k _ _ h3 h4 => hk.block k h3 (fun e => hR.nest (e ▸ h4))
theorem Bx.keptR {base : Nat} {l : List Fr} (h : Bx P base xs l w) (hR : RB P R m rv rl ds w) (hk : Kept R w w') : Bx P base xs l w' :=
  h.same hk.size fun k _ h3 h4 => hk.block k h3 (fun e => hR.nest (e ▸ h4))
theorem One.keptR (h : One P B v n xs W w) (hR : RB P R m rv rl ds w) (hk : Kept R w w') : One P B v n xs W w' :=
  ⟨h.nt.keptR hR hk, h.bx.keptR hR hk, h.below.trans (hk.below hR.pR h.size), h.pw⟩
theorem Over.below (ho : Over lo hi w w') (hP : P ≤ lo) (hw : P ≤ w.heap.size) : Below P w w' := ⟨ho.os, ho.tape, ho.output, ho.size, fun k h1 => ho.block k (by omega) (by omega)⟩
theorem One.over (h : One P B v n xs W w) (ho : Over lo hi w w') (hlo : P ≤ lo) (hoff : Off lo hi xs) : One P B v n xs W w' :=
  ⟨h.nt.over ho, h.bx.over ho hoff, h.below.trans (ho.below hlo h.size), h.pw⟩
theorem Over.trans {lo2 hi2 : Nat} (h : Over lo hi w w1) (g : Over lo2 hi2 w1 w') (h1 : lo ≤ lo2) (h2 : hi2 ≤ hi) : Over lo hi w w' := by
  refine ⟨g.os.trans h.os, g.tape.trans h.tape, g.output.trans h.output, Nat.le_trans h.size g.size, fun k hk hn => ?_, fun k hk e he => g.tag k (Nat.lt_of_lt_of_le hk h.size) e (h.tag k hk e he)⟩
  have e1 := h.block k hk hn
  refine (g.block k (Nat.lt_of_lt_of_le hk h.size) ?_).trans e1
  rintro ⟨a1, a2, a3⟩
  exact hn ⟨by omega, by omega, by
    rcases a3 with ⟨c, a3⟩ | ⟨c, a3⟩ | ⟨c, a3⟩ | ⟨c, a3⟩
    · exact .inl ⟨c, e1 ▸ a3⟩
    · exact .inr (.inl ⟨c, e1 ▸ a3⟩)
    · exact .inr (.inr (.inl ⟨c, e1 ▸ a3⟩))
    · exact .inr (.inr (.inr ⟨c, e1 ▸ a3⟩))⟩
/-- The box, and the document's beside it: the same frames wait. -/
structure Two (P B : Nat) (v : Value) (n : N) (xs : List X) (R : Nat) (rv : Value) (rl : List Fr) (W w : World) : Prop where
  one : One P B v n xs W w
  rb : RB P R n.max rv rl (xs.map (·.d)) w
  away : rl ≠ [] → Away rv v
theorem Two.kept (h : Two P B v n xs R rv rl W w) (hb : Below w.heap.size w w') : Two P B v n xs R rv rl W w' := ⟨h.one.kept hb, h.rb.below hb, h.away⟩
theorem Two.over (h : Two P B v n xs R rv rl W w) (ho : Over lo hi w w') (hlo : P ≤ lo) (hoff : Off lo hi xs) : Two P B v n xs R rv rl W w' := ⟨h.one.over ho hlo hoff, h.rb.over ho hlo, h.away⟩
theorem Two.len (h : Two P B v n xs R rv rl W w) : rl.length = n.l.length := by
  have h1 := h.rb.len
  have h2 := h.one.bx.len
  simp only [List.length_map] at h1
  omega
/-- Both have turned. -/
theorem Two.turn (h1 : One P B v' n' xs' W w1) (hR : RB P R m rv rl ds w1) (ha : rl ≠ [] → Away rv v') (hm : n'.max = m) (hd : xs'.map (·.d) = ds2) (hp : RB P R m rv2 rl2 ds2 w') (hk : Kept R w1 w') (hf : (rv2 = rv ∧ rl2 = rl) ∨ Fresh rl2 rv2 w1.heap.size) : Two P B v' n' xs' R rv2 rl2 W w' := by
  refine ⟨h1.keptR hR hk, by rw [hm, hd]; exact hp, fun hl => ?_⟩
  rcases hf with ⟨rfl, rfl⟩ | hf
  · exact ha hl
  · exact fun g hg e => by
      have := hf hl g hg
      have := (h1.nt.vlt g e).2
      omega
theorem Over.belowQ {q : Nat} (ho : Over lo hi w w') (hq : q ≤ lo) (hw : q ≤ w.heap.size) : Below q w w' := ⟨ho.os, ho.tape, ho.output, ho.size, fun k h1 => ho.block k (by omega) (by omega)⟩
theorem Rd.over {lo2 hi2 : Nat} {s : SL} {l : List Fr} (h : Rd elF P lo2 hi2 s l w) (ho : Over lo hi w w') (hP : P ≤ lo) : Rd elF P lo2 hi2 s l w' :=
  h.same ho.size fun k _ _ h3 h4 => ho.block k h3 (by
    rintro ⟨a1, a2, a3⟩
    rcases h4 with h4 | ⟨c, h4⟩
    · omega
    · rcases a3 with ⟨c2, h⟩ | ⟨c2, h⟩ | ⟨c2, h⟩ | ⟨c2, h⟩ <;> (rw [h] at h4; simp [elF] at h4))
theorem row_over {q : Nat} {c : Array Value} (h : w.heap[q]? = some (.cells c 38 (0, 0))) (ho : Over lo hi w w') : w'.heap[q]? = some (.cells c 38 (0, 0)) :=
  (ho.block q (Array.getElem?_eq_some_iff.1 h).1 (by
    rintro ⟨a1, a2, a3⟩
    rcases a3 with ⟨c2, a3⟩ | ⟨c2, a3⟩ | ⟨c2, a3⟩ | ⟨c2, a3⟩ <;> (rw [a3] at h; simp at h))).trans h
theorem row_keptR {q : Nat} {c : Array Value} (h : w.heap[q]? = some (.cells c 38 (0, 0))) (hR : RB P R m rv rl ds w) (hk : Kept R w w') : w'.heap[q]? = some (.cells c 38 (0, 0)) :=
  (hk.block q (Array.getElem?_eq_some_iff.1 h).1 (fun e => by
    have hh := hR.here
    rw [← e, h] at hh
    simp at hh)).trans h
theorem row_turn {q : Nat} {c : Array Value} (h : w.heap[q]? = some (.cells c 38 (0, 0))) (hT : Turn B v v' w w') (hN : Nt P B v n w) (hq : v.ownBlock ≠ some q) : w'.heap[q]? = some (.cells c 38 (0, 0)) :=
  (hT.block q (Array.getElem?_eq_some_iff.1 h).1 (fun e => by
    have hh := hN.here
    rw [← e, h] at hh
    simp at hh) hq).trans h
theorem RB.clear (h : RB P R m rv rl ds w) : RB P R m (.slice none 0 0) [] [] (w.setCell ⟨R, 1, none⟩ (.slice none 0 0)) ∧ Kept R w (w.setCell ⟨R, 1, none⟩ (.slice none 0 0)) :=
  ⟨RB.set h (Below.refl _ _) (Rd.empty _ _ _ _ _) rfl (fun j h => by simp at h) (by have := h.m1; simp; omega), ⟨rfl, rfl, rfl, by simp [World.setCell], fun k hk hR => Below.heap_setCell _ _ _ _ (by simp only; omega)⟩⟩
theorem RB.head (h : RB P R m rv rl ds w) : Deep P 0 P (ds.headD .zero) (rl.headD .zero) w := by
  have hl := h.len
  cases rl with
  | nil =>
    have e : ds = [] := List.eq_nil_of_length_eq_zero hl.symm
    subst e
    exact Deep.zero _ _ _ _
  | cons f l =>
    cases ds with
    | nil => simp at hl
    | cons d ds => exact h.at_ 0 (by simp) (by simp)
/-- A step that puts: what came in, what comes out. -/
structure Put0 (P B : Nat) (v : Value) (n : N) (xs : List X) (R : Nat) (m : Int) (rv : Value) (rl : List Fr) (ds : List Dat) (W : World) (qi qo : Nat) (fi g : Fr) (di dg : Dat) (li hi lo ho : Nat) (w : World) : Prop where
  one : One P B v n xs W w
  rb : RB P R m rv rl ds w
  away : rl ≠ [] → Away rv v
  inr : w.heap[qi]? = some (.cells fi.cells 38 (0, 0))
  inD : Deep P li hi di fi w
  outr : w.heap[qo]? = some (.cells g.cells 38 (0, 0))
  outD : Deep P lo ho dg g w
  hi : hi ≤ w.heap.size
  ho : ho ≤ w.heap.size
theorem Put0.kept {ds : List Dat} {qi qo li h lo ho : Nat} {fi g : Fr} {di dg : Dat} (p : Put0 P B v n xs R m rv rl ds W qi qo fi g di dg li h lo ho w) (hb : Below w.heap.size w w') : Put0 P B v n xs R m rv rl ds W qi qo fi g di dg li h lo ho w' :=
  ⟨p.one.kept hb, p.rb.below hb, p.away, (hb.block _ (Array.getElem?_eq_some_iff.1 p.inr).1).trans p.inr, p.inD.below hb, (hb.block _ (Array.getElem?_eq_some_iff.1 p.outr).1).trans p.outr, p.outD.below hb, Nat.le_trans p.hi hb.size, Nat.le_trans p.ho hb.size⟩
/-- Behind the document's Put. -/
structure Put1 (P B : Nat) (v : Value) (n : N) (xs : List X) (R : Nat) (rv : Value) (rl : List Fr) (W : World) (qi qo : Nat) (fi g : Fr) (di dg : Dat) (li hi lo ho : Nat) (w : World) : Prop where
  two : Two P B v n xs R rv rl W w
  inr : w.heap[qi]? = some (.cells fi.cells 38 (0, 0))
  inD : Deep P li hi di fi w
  outr : w.heap[qo]? = some (.cells g.cells 38 (0, 0))
  outD : Deep P lo ho dg g w
  hi : hi ≤ w.heap.size
  ho : ho ≤ w.heap.size
theorem Put1.kept {qi qo li h lo ho : Nat} {fi g : Fr} {di dg : Dat} (p : Put1 P B v n xs R rv rl W qi qo fi g di dg li h lo ho w) (hb : Below w.heap.size w w') : Put1 P B v n xs R rv rl W qi qo fi g di dg li h lo ho w' :=
  ⟨p.two.kept hb, (hb.block _ (Array.getElem?_eq_some_iff.1 p.inr).1).trans p.inr, p.inD.below hb, (hb.block _ (Array.getElem?_eq_some_iff.1 p.outr).1).trans p.outr, p.outD.below hb, Nat.le_trans p.hi hb.size, Nat.le_trans p.ho hb.size⟩
theorem Put0.next {ds ds2 : List Dat} {qi qo li h lo ho : Nat} {fi g : Fr} {di dg : Dat} (p : Put0 P B v n xs R m rv rl ds W qi qo fi g di dg li h lo ho w) (hm : n.max = m) (hd : xs.map (·.d) = ds2) (hp : RB P R m rv2 rl2 ds2 w') (hk : Kept R w w') (hf : (rv2 = rv ∧ rl2 = rl) ∨ Fresh rl2 rv2 w.heap.size) : Put1 P B v n xs R rv2 rl2 W qi qo fi g di dg li h lo ho w' :=
  ⟨Two.turn p.one p.rb p.away hm hd hp hk hf, row_keptR p.inr p.rb hk, p.inD.keptR p.rb hk, row_keptR p.outr p.rb hk, p.outD.keptR p.rb hk, Nat.le_trans p.hi hk.size, Nat.le_trans p.ho hk.size⟩
/-- What came in is written over. -/
theorem Put1.spoil {qi qo li h lo ho : Nat} {fi g : Fr} {di dg : Dat} (p : Put1 P B v n xs R rv rl W qi qo fi g di dg li h lo ho w) (hs : Over li h w w') (hl : P ≤ li) (hoff : Off li h xs) (hio : ho ≤ li ∨ h ≤ lo) : Two P B v n xs R rv rl W w' ∧ w'.heap[qo]? = some (.cells g.cells 38 (0, 0)) ∧ Deep P lo ho dg g w' :=
  ⟨p.two.over hs hl hoff, row_over p.outr hs, p.outD.over hs hio⟩
/-- The box's own list, and the document's. -/
theorem lists_doc {b1 : Nat} {v1 : Value} {o1 : List Fr} {y1 : List X} (h1 : Hl P b1 v1 o1 y1 w) (h2 : RB P R m rv rl ds w) (hd : y1.map (·.d) = ds) (hl : ds.length ≤ 100000) :
    Calls Try.prog 18 #[v1, rv] w fun e w' => e = .returned (.bool true) ∧ Below w.heap.size w w' := by
  obtain ⟨s1, lo1, hi1, rfl, f1⟩ := h1.frs
  obtain ⟨s2, rfl, f2⟩ := h2.frs
  rw [← hd] at f2
  exact frames_same s1 s2 o1 rl _ w f1 f2 (by rw [hd]; exact hl)
theorem Hl.rd {b1 : Nat} {a : Option Addr} {len c : Nat} {out : List Fr} {ys : List X} (h : Hl P b1 (.slice a len c) out ys w) : Rd elF P b1 w.heap.size ⟨a, len, c⟩ out w := by
  have hr := h.row
  rw [← elF_rows] at hr
  obtain ⟨a', c', e, hR⟩ := rd_of_row (E := elF) (P := P) hr
  simp only [Value.slice.injEq] at e
  obtain ⟨rfl, rfl, rfl⟩ := e
  exact hR
/-- The frames from place k on read as they did. -/
def Rest (P : Nat) (k : Nat) (out : List Fr) (ys : List X) (w : World) : Prop := ∀ j, k ≤ j → ∀ (h1 : j < out.length) (h2 : j < ys.length), Deep P ys[j].lo ys[j].hi ys[j].d out[j] w
theorem Rest.next {base k : Nat} {out : List Fr} {ys : List X} {w0 : World} (h : Rest P k out ys w) (hB : Bx P base ys out w0) (hk : k < ys.length) (ho : Over ys[k].lo ys[k].hi w w') : Rest P (k + 1) out ys w' := fun j hj h1 h2 =>
  (h j (by omega) h1 h2).over ho (.inr (List.pairwise_iff_getElem.1 hB.ord k j hk h2 (by omega)))
end
/-! ### The calls of a step -/
/-- What comes in lies in memory of its own. -/
structure In0 (P B : Nat) (v : Value) (n : N) (xs : List X) (R : Nat) (m : Int) (rv : Value) (rl : List Fr) (W : World) (q : Nat) (fi : Fr) (d : Dat) (li hi : Nat) (w : World) : Prop where
  two : Two P B v n xs R rv rl W w
  max : n.max = m
  inr : w.heap[q]? = some (.cells fi.cells 38 (0, 0))
  inD : Deep P li hi d fi w
  off : Off li hi xs
  hi : hi ≤ w.heap.size
  lo : P ≤ li
  own : v.ownBlock ≠ some q
section
variable {P B R lo hi : Nat} {m : Int} {v v' rv rv2 : Value} {n n' : N} {xs xs' : List X} {rl rl2 : List Fr} {ds ds2 : List Dat} {W w w1 w' : World}
theorem In0.of {d : Dat} {fi : Fr} (h : Two P B v n xs R rv rl W w) (hm : n.max = m) (hD : Deep P w.heap.size w1.heap.size d fi w1) (hb : Below w.heap.size w w1) :
    In0 P B v n xs R m rv rl W w1.heap.size fi d w.heap.size w1.heap.size (w1.alloc (.cells fi.cells 38)) := by
  have hbA : Below w1.heap.size w1 (w1.alloc (.cells fi.cells 38)) := (Below.refl _ _).alloc (Nat.le_refl _) _
  have hs := hb.size
  exact ⟨h.kept (hb.trans (hbA.mono hb.size)), hm, heap_alloc_new _ _, hD.below hbA, fun x hx => .inl (h.one.bx.hi x hx), hbA.size, h.one.size, fun e => by
    have := (h.one.nt.vlt _ e).2
    omega⟩
/-- What Put leaves: the frame that came out lies at the heap's end next. -/
def PutTwo (P B R : Nat) (m : Int) (xs : List X) (rv : Value) (rl : List Fr) (W : World) (q : Nat) (fi : Fr) (d : Dat) (li hi : Nat) (e : Ending) (w' : World) : Prop :=
  ∃ (v2 : Value) (n2 : N) (xs2 : List X) (g : Fr) (lo2 hi2 : Nat) (bf : Bool), e = .returned (.tuple #[g.val, .bool bf, .int .i64 0]) ∧ Hid (bf = decide (((xs.map (·.d)).length : Int) = m)) ∧
    Hid (Put0 P B v2 n2 xs2 R m rv rl (xs.map (·.d)) W q w'.heap.size fi g d (outT m (xs.map (·.d)) d) li hi lo2 hi2 (w'.alloc (.cells g.cells 38))) ∧
    Hid (n2.max = m ∧ xs2.map (·.d) = putT m (xs.map (·.d)) d ∧ Off li hi xs2 ∧ Off lo2 hi2 xs2 ∧ P ≤ li ∧ P ≤ lo2 ∧ (hi2 ≤ li ∨ hi ≤ lo2))
theorem put_two {q li : Nat} {fi : Fr} {d : Dat} (p : In0 P B v n xs R m rv rl W q fi d li hi w) : Calls Try.prog 11 #[.pointer (some ⟨B, 0, none⟩), fi.val] w (PutTwo P B R m xs rv rl W q fi d li hi) := by
  refine (put_deep2 P B v n xs d fi w p.two.one.nt p.two.one.bx p.inD p.two.one.size).mono ?_
  rintro e w6 ⟨f', v2, a', b', lo2, hi2, rfl, hT, hN, hX, hDo, hOf, hPl, hhi, hAp⟩
  obtain ⟨hOi, hio⟩ := hAp li hi p.hi p.off
  have hfull : n.full = decide ((xs.length : Int) = m) := by rw [p.two.one.bx.full (B := B), p.max]
  have hdo : outX n.full xs d = outT m (xs.map (·.d)) d := by rw [hfull, outX_map]
  have hdx : (putX n.full xs ⟨d, a', b'⟩).map (·.d) = putT m (xs.map (·.d)) d := by rw [hfull, putX_map]
  have hmx := N.put_max n f'
  rw [hdo] at hDo
  have hbA : Below w6.heap.size w6 (w6.alloc (.cells (n.out f').cells 38)) := (Below.refl _ _).alloc (Nat.le_refl _) _
  have hR := p.two.rb
  rw [p.max] at hR
  refine ⟨v2, n.put f', _, n.out f', lo2, hi2, n.full, rfl, Lib.hid (by rw [hfull]; simp), Lib.hid ⟨(p.two.one.turn hT hN hX).kept hbA, (hR.turn p.two.one.nt p.two.away hT).below hbA, hR.away p.two.away hT, ?_, (p.inD.turn hT p.two.one.nt).below hbA, heap_alloc_new _ _, hDo.below hbA, ?_, ?_⟩, Lib.hid ⟨hmx.trans p.max, hdx, hOi, hOf, p.lo, hPl, hio⟩⟩
  · exact (hbA.block _ (Nat.lt_of_lt_of_le (Array.getElem?_eq_some_iff.1 p.inr).1 hT.size)).trans (row_turn p.inr hT p.two.one.nt p.own)
  · exact Nat.le_trans p.hi (Nat.le_trans hT.size hbA.size)
  · exact Nat.le_trans hhi hbA.size
theorem rput_two {qi qo li h lo2 ho : Nat} {fi g : Fr} {di : Dat} (f : Fr) (d : Dat) (bf : Bool) (p : Put0 P B v n xs R m rv rl ds W qi qo fi g di (outT m ds d) li h lo2 ho w) (hm : n.max = m) (hd : xs.map (·.d) = putT m ds d) (hf : Deep P 0 P d f w) (hbf : bf = decide ((ds.length : Int) = m)) :
    Calls Try.prog 25 #[.pointer (some ⟨R, 0, none⟩), .agg #[.int .u8 f.kind, .int .i64 f.fa, .int .i64 f.fi, .int .i64 f.ta, .int .i64 f.ti, .int .i64 f.n, .int .i64 f.token, .int .i64 f.ba, .int .i64 f.bi, .slice f.ms.a f.ms.n f.ms.c, .slice f.fs.a f.fs.n f.fs.c, .slice f.rs.a f.rs.n f.rs.c, .slice f.cs.a f.cs.n f.cs.c, .slice f.ss.a f.ss.n f.ss.c]] w fun e w' => ∃ (rv2 : Value) (rl2 : List Fr) (gw : Fr), e = .returned (.tuple #[gw.val, .bool bf]) ∧ Hid (Put1 P B v n xs R rv2 rl2 W qi qo fi g di (outT m ds d) li h lo2 ho w') ∧ Hid (Deep P 0 P (outT m ds d) gw w') := by
  refine (rput_any f d p.rb hf).mono ?_
  rintro e w' ⟨rv2, rl2, gw, rfl, hRB, hK, hDw, hfr⟩
  exact ⟨rv2, rl2, gw, by rw [hbf], Lib.hid (p.next hm hd hRB hK hfr), Lib.hid hDw⟩
/-- What Take leaves. -/
structure Took (P B : Nat) (v : Value) (n : N) (xs : List X) (R : Nat) (m : Int) (rv : Value) (rl : List Fr) (ds : List Dat) (W : World) (q : Nat) (g : Fr) (dg : Dat) (lo hi : Nat) (w : World) : Prop where
  one : One P B v n xs W w
  max : n.max = m
  rb : RB P R m rv rl ds w
  away : rl ≠ [] → Away rv v
  row : w.heap[q]? = some (.cells g.cells 38 (0, 0))
  deep : Deep P lo hi dg g w
theorem Took.kept {q : Nat} {g : Fr} {dg : Dat} (p : Took P B v n xs R m rv rl ds W q g dg lo hi w) (hb : Below w.heap.size w w') : Took P B v n xs R m rv rl ds W q g dg lo hi w' :=
  ⟨p.one.kept hb, p.max, p.rb.below hb, p.away, (hb.block _ (Array.getElem?_eq_some_iff.1 p.row).1).trans p.row, p.deep.below hb⟩
def TakeTwo (P B R : Nat) (m : Int) (xs : List X) (rv : Value) (rl : List Fr) (W : World) (e : Ending) (w' : World) : Prop :=
  ∃ (v2 : Value) (n2 : N) (g : Fr) (lo2 hi2 : Nat) (ba : Bool), e = .returned (.tuple #[g.val, .bool ba]) ∧ Hid (ba = decide (rl ≠ [])) ∧
    Hid (Took P B v2 n2 xs.tail R m rv rl (xs.map (·.d)) W w'.heap.size g ((xs.map (·.d)).headD .zero) lo2 hi2 (w'.alloc (.cells g.cells 38)))
theorem take_two (p : Two P B v n xs R rv rl W w) (hm : n.max = m) : Calls Try.prog 14 #[.pointer (some ⟨B, 0, none⟩)] w (TakeTwo P B R m xs rv rl W) := by
  refine (take_deep2 P B v n xs w p.one.nt p.one.bx).mono ?_
  rintro e w6 ⟨v2, lo2, hi2, rfl, hT, hN, hX, hDo, hPl, hhi, -⟩
  have hbA : Below w6.heap.size w6 (w6.alloc (.cells n.head.cells 38)) := (Below.refl _ _).alloc (Nat.le_refl _) _
  have hR := p.rb
  rw [hm] at hR
  have hl := p.len
  refine ⟨v2, n.take, n.head, lo2, hi2, n.any, rfl, Lib.hid ?_, Lib.hid ⟨(p.one.turn hT hN hX).kept hbA, hm, (hR.turn p.one.nt p.away hT).below hbA, hR.away p.away hT, heap_alloc_new _ _, hDo.below hbA⟩⟩
  unfold N.any
  have e : (n.l ≠ []) ↔ (rl ≠ []) := by
    rw [← List.length_pos_iff, ← List.length_pos_iff, hl]
  simp only [e]
theorem rtake_two {q : Nat} {g : Fr} {dg : Dat} (ba : Bool) (p : Took P B v n xs.tail R m rv rl (xs.map (·.d)) W q g dg lo hi w) (hba : ba = decide (rl ≠ [])) :
    Calls Try.prog 27 #[.pointer (some ⟨R, 0, none⟩)] w fun e w' => ∃ (rv2 : Value) (rl2 : List Fr) (gw : Fr), e = .returned (.tuple #[gw.val, .bool ba]) ∧ Hid (Two P B v n xs.tail R rv2 rl2 W w') ∧ Hid (w'.heap[q]? = some (.cells g.cells 38 (0, 0))) ∧ Hid (Deep P lo hi dg g w') ∧ Hid (Deep P 0 P ((xs.map (·.d)).headD .zero) gw w') := by
  refine (rtake_any p.rb).mono ?_
  rintro e w' ⟨rv2, rfl, hRB, hK, hfr⟩
  exact ⟨rv2, rl.tail, rl.headD .zero, by rw [hba], Lib.hid (Two.turn p.one p.rb p.away p.max (by rw [List.map_tail]) hRB hK (.inr hfr)), Lib.hid (row_keptR p.row p.rb hK), Lib.hid (p.deep.keptR p.rb hK), Lib.hid (hK.deep p.rb.pR p.rb.head)⟩
theorem clear_two (p : Two P B v n xs R rv rl W w) (hm : n.max = m) : Calls Try.prog 20 #[.pointer (some ⟨B, 0, none⟩)] w fun e w' => e = .returned (.tuple #[]) ∧ Hid (Two P B (.slice none 0 0) ⟨m, []⟩ [] R (.slice none 0 0) [] W (w'.setCell ⟨R, 1, none⟩ (.slice none 0 0))) ∧ w'.cell? ⟨R, 1, none⟩ = some rv ∧ w'.frozen? ⟨R, 1, none⟩ = false := by
  refine (clear_any P B v n w p.one.nt).mono ?_
  rintro e w6 ⟨rfl, hT, hN⟩
  have hR := p.rb.turn p.one.nt p.away hT
  have ho := p.one.turn hT hN (Bx.nil _ _ _)
  obtain ⟨h1, h2⟩ := hR.clear
  rw [hm] at ho h1
  exact ⟨rfl, Lib.hid ⟨ho.keptR hR h2, h1, fun h => absurd rfl h⟩, hR.reads.2, hR.free 1⟩
end
end Go.Proofs.Ytjdhdmljchnidaa
