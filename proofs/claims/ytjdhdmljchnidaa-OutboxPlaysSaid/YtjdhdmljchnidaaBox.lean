/-
  The box with all that its frames read: what each call makes of it.
-/
import Derived.Test.YtjdhdmljchnidaaInp2
namespace Go.Proofs.Ytjdhdmljchnidaa
open Go.RowKit
set_option linter.unusedVariables false
set_option linter.unusedSimpArgs false
attribute [local go_sem ↓] Go.wp_at_zero Go.wp_at_succ
section
variable {P B : Nat} {v v' : Value} {n : N} {w w' : World}
/-- What a call of the box leaves alone: what came in, and each list's block. -/
theorem Turn.nest (hT : Turn B v v' w w') (hN : Nt P B v n w) {k : Nat} (hk : k < w.heap.size) (h : k < P ∨ Nest k w) : w'.heap[k]? = w.heap[k]? := by
  refine hT.block k hk (fun e => ?_) (fun e => ?_)
  · subst e
    rcases h with h | h
    · have := hN.pB; omega
    · have hh := hN.here
      rcases h with ⟨c, h⟩ | ⟨c, h⟩ | ⟨c, h⟩ | ⟨c, h⟩ <;> (rw [h] at hh; simp at hh)
  · rcases h with h | h
    · have := (hN.vlt k e).1; omega
    · rcases hN.row.2 with ⟨hq, -⟩ | ⟨g, cap, cur, rfl, -, hg, -⟩
      · rw [hq] at e; cases e
      · have e : g = k := by simpa [Value.ownBlock] using e
        subst e
        rcases h with ⟨c, h⟩ | ⟨c, h⟩ | ⟨c, h⟩ | ⟨c, h⟩ <;> (rw [h] at hg; simp at hg)
theorem Deep.turn {lo hi : Nat} {d : Dat} {f : Fr} (h : Deep P lo hi d f w) (hT : Turn B v v' w w') (hN : Nt P B v n w) : Deep P lo hi d f w' := h.same hT.size fun k _ _ hk hn => hT.nest hN hk hn
theorem Bx.turn {base : Nat} {xs : List X} {l : List Fr} (h : Bx P base xs l w) (hT : Turn B v v' w w') (hN : Nt P B v n w) : Bx P base xs l w' := h.same hT.size fun k _ hk hn => hT.nest hN hk hn
end
/-! ### In plain words -/
def firstX (xs : List X) : Option Nat := xs.findIdx? fun x => x.d.known
def Dat.zero : Dat := ⟨0, 0, 0, 0, 0, 0, 0, 0, 0, [], [], [], [], []⟩
def putX (full : Bool) (xs : List X) (x : X) : List X := if full = true then (match firstX xs with | none => xs | some p => xs.eraseIdx p ++ [x]) else xs ++ [x]
def outX (full : Bool) (xs : List X) (d : Dat) : Dat := if full = true then (match firstX xs with | none => d | some p => (xs.map (·.d)).getD p .zero) else .zero
theorem Deep.zero (P lo hi : Nat) (w : World) : Deep P lo hi .zero .zero w :=
  ⟨rfl, rfl, rfl, rfl, rfl, rfl, rfl, rfl, rfl, Rd.empty _ _ _ _ _, Rd.empty _ _ _ _ _, Rws.empty _ _ _ _, Rd.empty _ _ _ _ _, Rd.empty _ _ _ _ _, by decide, by decide, by decide, by decide, by decide⟩
theorem Deep.known {P lo hi : Nat} {d : Dat} {f : Fr} {w : World} (h : Deep P lo hi d f w) : f.known = d.known := by
  unfold Fr.known Dat.known
  rw [h.kind]
theorem Bx.first {P base : Nat} {xs : List X} {l : List Fr} {w : World} (h : Bx P base xs l w) : first l = firstX xs := by
  have e : l.map Fr.known = xs.map fun x => x.d.known := by
    apply List.ext_getElem
    · simp [h.len]
    · intro j h1 h2
      simp only [List.getElem_map]
      exact (h.at_ j (by simpa using h1) (by simpa using h2)).known
  unfold Go.Proofs.Ytjdhdmljchnidaa.first firstX
  have e1 : l.findIdx? Fr.known = (l.map Fr.known).findIdx? id := by rw [List.findIdx?_map]; rfl
  have e2 : xs.findIdx? (fun x => x.d.known) = (xs.map fun x => x.d.known).findIdx? id := by rw [List.findIdx?_map]; rfl
  rw [e1, e2, e]
/-- The two lie apart. -/
def Off (lo hi : Nat) (xs : List X) : Prop := ∀ x ∈ xs, x.hi ≤ lo ∨ hi ≤ x.lo
theorem Bx.off {P base : Nat} {xs : List X} {l : List Fr} {w : World} (h : Bx P base xs l w) (p : Nat) (hp : p < xs.length) : Off xs[p].lo xs[p].hi (xs.eraseIdx p) := by
  intro x hx
  obtain ⟨j, hj, rfl⟩ := List.getElem_of_mem hx
  have hj' : j < xs.length := by simp only [List.length_eraseIdx, hp, if_pos] at hj; omega
  have ho := List.pairwise_iff_getElem.1 h.ord
  rw [List.getElem_eraseIdx]
  by_cases hjp : j < p
  · rw [dif_pos hjp]
    exact .inl (ho j p hj' hp hjp)
  · rw [dif_neg hjp]
    simp only [List.length_eraseIdx, hp, if_pos] at hj
    exact .inr (ho p (j + 1) hp (by omega) (by omega))
/-- What Put leaves. -/
def PutD (P B : Nat) (v : Value) (n : N) (xs : List X) (d : Dat) (w : World) (e : Ending) (w' : World) : Prop :=
  ∃ (f' : Fr) (v2 : Value) (a b lo hi : Nat), e = .returned (.tuple #[(n.out f').val, .bool n.full, .int .i64 0]) ∧ Turn B v v2 w w' ∧ Nt P B v2 (n.put f') w' ∧ Bx P P (putX n.full xs ⟨d, a, b⟩) (n.put f').l w' ∧
    Deep P lo hi (outX n.full xs d) (n.out f') w' ∧ Off lo hi (putX n.full xs ⟨d, a, b⟩) ∧ P ≤ lo ∧ hi ≤ w'.heap.size
theorem put_deep (P B : Nat) (v : Value) (n : N) (xs : List X) (d : Dat) {lo hi : Nat} (f : Fr) (w : World) (hN : Nt P B v n w) (hX : Bx P P xs n.l w) (hf : Deep P lo hi d f w) (hP : P ≤ w.heap.size) :
    Calls Try.prog 11 #[.pointer (some ⟨B, 0, none⟩), f.val] w (PutD P B v n xs d w) := by
  have ho : OwnOf B v w f (fun f' a b => Deep P a.heap.size b.heap.size d f' b) := fun v1 a hT _ =>
    (own_deep f a (hf.turn hT hN) (Nat.le_trans hP hT.size)).mono fun e b ⟨f', he, hD, hb⟩ => ⟨f', he, hb, hD⟩
  have hcall : Calls Try.prog 11 #[.pointer (some ⟨B, 0, none⟩), f.val] w (PutOut P B v n (fun f' a b => Deep P a.heap.size b.heap.size d f' b) w) := by
    obtain ⟨k, fa, fi, ta, ti, n', tk, ba, bi, ⟨a1, n1, c1⟩, ⟨a2, n2, c2⟩, ⟨a3, n3, c3⟩, ⟨a4, n4, c4⟩, ⟨a5, n5, c5⟩⟩ := f
    exact put_any P B v n k fa fi ta ti n' tk ba bi a1 a2 a3 a4 a5 n1 c1 n2 c2 n3 c3 n4 c4 n5 c5 _ w hN ho
  refine hcall.mono ?_
  rintro e w' ⟨f', v2, a, b, rfl, hQ, hT, hN2, hs1, hs2, hs3, hkeep, -⟩
  have hD : Deep P a.heap.size b.heap.size d f' w' := hQ.same hs3 fun k h1 h2 _ _ => hkeep k h1 h2
  have hX2 := hX.turn hT hN
  have hXa : ∀ x ∈ xs, x.hi ≤ a.heap.size := fun x hx => Nat.le_trans (hX.hi x hx) hs1
  have hPa : P ≤ a.heap.size := Nat.le_trans hP hs1
  have hfst := hX.first
  cases hfull : n.full
  · obtain ⟨e1, e2⟩ := N.put_free hfull f'
    refine ⟨f', v2, a.heap.size, b.heap.size, w'.heap.size, w'.heap.size, by rw [hfull], hT, hN2, ?_, ?_, ?_, Nat.le_trans hPa (Nat.le_trans hs2 hs3), Nat.le_refl _⟩
    · rw [e1]
      simp only [putX, hfull, Bool.false_eq_true, if_false]
      exact hX2.snoc hD hXa hPa hs3
    · rw [e2]
      simp only [outX, hfull, Bool.false_eq_true, if_false]
      exact Deep.zero _ _ _ _
    · intro x hx
      simp only [putX, hfull, Bool.false_eq_true, if_false, List.mem_append, List.mem_singleton] at hx
      rcases hx with hx | rfl
      · exact .inl (hX2.hi x hx)
      · exact .inl hs3
  · cases hq : Go.Proofs.Ytjdhdmljchnidaa.first n.l with
    | none =>
      obtain ⟨e1, e2⟩ := N.put_none hfull hq f'
      rw [hq] at hfst
      refine ⟨f', v2, a.heap.size, b.heap.size, a.heap.size, b.heap.size, by rw [hfull], hT, hN2, ?_, ?_, ?_, hPa, hs3⟩
      · rw [e1]
        simp only [putX, hfull, ← hfst, if_true]
        exact hX2
      · rw [e2]
        simp only [outX, hfull, ← hfst, if_true]
        exact hD
      · intro x hx
        simp only [putX, hfull, ← hfst, if_true] at hx
        exact .inl (hXa x hx)
    | some p =>
      obtain ⟨hp, -⟩ := first_some hq
      obtain ⟨e1, e2⟩ := N.put_some hfull hq hp f'
      rw [hq] at hfst
      have hpx : p < xs.length := by rw [← hX.len]; exact hp
      have hE := hX2.erase p
      refine ⟨f', v2, a.heap.size, b.heap.size, xs[p].lo, xs[p].hi, by rw [hfull], hT, hN2, ?_, ?_, ?_, hX.lo _ (List.getElem_mem hpx), hX2.hi _ (List.getElem_mem hpx)⟩
      · rw [e1]
        simp only [putX, hfull, ← hfst, if_true]
        exact hE.snoc hD (fun x hx => hXa x (List.mem_of_mem_eraseIdx hx)) hPa hs3
      · rw [e2]
        simp only [outX, hfull, ← hfst, if_true]
        have : (xs.map (·.d)).getD p .zero = xs[p].d := by simp [List.getD, hpx]
        rw [this]
        exact hX2.at_ p hp hpx
      · intro x hx
        simp only [putX, hfull, ← hfst, if_true, List.mem_append, List.mem_singleton] at hx
        rcases hx with hx | rfl
        · exact hX.off p hpx x hx
        · exact .inr (hXa _ (List.getElem_mem hpx))
def headX (xs : List X) : Dat := (xs.map (·.d)).headD .zero
/-- What Take leaves. -/
def TakeD (P B : Nat) (v : Value) (n : N) (xs : List X) (w : World) (e : Ending) (w' : World) : Prop :=
  ∃ (v2 : Value) (lo hi : Nat), e = .returned (.tuple #[n.head.val, .bool n.any]) ∧ Turn B v v2 w w' ∧ Nt P B v2 n.take w' ∧ Bx P P xs.tail n.take.l w' ∧ Deep P lo hi (headX xs) n.head w' ∧ Off lo hi xs.tail ∧ P ≤ lo ∧ hi ≤ w'.heap.size
theorem take_deep (P B : Nat) (v : Value) (n : N) (xs : List X) (w : World) (hN : Nt P B v n w) (hX : Bx P P xs n.l w) : Calls Try.prog 14 #[.pointer (some ⟨B, 0, none⟩)] w (TakeD P B v n xs w) := by
  cases hs : n.any
  · have hl : n.l = [] := by simpa [N.any] using hs
    have hx : xs = [] := List.eq_nil_of_length_eq_zero (by rw [← hX.len, hl]; rfl)
    refine (take_none P B v n w hN hs).mono ?_
    rintro e w' ⟨rfl, hb⟩
    have h1 : n.head = .zero := by simp [N.head, hl]
    have h2 : n.take = n := by cases n; simp only [N.take] at hl ⊢; rw [hl]; rfl
    have hB := hN.lt
    have hpB := hN.pB
    refine ⟨v, w'.heap.size, w'.heap.size, by rw [h1, hs], Turn.of_below hb, by rw [h2]; exact hN.kept hb, ?_, ?_, ?_, by have := hb.size; omega, Nat.le_refl _⟩
    · rw [h2, hx]
      have := hX.below hb
      rw [hx] at this
      exact this
    · rw [h1, hx]
      exact Deep.zero _ _ _ _
    · rw [hx]
      intro x hx
      simp at hx
  · have hl : n.l ≠ [] := by simpa [N.any] using hs
    have h0 : 0 < n.l.length := List.length_pos_iff.2 hl
    have h0x : 0 < xs.length := by rw [← hX.len]; exact h0
    refine (take_some P B v n w hN hs).mono ?_
    rintro e w' ⟨rfl, v2, hN2, hT⟩
    have hX2 := hX.turn hT hN
    have hh : n.head = n.l[0] := head_eq n.l h0
    have hd : headX xs = xs[0].d := by
      cases xs with
      | nil => simp at h0x
      | cons a l => rfl
    refine ⟨v2, xs[0].lo, xs[0].hi, by rw [hs], hT, hN2, hX2.tail, ?_, ?_, hX.lo _ (List.getElem_mem h0x), hX2.hi _ (List.getElem_mem h0x)⟩
    · rw [hh, hd]
      exact hX2.at_ 0 h0 h0x
    · have := hX.off 0 h0x
      simpa using this
/-- What All leaves. -/
def AllD (P : Nat) (xs : List X) (w : World) (e : Ending) (w' : World) : Prop :=
  ∃ (oa : Option Addr) (cap : Nat) (out : List Fr) (ys : List X), e = .returned (.slice oa out.length cap) ∧ w'.ownsRow w.heap.size 38 14 (.slice oa out.length cap) out.length (rows out) ∧ Below w.heap.size w w' ∧
    Bx P w.heap.size ys out w' ∧ ys.map (·.d) = xs.map (·.d)
def AllI (P : Nat) (xs : List X) (w : World) (k : Nat) (out : List Fr) (v : Value) (b : World) : Prop := ∃ ys, Bx P w.heap.size ys out b ∧ ys.map (·.d) = (xs.map (·.d)).take k
def AllJ (P : Nat) (xs : List X) (w : World) (k : Nat) (out : List Fr) (v : Value) (f' : Fr) (b : World) : Prop := ∃ ys lo hi, ∃ hk : k < xs.length, Bx P w.heap.size ys out b ∧ ys.map (·.d) = (xs.map (·.d)).take k ∧ Deep P lo hi xs[k].d f' b ∧ (∀ y ∈ ys, y.hi ≤ lo) ∧ w.heap.size ≤ lo ∧ hi ≤ b.heap.size
theorem Each.deep {P B : Nat} {v : Value} {n : N} {xs : List X} {w : World} (hX : Bx P P xs n.l w) (hP : P ≤ w.heap.size) : Each P B v n w (AllI P xs w) (AllJ P xs w) where
  start := ⟨[], Bx.nil _ _ _, by simp⟩
  kept := fun k out v a b ⟨ys, h1, h2⟩ hb => ⟨ys, h1.below hb, h2⟩
  own := fun k out v a hk hb hI _ => by
    obtain ⟨ys, h1, h2⟩ := hI
    have hkx : k < xs.length := by rw [← hX.len]; exact hk
    refine (own_deep _ a ((hX.at_ k hk hkx).below hb) (Nat.le_trans hP hb.size)).mono ?_
    rintro e b ⟨f', he, hD, hb2⟩
    exact ⟨f', he, hb2, ys, a.heap.size, b.heap.size, hkx, h1.below hb2, h2, hD, fun y hy => h1.hi y hy, hb.size, Nat.le_refl _⟩
  more := fun k out v v' f' b b' hJ hg hv _ ht => by
    obtain ⟨ys, lo, hi, hk, h1, h2, h3, h4, h5, h6⟩ := hJ
    have hs : b.heap.size ≤ b'.heap.size := Nat.le_trans (by simp) hg.size
    have hkeep : ∀ j, j < b.heap.size → (j < P ∨ Nest j b) → P ≤ j → b'.heap[j]? = b.heap[j]? := by
      intro j hj hn hPj
      refine (hg.block j (Nat.lt_of_lt_of_le hj (by simp)) (fun e => ?_)).trans (Below.heap_alloc _ _ _ hj)
      obtain ⟨cur, hc⟩ := ht j e.symm
      rcases hn with hn | hn
      · omega
      · rcases hn with ⟨c, h⟩ | ⟨c, h⟩ | ⟨c, h⟩ | ⟨c, h⟩ <;> (rw [h] at hc; simp at hc)
    refine ⟨ys ++ [⟨xs[k].d, lo, hi⟩], ?_, ?_⟩
    · exact (h1.same hs fun j hj1 hj2 hn => hkeep j hj2 hn (Nat.le_trans hP hj1)).snoc (h3.same hs fun j hj1 _ hj2 hn => hkeep j hj2 hn (Nat.le_trans hP (Nat.le_trans h5 hj1))) h4 h5 (Nat.le_trans h6 hs)
    · have hk2 : k < (xs.map (·.d)).length := by simpa using hk
      rw [List.take_succ_eq_append_getElem hk2, List.map_append, h2]
      simp
set_option maxRecDepth 100000 in
theorem all_deep (P B : Nat) (v : Value) (n : N) (xs : List X) (w : World) (h : Nt P B v n w) (hX : Bx P P xs n.l w) (hP : P ≤ w.heap.size) : Calls Try.prog 15 #[.pointer (some ⟨B, 0, none⟩)] w (AllD P xs w) := by
  obtain ⟨c0, c1⟩ := h.reads
  obtain ⟨oa, cap, rfl⟩ := h.len_form
  have HH := Lib.hid (And.intro h hX)
  clear h hX
  go_enter Try.func15, Try.ntmps15
  go_wp2_with fail
  refine (each_any P B oa cap n w _ _ HH.out.1 (Each.deep HH.out.2 hP)).mono ?_
  rintro e w' ⟨ob, cb, out, rfl, hl, hr, hb, ys, hY, hd⟩
  go_wp2_with fail
  go_ret
  refine ⟨ob, cb, out, ys, by rw [hl]; rfl, hr, hb, hY, ?_⟩
  rw [hd, List.take_of_length_le (by simp [HH.out.2.len])]
/-- Clear. -/
theorem clear_any (P B : Nat) (v : Value) (n : N) (w : World) (h : Nt P B v n w) : Calls Try.prog 20 #[.pointer (some ⟨B, 0, none⟩)] w fun e w' => e = .returned (.tuple #[]) ∧ Turn B v (.slice none 0 0) w w' ∧ Nt P B (.slice none 0 0) ⟨n.max, []⟩ w' := by
  obtain ⟨c0, c1⟩ := h.reads
  have f1 := h.free 1
  have hok : N.Ok ⟨n.max, []⟩ := ⟨h.ok.m1, h.ok.m2, by have := h.ok.m1; simp; omega⟩
  have hN : Nt P B (.slice none 0 0) ⟨n.max, []⟩ (w.setCell ⟨B, 1, none⟩ (.slice none 0 0)) := Nt.set (n := ⟨n.max, []⟩) (u := v) h.here (World.ownsRow_nil _ _ _ _) (by simp [Value.ownBlock]) hok h.pB
  have hT : Turn B v (.slice none 0 0) w (w.setCell ⟨B, 1, none⟩ (.slice none 0 0)) := by
    have h1 := (Turn.refl B v w).setCell (p := ⟨B, 1, none⟩) (.inl rfl) (.slice none 0 0)
    exact ⟨h1.os, h1.tape, h1.output, h1.size, h1.block, fun k hk => by simp [Value.ownBlock] at hk⟩
  have HD := Lib.hid (And.intro hT hN)
  clear hN hT h hok
  go_enter Try.func20, Try.ntmps20
  go_wp2
  go_end0
  exact ⟨rfl, HD.out⟩
/-- What Copy leaves. -/
def CopyD (P : Nat) (n : N) (xs : List X) (w : World) (e : Ending) (w' : World) : Prop :=
  ∃ (C : Nat) (u : Value) (n' : N) (ys : List X), e = .returned (.pointer (some ⟨C, 0, none⟩)) ∧ Below w.heap.size w w' ∧ Nt P C u n' w' ∧ Bx P w.heap.size ys n'.l w' ∧ n'.max = n.max ∧ ys.map (·.d) = xs.map (·.d) ∧ w.heap.size ≤ C ∧ (∀ k, u.ownBlock = some k → w.heap.size ≤ k)
theorem copy_close {P B C cap : Nat} {oa : Option Addr} {v : Value} {n : N} {xs ys : List X} {out : List Fr} {w w1 : World} (h : Nt P B v n w) (hX : Bx P P xs n.l w) (hP : P ≤ w.heap.size) (hr : w1.ownsRow w.heap.size 38 14 (.slice oa out.length cap) out.length (rows out)) (hb : Below w.heap.size w w1)
    (hY : Bx P w.heap.size ys out w1) (hd : ys.map (·.d) = xs.map (·.d)) (hC : C = w1.heap.size) : CopyD P n xs w (.returned (.pointer (some ⟨C, 0, none⟩))) (w1.alloc (.cells #[.int .i64 n.max, .slice oa out.length cap] 71)) := by
  subst hC
  have hl : out.length = n.l.length := by
    have := congrArg List.length hd
    simp only [List.length_map] at this
    rw [hY.len, hX.len, this]
  have hsz : w.heap.size ≤ w1.heap.size := hb.size
  have hbA : Below w1.heap.size w1 (w1.alloc (.cells #[.int .i64 n.max, .slice oa out.length cap] 71)) := (Below.refl _ _).alloc (Nat.le_refl _) _
  have hlt := World.ownsRow.lt hr
  refine ⟨w1.heap.size, .slice oa out.length cap, ⟨n.max, out⟩, ys, rfl, hb.alloc hb.size _, ⟨heap_alloc_new _ _, ?_, ?_, ⟨h.ok.m1, h.ok.m2, by have := h.ok.le; simp only; omega⟩, by omega⟩, hY.below hbA, rfl, hd, hsz, fun k hk => (hlt k hk).1⟩
  · have h1 := hr.alloc (.cells #[.int .i64 n.max, .slice oa out.length cap] 71)
    refine ⟨h1.1, ?_⟩
    rcases h1.2 with hn | ⟨g, cap', cur, e, hbb, rest⟩
    · exact .inl hn
    · exact .inr ⟨g, cap', cur, e, by omega, rest⟩
  · intro e
    have := (hlt _ e).2
    omega
set_option maxRecDepth 100000 in
set_option maxHeartbeats 4000000 in
theorem copy_deep (P B : Nat) (v : Value) (n : N) (xs : List X) (w : World) (h : Nt P B v n w) (hX : Bx P P xs n.l w) (hP : P ≤ w.heap.size) : Calls Try.prog 21 #[.pointer (some ⟨B, 0, none⟩)] w (CopyD P n xs w) := by
  obtain ⟨c0, c1⟩ := h.reads
  have hlt := h.lt
  have HH := Lib.hid (And.intro h hX)
  have h2 : Nt P B v n w.drew := h.drew
  have hX2 : Bx P P xs n.l w.drew := hX.same (Nat.le_refl _) fun _ _ _ _ => rfl
  have c0 : w.drew.cell? ⟨B, 0, none⟩ = some (.int .i64 n.max) := c0
  have hlt : B < w.drew.heap.size := hlt
  have hPd : P ≤ w.drew.heap.size := hP
  have HH2 := Lib.hid (And.intro h2 hX2)
  clear h hX h2 hX2 c1
  go_enter Try.func21, Try.ntmps21
  go_wp2_with fail
  go_region_held3 (fun x => x.cell? ⟨B, 0, none⟩ = some (.int .i64 n.max)) (go_keep)
    ((go_at_call 15; (with_reducible refine (all_deep P B v n xs _ HH2.out.1 HH2.out.2 hPd).mono ?_); rintro e w1 ⟨oa, cap, out, ys, rfl, hr, hb, hY, hd⟩; have c0 := (hb.cell (p := ⟨B, 0, none⟩) hlt).trans c0))
  all_goals
    go_wp2_with fail
    go_ret
    exact copy_close HH.out.1 HH.out.2 hP hr ⟨hb.os, hb.tape, hb.output, hb.size, hb.block⟩ hY hd rfl
end Go.Proofs.Ytjdhdmljchnidaa
