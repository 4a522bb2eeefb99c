/-
  What the law NetSent keeps from round to round.
-/
import Derived.Test.YtialfpmfiapepaaTally
import Derived.Test.YtialfpmfiapepaaOnePlain
namespace Go.Proofs.Ytialfpmfiapepaa
open Go.RowKit
set_option linter.unusedVariables false
set_option linter.unusedSimpArgs false
/-- Every address is a number of its type. -/
def N.In (n : N) : Prop := ∀ u ∈ n.l, inI64 u.to
theorem N.In.get {n : N} (h : n.In) (k : Int) : inI64 (n.get k).to := by
  cases hk : n.has k
  · rw [not_has hk]; exact ⟨by show _ ≤ (0 : Int); omega, by show (0 : Int) ≤ _; omega⟩
  · obtain ⟨hl, he⟩ := N.get_of hk
    rw [he]; exact h _ (List.getElem_mem hl)
theorem N.In.push {n : N} (h : n.In) (u : U) (hu : inI64 u.to) : (n.push u).In := by
  intro f hf
  unfold N.push at hf
  simp only [List.mem_append, List.mem_singleton] at hf
  rcases hf with hf | rfl
  · split at hf
    · exact h _ (List.mem_of_mem_tail hf)
    · exact h _ hf
  · exact hu
theorem N.In.lose {n : N} (h : n.In) (k : Int) : (n.lose k).In := by
  intro f hf
  unfold N.lose at hf
  split at hf
  · exact h _ (List.mem_of_mem_eraseIdx hf)
  · exact h _ hf
theorem N.In.twice {n : N} (h : n.In) (k : Int) : (n.twice k).In := by
  unfold N.twice
  split
  · exact h.push _ (h.get k)
  · exact h
theorem U.bend_to (f : U) (a : Int) (x : BitVec 32) : (f.bend a x).to = f.to := by
  unfold U.bend
  split <;> rfl
theorem N.In.bend {n : N} (h : n.In) (k a : Int) (x : BitVec 32) : (n.bend k a x).In := by
  intro f hf
  unfold N.bend N.put at hf
  split at hf
  · rcases List.mem_or_eq_of_mem_set hf with hf | rfl
    · exact h _ hf
    · rw [U.bend_to]; exact h.get k
  · exact h _ hf
theorem N.get_put {n : N} {k : Int} (hk : n.has k = true) (u : U) : (n.put k u).get k = u := by
  obtain ⟨hl, -⟩ := N.get_of hk
  have hp : n.put k u = ⟨n.max, n.l.set k.toNat u⟩ := by unfold N.put; rw [if_pos hk]
  have hh : (n.put k u).has k = true := by rw [hp]; simpa [N.has] using hk
  obtain ⟨h2, e⟩ := N.get_of hh
  rw [e]
  simp [hp]
theorem setT_more (f : ByteArray → Int → Int) (s : ByteArray) (d c : Int) : setT f s d (f s d + c) = more f s d c := by
  funext a b
  unfold setT more
  split
  · rename_i h; obtain ⟨rfl, rfl⟩ := h; rfl
  · rfl
/-- Not far from nought. -/
def Near (f : ByteArray → Int → Int) (k : Int) : Prop := ∀ s d, -k ≤ f s d ∧ f s d ≤ k
theorem Near.more {f : ByteArray → Int → Int} {k : Int} (h : Near f k) (s : ByteArray) (d c : Int) (h1 : -1 ≤ c) (h2 : c ≤ 1) : Near (more f s d c) (k + 1) := by
  intro a b
  have := h a b
  unfold Ytialfpmfiapepaa.more
  split <;> omega
theorem Near.le {f : ByteArray → Int → Int} {k k' : Int} (h : Near f k) (hk : k ≤ k') : Near f k' := fun a b => by have := h a b; omega
/-- The cells of a block stay. -/
def Sa (X : Nat) (w w' : World) : Prop := ∀ o, w'.cell? ⟨X, o, none⟩ = w.cell? ⟨X, o, none⟩
/-- The net, the law's map, and the box of the step. -/
structure Sn (B M X : Nat) (v : Value) (n : N) (c : Nat) (f : ByteArray → Int → Int) (W w : World) : Prop where
  hs : Hs B v n W w
  tl : Tally M c f w
  mb : M ≠ B
  mv : v.ownBlock ≠ some M
  mW : W.heap.size ≤ M
  xl : X < w.heap.size
  xb : X ≠ B
  xm : X ≠ M
  xv : v.ownBlock ≠ some X
/-- .. between the rounds. -/
structure Sr (B M : Nat) (v : Value) (n : N) (c : Nat) (f : ByteArray → Int → Int) (W w : World) : Prop where
  hs : Hs B v n W w
  tl : Tally M c f w
  mb : M ≠ B
  mv : v.ownBlock ≠ some M
  mW : W.heap.size ≤ M
section
variable {B M X c c' : Nat} {v v' : Value} {n n' : N} {f f' : ByteArray → Int → Int} {W w w' : World}
theorem Sn.sr (h : Sn B M X v n c f W w) : Sr B M v n c f W w := ⟨h.hs, h.tl, h.mb, h.mv, h.mW⟩
theorem Sr.box (h : Sr B M v n c f W w) (o : Obj) : Sn B M w.heap.size v n c f W (w.alloc o) :=
  ⟨h.hs.alloc o, h.tl.same ((Below.refl w.heap.size w).alloc (Nat.le_refl _) o |>.block _ h.tl.lt), h.mb, h.mv, h.mW, by simp, by have := h.hs.nt.lt; omega, by have := h.tl.lt; omega, fun e => by have := h.hs.nt.vlt _ e; omega⟩
theorem Sn.drewN (h : Sn B M X v n c f W w) (j : Nat) : Sn B M X v n c f W (w.drewN j) :=
  ⟨h.hs.drewN j, h.tl.same rfl, h.mb, h.mv, h.mW, h.xl, h.xb, h.xm, h.xv⟩
theorem Sn.kept (h : Sn B M X v n c f W w) (hb : Below w.heap.size w w') : Sn B M X v n c f W w' ∧ Sa X w w' :=
  ⟨⟨h.hs.kept hb, h.tl.same (hb.block _ h.tl.lt), h.mb, h.mv, h.mW, Nat.lt_of_lt_of_le h.xl hb.size, h.xb, h.xm, h.xv⟩, fun o => hb.cell (p := ⟨X, o, none⟩) h.xl⟩
theorem Sn.now (h : Sn B M X v n c f W w) (hN : Now B v n' W w w') : ∃ v', Sn B M X v' n' c f W w' ∧ Sa X w w' := by
  obtain ⟨v', h2, hT⟩ := hN
  refine ⟨v', ⟨h2, h.tl.same (hT.block _ h.tl.lt h.mb h.mv), h.mb, fun e => ?_, h.mW, Nat.lt_of_lt_of_le h.xl hT.size, h.xb, h.xm, fun e => ?_⟩, fun o => ?_⟩
  · rcases hT.own _ e with e | e
    · exact h.mv e
    · have := h.tl.lt; omega
  · rcases hT.own _ e with e | e
    · exact h.xv e
    · have := h.xl; omega
  · exact World.cell?_of_block (hT.block X h.xl h.xb h.xv)
theorem Hs.only (h : Hs B v n W w) (ho : Only M w w') (hm : M ≠ B) (hv : v.ownBlock ≠ some M) (hM : W.heap.size ≤ M) : Hs B v n W w' := by
  refine ⟨⟨(ho.block _ h.nt.lt (Ne.symm hm)).trans h.nt.here, ⟨h.nt.row.1, ?_⟩, h.nt.ne, h.nt.ok, h.nt.pB⟩, h.small, h.below.trans ⟨ho.os, ho.tape, ho.output, ho.size, fun k hk => ho.block k (Nat.lt_of_lt_of_le hk h.below.size) (by omega)⟩⟩
  rcases h.nt.row.2 with hn | ⟨g, cap, cur, rfl, hb, hgg, rest⟩
  · exact .inl hn
  · refine .inr ⟨g, cap, cur, rfl, hb, ?_, rest⟩
    rw [ho.block g (Array.getElem?_eq_some_iff.1 hgg).1 (fun e => hv (by rw [← e]; rfl))]
    exact hgg
theorem Sn.put (h : Sn B M X v n c f W w) (ho : Only M w w') (ht : Tally M c' f' w') : Sn B M X v n c' f' W w' ∧ Sa X w w' :=
  ⟨⟨h.hs.only ho h.mb h.mv h.mW, ht, h.mb, h.mv, h.mW, Nat.lt_of_lt_of_le h.xl ho.size, h.xb, h.xm, h.xv⟩, fun o => ho.cell (p := ⟨X, o, none⟩) h.xl h.xm⟩
theorem Sr.start (h : Hs B v n W w) (hv : v.ownBlock = none) : Sr B w.heap.size v n 0 (fun _ _ => 0) W (w.alloc (.map #[] 0)) :=
  ⟨h.alloc _, Tally.made w, by have := h.nt.lt; omega, by rw [hv]; simp, h.below.size⟩
end
end Go.Proofs.Ytialfpmfiapepaa
