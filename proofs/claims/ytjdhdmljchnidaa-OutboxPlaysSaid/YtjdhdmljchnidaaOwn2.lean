/-
  A box of the call's own, with frames that bear no view.
-/
import Derived.Test.YtjdhdmljchnidaaTake
import Derived.Test.YtjdhdmljchnidaaEach
import Derived.Test.YtjdhdmljchnidaaSameNil
namespace Go.Proofs.Ytjdhdmljchnidaa
open Go.RowKit
set_option linter.unusedVariables false
set_option linter.unusedSimpArgs false
attribute [local go_sem ↓] Go.wp_at_zero Go.wp_at_succ
/-- None bears a view. -/
def N.Bare (n : N) : Prop := ∀ f ∈ n.l, f.Bare
theorem N.Bare.put {n : N} (h : n.Bare) {f : Fr} (hf : f.Bare) : (n.put f).Bare := by
  intro x hx
  cases hfull : n.full
  · rw [(N.put_free hfull f).1] at hx
    simp only [List.mem_append, List.mem_singleton] at hx
    rcases hx with hx | rfl
    · exact h x hx
    · exact hf
  · cases hq : first n.l with
    | none => rw [(N.put_none hfull hq f).1] at hx; exact h x hx
    | some p =>
      obtain ⟨hp, -⟩ := first_some hq
      rw [(N.put_some hfull hq hp f).1] at hx
      simp only [List.mem_append, List.mem_singleton] at hx
      rcases hx with hx | rfl
      · exact h x (List.mem_of_mem_eraseIdx hx)
      · exact hf
theorem N.Bare.take {n : N} (h : n.Bare) : n.take.Bare := fun x hx => h x (List.mem_of_mem_tail hx)
/-- A box of the call's own. -/
structure Hs (B : Nat) (v : Value) (n : N) (W w : World) : Prop where
  nt : Nt W.heap.size B v n w
  bare : n.Bare
  below : Below W.heap.size W w
section
variable {B C : Nat} {v v' : Value} {n n' m : N} {W w w' : World}
theorem Turn.below {P : Nat} (h : Turn B v v' w w') (hB : P ≤ B) (hv : ∀ k, v.ownBlock = some k → P ≤ k) (hP : P ≤ w.heap.size) : Below P w w' :=
  ⟨h.os, h.tape, h.output, h.size, fun k hk => h.block k (by omega) (by omega) (fun e => by have := hv k e; omega)⟩
theorem Hs.turn (h : Hs B v n W w) (hn : Nt W.heap.size B v' n' w') (hT : Turn B v v' w w') (hs : n'.Bare) : Hs B v' n' W w' :=
  ⟨hn, hs, h.below.trans (hT.below h.nt.pB (fun k hk => (h.nt.vlt k hk).1) h.below.size)⟩
theorem Hs.kept (h : Hs B v n W w) (hb : Below w.heap.size w w') : Hs B v n W w' := ⟨h.nt.kept hb, h.bare, then_below h.below hb⟩
theorem Hs.alloc (h : Hs B v n W w) (o : Obj) : Hs B v n W (w.alloc o) := h.kept ((Below.refl _ _).alloc (Nat.le_refl _) _)
theorem Hs.drew (h : Hs B v n W w) : Hs B v n W w.drew := ⟨h.nt.drew, h.bare, ⟨h.below.os, h.below.tape, h.below.output, h.below.size, h.below.block⟩⟩
theorem Hs.drewN (h : Hs B v n W w) (k : Nat) : Hs B v n W (w.drewN k) := ⟨h.nt.drewN k, h.bare, ⟨h.below.os, h.below.tape, h.below.output, h.below.size, h.below.block⟩⟩
/-- What a call makes of it. -/
def Now (B : Nat) (v : Value) (n' : N) (W w w' : World) : Prop := ∃ v', Hs B v' n' W w' ∧ Turn B v v' w w'
theorem Hs.now (h : Hs B v n W w) (hs : n'.Bare) (hd : Did W.heap.size B v n' w w') : Now B v n' W w w' := by
  obtain ⟨v', hN, hT⟩ := hd
  exact ⟨v', h.turn hN hT hs, hT⟩
theorem put_of (f : Fr) (hf : f.Bare) (h : Hs B v n W w) :
    Calls Try.prog 11 #[.pointer (some ⟨B, 0, none⟩), f.val] w fun e w' => e = .returned (.tuple #[(n.out f).val, .bool n.full, .int .i64 0]) ∧ Now B v (n.put f) W w w' := by
  have ho : OwnOf B v w f (fun f' _ _ => f' = f) := fun v1 a _ _ => (own_bare f hf a).mono fun e b ⟨he, hb⟩ => ⟨f, he, hb, rfl⟩
  obtain ⟨k, fa, fi, ta, ti, n', tk, ba, bi, ⟨a1, n1, c1⟩, ⟨a2, n2, c2⟩, ⟨a3, n3, c3⟩, ⟨a4, n4, c4⟩, ⟨a5, n5, c5⟩⟩ := f
  refine (put_any W.heap.size B v n k fa fi ta ti n' tk ba bi a1 a2 a3 a4 a5 n1 c1 n2 c2 n3 c3 n4 c4 n5 c5 _ w h.nt ho).mono ?_
  rintro e w' ⟨f', v2, a, b, he, rfl, hT, hN, -⟩
  exact ⟨he, h.now (h.bare.put hf) ⟨v2, hN, hT⟩⟩
theorem take_of (h : Hs B v n W w) :
    Calls Try.prog 14 #[.pointer (some ⟨B, 0, none⟩)] w fun e w' => e = .returned (.tuple #[n.head.val, .bool n.any]) ∧ Now B v n.take W w w' := by
  cases hs : n.any
  · obtain ⟨e1, e2⟩ := Inv.none hs
    rw [e1, e2]
    exact (take_none _ B v n w h.nt hs).mono fun e w' ⟨he, hb⟩ => ⟨he, v, h.kept hb, Turn.of_below hb⟩
  · exact (take_some _ B v n w h.nt hs).mono fun e w' ⟨he, hd⟩ => ⟨he, h.now h.bare.take hd⟩
theorem len_of (h : Hs B v n W w) : Calls Try.prog 13 #[.pointer (some ⟨B, 0, none⟩)] w fun e w' => e = .returned (.int .i64 n.l.length) ∧ w' = w := len_any _ B v n w h.nt
theorem new_of (m : Int) (hb : Below W.heap.size W w) (h1 : 1 ≤ m) (h2 : m ≤ 4096) :
    Calls Try.prog 10 #[.int .i64 m] w fun e w' => e = .returned (.tuple #[.pointer (some ⟨w.heap.size, 0, none⟩), .int .i64 0]) ∧ Hs w.heap.size (.slice none 0 0) ⟨m, []⟩ W w' ∧ Below w.heap.size w w' :=
  (new_yes W.heap.size m w h1 h2 hb.size).mono fun e w' ⟨he, hn, hb'⟩ => ⟨he, ⟨hn, fun u hu => by simp at hu, then_below hb hb'⟩, hb'⟩
end
theorem Each.bare {P B : Nat} {v : Value} {n : N} {w : World} (hb : n.Bare) : Each P B v n w (fun k out _ _ => out = n.l.take k) (fun k out _ f' _ => out = n.l.take k ∧ n.l[k]? = some f') where
  start := by simp
  kept := fun _ _ _ _ _ h _ => h
  own := fun k out v a hk _ hI _ => (own_bare _ (hb _ (List.getElem_mem hk)) a).mono fun e b ⟨he, hb'⟩ => ⟨_, he, hb', hI, List.getElem?_eq_getElem hk⟩
  more := fun k out v v' f' b b' hJ _ _ _ _ => by
    obtain ⟨rfl, h2⟩ := hJ
    obtain ⟨hk, rfl⟩ := List.getElem?_eq_some_iff.1 h2
    rw [List.take_succ_eq_append_getElem hk]
/-- A slice of frames, of the call's own. -/
def AllOut (n : N) (w : World) (e : Ending) (w' : World) : Prop := ∃ oa cap, e = .returned (.slice oa n.l.length cap) ∧ w'.ownsRow w.heap.size 38 14 (.slice oa n.l.length cap) n.l.length (rows n.l) ∧ Below w.heap.size w w'
theorem all_bare (P B : Nat) (v : Value) (n : N) (w : World) (h : Nt P B v n w) (hb : n.Bare) : Calls Try.prog 15 #[.pointer (some ⟨B, 0, none⟩)] w (AllOut n w) := by
  obtain ⟨c0, c1⟩ := h.reads
  obtain ⟨oa, cap, rfl⟩ := h.len_form
  have HH := Lib.hid (And.intro h hb)
  clear h hb
  go_enter Try.func15, Try.ntmps15
  go_wp2_with fail
  refine (each_any P B oa cap n w _ _ HH.out.1 (Each.bare HH.out.2)).mono ?_
  rintro e w' ⟨ob, cb, out, rfl, hl, hr, hb, rfl⟩
  simp only [List.take_length] at hr ⊢
  go_wp2_with fail
  go_ret
  exact ⟨ob, cb, rfl, hr, hb⟩
theorem all_nil (w : World) : Calls Try.prog 15 #[.pointer none] w fun e w' => e = .returned (.slice none 0 0) ∧ w' = w := by
  go_enter Try.func15, Try.ntmps15
  go_wp2
  go_ret
  exact ⟨rfl, rfl⟩
theorem put_nil (f : Fr) (w : World) : Calls Try.prog 11 #[.pointer none, f.val] w fun e w' => e = .returned (.tuple #[Fr.zero.val, .bool false, .int .i64 2]) ∧ Below w.heap.size w w' := by
  simp only [Fr.val, Fr.cells]
  go_enter Try.func11, Try.ntmps11
  go_wp2_with fail
  refine bodyPost_ret (v := .tuple #[.agg #[.int .u8 0, .int .i64 0, .int .i64 0, .int .i64 0, .int .i64 0, .int .i64 0, .int .i64 0, .int .i64 0, .int .i64 0, .slice none 0 0, .slice none 0 0, .slice none 0 0, .slice none 0 0, .slice none 0 0], .bool false, .int .i64 2]) (by simp [results, Try.results11, go_sem]) rfl ⟨rfl, ?_⟩
  exact ((Below.refl _ _).alloc (Nat.le_refl _) _).alloc (by simp) _
end Go.Proofs.Ytjdhdmljchnidaa
