/-
  The walk of what looks for the first that is of what is known; own at a frame that bears no view.
-/
import Derived.Test.YtjdhdmljchnidaaOwn
namespace Go.Proofs.Ytjdhdmljchnidaa
open Go.RowKit
set_option linter.unusedVariables false
set_option linter.unusedSimpArgs false
attribute [local go_sem ↓] Go.wp_at_zero Go.wp_at_succ
/-- A frame that bears no view. -/
structure Fr.Bare (f : Fr) : Prop where
  ms : f.ms = .nil
  fs : f.fs = .nil
  rs : f.rs = .nil
  cs : f.cs = .nil
  ss : f.ss = .nil
theorem Fr.Bare.of (k n : Int) : (Fr.of k n).Bare := ⟨rfl, rfl, rfl, rfl, rfl⟩
theorem own_bare (f : Fr) (hf : f.Bare) (w : World) : Calls Try.prog 31 #[f.val] w fun e w' => e = .returned f.val ∧ Below w.heap.size w w' := by
  obtain ⟨k, fa, fi, ta, ti, n, tk, ba, bi, ms, fs, rs, cs, ss⟩ := f
  obtain ⟨h1, h2, h3, h4, h5⟩ := hf
  simp only at h1 h2 h3 h4 h5
  subst h1 h2 h3 h4 h5
  refine (own_any (fun _ s _ => s = .nil) k fa fi ta ti n tk ba bi none none none none none 0 0 0 0 0 0 0 0 0 0 w ⟨fun _ _ _ _ h _ => h, ?_, ?_, ?_, ?_, ?_⟩).mono ?_
  · intro a _ _; exact (clone_ms_nil a).mono fun e b ⟨he, hb⟩ => ⟨.nil, he, rfl, by rw [hb]; exact Below.refl _ _⟩
  · intro a _ _; exact (clone_ids_nil a).mono fun e b ⟨he, hb⟩ => ⟨.nil, he, rfl, by rw [hb]; exact Below.refl _ _⟩
  · intro a _ _; exact (each_rows_nil a).mono fun e b ⟨he, hb⟩ => ⟨.nil, he, rfl, by rw [hb]; exact Below.refl _ _⟩
  · intro a _ _; exact (clone_ts_nil a).mono fun e b ⟨he, hb⟩ => ⟨.nil, he, rfl, by rw [hb]; exact Below.refl _ _⟩
  · intro a _ _; exact (clone_ids_nil a).mono fun e b ⟨he, hb⟩ => ⟨.nil, he, rfl, by rw [hb]; exact Below.refl _ _⟩
  · rintro e w' ⟨s1, s2, s3, s4, s5, rfl, rfl, rfl, rfl, rfl, rfl, hb⟩
    exact ⟨rfl, hb⟩
theorem first_at {l : List Fr} {k : Nat} (hk : k < l.length) (h0 : ∀ q, (hq : q < l.length) → q < k → l[q].known = false) (h1 : l[k].known = true) : first l = some k := by
  unfold first
  rw [List.findIdx?_eq_some_iff_getElem]
  exact ⟨hk, h1, fun j hj => by simpa using h0 j (by omega) hj⟩
theorem first_end {l : List Fr} (h0 : ∀ q, (hq : q < l.length) → l[q].known = false) : first l = none := by
  unfold first
  rw [List.findIdx?_eq_none_iff]
  intro f hf
  obtain ⟨q, hq, rfl⟩ := List.getElem_of_mem hf
  simpa using h0 q hq
/-- The place as a number; -1: there is none. -/
def place (o : Option Nat) : Int := match o with | none => -1 | some p => p
set_option maxRecDepth 100000 in
set_option maxHeartbeats 2000000 in
theorem index_any (P B : Nat) (oa : Option Addr) (cap : Nat) (n : N) (w : World) (h : Nt P B (.slice oa n.l.length cap) n w) :
    Calls Try.prog 29 #[.slice oa n.l.length cap, .func (.func 30) #[] #[]] w fun e w' => e = .returned (.int .i64 (place (first n.l))) ∧ Below w.heap.size w w' := by
  have hm2 := h.ok.m2
  have hle := h.ok.le
  go_enter Try.func29, Try.ntmps29
  go_wp2_with fail
  go_loopw [5, 8] (fun _ i wr => ∃ k : Nat, k ≤ n.l.length ∧ i = .int .i64 k ∧ Nt P B (.slice oa n.l.length cap) n wr ∧ Below w.heap.size w wr ∧ Hid (∀ q, (hq : q < n.l.length) → q < k → n.l[q].known = false)) (fun _ i _ => n.l.length - (intOf i).toNat)
  case atStart => exact ⟨0, by omega, rfl, h, Below.refl _ _, Lib.hid (fun q hq hq2 => by omega)⟩
  case round =>
    clear h
    obtain ⟨k, hk, rfl, h, hbel, HK⟩ := hrel
    by_cases hlt : k < n.l.length
    · rcases h.shape with ⟨-, e⟩ | ⟨g, cap', he, -⟩
      · rw [e] at hlt; simp at hlt
      · simp only [Value.slice.injEq] at he
        obtain ⟨rfl, -, rfl⟩ := he
        obtain ⟨z0, z1, z2, z3, z4, z5, z6, z7, z8, z9, z10, z11, z12, z13⟩ := h.at_ k hlt
        have HH := Lib.hid h
        clear h
        obtain ⟨f, hf⟩ : ∃ f, f = n.l[k] := ⟨_, rfl⟩
        rw [← hf] at z0 z1 z2 z3 z4 z5 z6 z7 z8 z9 z10 z11 z12 z13
        have HF := Lib.hid hf
        clear hf
        obtain ⟨kd, fa, fi, ta, ti, nn, tk, ba, bi, ⟨a1, n1, c1⟩, ⟨a2, n2, c2⟩, ⟨a3, n3, c3⟩, ⟨a4, n4, c4⟩, ⟨a5, n5, c5⟩⟩ := f
        simp only at z0 z1 z2 z3 z4 z5 z6 z7 z8 z9 z10 z11 z12 z13
        go_wp2_with fail
        refine (known_any ⟨kd, fa, fi, ta, ti, nn, tk, ba, bi, ⟨a1, n1, c1⟩, ⟨a2, n2, c2⟩, ⟨a3, n3, c3⟩, ⟨a4, n4, c4⟩, ⟨a5, n5, c5⟩⟩ wr).mono ?_
        rintro e w1 ⟨rfl, hb⟩
        rw [HF.out]
        have h1 := HH.out.kept hb
        have hbel := then_below hbel hb
        clear hb z0 z1 z2 z3 z4 z5 z6 z7 z8 z9 z10 z11 z12 z13
        cases hkn : n.l[k].known
        · have HK2 : Hid (∀ q, (hq : q < n.l.length) → q < k + 1 → n.l[q].known = false) := Lib.hid (fun q hq hq2 => by
            rcases Nat.lt_or_ge q k with h | h
            · exact HK.out q hq h
            · obtain rfl : q = k := by omega
              exact hkn)
          clear hkn
          go_wp2_with fail
          go_roundw
          case rel => exact ⟨k + 1, by omega, by go_num, h1, hbel, HK2⟩
          case measure => simp only [intOf]; omega
        · have HE := Lib.hid (first_at hlt HK.out hkn)
          clear hkn
          go_wp2_with fail
          go_ret
          exact ⟨ret_i (by rw [HE.out]; rfl), hbel⟩
    · have HE := Lib.hid (first_end (fun q hq => HK.out q hq (by omega)))
      go_wp2_with fail
      go_ret
      exact ⟨ret_i (by rw [HE.out]; rfl), hbel⟩
end Go.Proofs.Ytjdhdmljchnidaa
