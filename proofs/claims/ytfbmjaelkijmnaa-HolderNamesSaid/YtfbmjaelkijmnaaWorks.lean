/-
  Contracts at a holder that the call itself has made; the examples that each law asks first.
-/
import Derived.Test.YtfbmjaelkijmnaaAsks
namespace Go.Proofs.Ytfbmjaelkijmnaa
open Go.RowKit
/-- A holder of the call's own. -/
structure Has (C : Nat) (s : St) (W w : World) : Prop where
  here : At C s w
  own : W.heap.size ≤ C
  below : Below W.heap.size W w
theorem Has.kept {C : Nat} {s s' : St} {W w w' : World} (h : Has C s W w) (hA : At C s' w') (hK : Keep C w w') : Has C s' W w' :=
  ⟨hA, h.own, h.below.trans (hK.below h.own h.below.size)⟩
theorem Has.under {C : Nat} {s : St} {W w w' : World} (h : Has C s W w) (hb : Below w.heap.size w w') : Has C s W w' :=
  ⟨h.here.kept hb, h.own, then_below h.below hb⟩
theorem Has.drewN {C : Nat} {s : St} {W w : World} (h : Has C s W w) (n : Nat) : Has C s W (w.drewN n) := ⟨h.here, h.own, below_drewN h.below n⟩
theorem answer_any (k n t : Int) (w : World) : Calls Try.prog 21 #[.int .u8 k, .int .i64 n, .int .i64 t] w fun e w' => e = .returned (Fr.val ⟨k, 0, 0, 0, 0, n, t⟩) ∧ Below w.heap.size w w' := by
  go_enter Try.func21, Try.ntmps21
  go_wp2
  refine bodyPost_ret (v := Fr.val ⟨k, 0, 0, 0, 0, n, t⟩) (by simp [results, Try.results21, go_sem, Fr.val, Fr.cells]) rfl ⟨rfl, ?_⟩
  exact (Below.refl _ _).alloc (Nat.le_refl _) _
theorem asks_of {C : Nat} {s : St} (s' : St) (now kind n token : Int) (b : Bool) {W w : World} (h : Has C s W w) (ok : s.Ok) (hs : (s.want now).1 = s') (hb : askedB kind n token (s.want now).2.1 (s.want now).2.2 = b) :
    Calls Try.prog 23 #[.pointer (some ⟨C, 0, none⟩), .int .i64 now, .int .u8 kind, .int .i64 n, .int .i64 token] w fun e w' => e = .returned (.bool b) ∧ Has C s' W w' := by
  subst hs; subst hb
  exact (asks_any C s now kind n token w h.here ok).mono fun e w' ⟨he, hA, hK⟩ => ⟨he, h.kept hA hK⟩
theorem want_of {C : Nat} {s : St} (s' : St) (f : Fr) (b : Bool) (now : Int) {W w : World} (h : Has C s W w) (ok : s.Ok) (hs : s.want now = (s', f, b)) :
    Calls Try.prog 12 #[.pointer (some ⟨C, 0, none⟩), .int .i64 now] w fun e w' => e = .returned (.tuple #[f.val, .bool b]) ∧ Has C s' W w' := by
  have hc := want_any C s now w h.here ok
  rw [hs] at hc
  exact hc.mono fun e w' ⟨he, hA, hK⟩ => ⟨he, h.kept hA hK⟩
theorem take_of {C : Nat} {s : St} (s' : St) (f : Fr) (b : Bool) (now : Int) {W w : World} (h : Has C s W w) (hs : s.take f = (s', b)) :
    Calls Try.prog 13 #[.pointer (some ⟨C, 0, none⟩), f.val, .int .i64 now] w fun e w' => e = .returned (.bool b) ∧ Has C s' W w' := by
  have hc := take_any C s f now w h.here
  rw [hs] at hc
  exact hc.mono fun e w' ⟨he, hA, hK⟩ => ⟨he, h.kept hA hK⟩
theorem drop_of {C : Nat} {s : St} (s' : St) (f : Fr) (b : Bool) (now : Int) {W w : World} (h : Has C s W w) (hs : s.drop = (s', f, b)) :
    Calls Try.prog 19 #[.pointer (some ⟨C, 0, none⟩), .int .i64 now] w fun e w' => e = .returned (.tuple #[f.val, .bool b]) ∧ Has C s' W w' := by
  have hc := drop_any C s now w h.here
  rw [hs] at hc
  exact hc.mono fun e w' ⟨he, hA, hK⟩ => ⟨he, h.kept hA hK⟩
theorem holds_of {C : Nat} {s : St} (b : Bool) (now : Int) {W w : World} (h : Has C s W w) (ok : s.Ok) (hb : s.holds now = b) :
    Calls Try.prog 14 #[.pointer (some ⟨C, 0, none⟩), .int .i64 now] w fun e w' => e = .returned (.bool b) ∧ Has C s W w' := by
  subst hb
  refine (holds_any C s now w h.here ok).mono fun e w' ⟨he, n, hw⟩ => ⟨he, ?_⟩
  subst hw; exact h.drewN n
theorem new_of (a i h r : Int) {W w : World} (hb : Below W.heap.size W w) (hm : may a i h r) :
    Calls Try.prog 11 #[.agg #[.int .i64 a, .int .i64 i], .int .i64 h, .int .i64 r] w fun e w' => ∃ C, e = .returned (.tuple #[.pointer (some ⟨C, 0, none⟩), .int .i64 0]) ∧ Has C (.fresh a i h r) W w' ∧ w.heap.size ≤ C := by
  refine (new_yes a i h r w hm).mono fun e w' ⟨C, he, hA, hC, hK⟩ => ⟨C, he, ⟨hA, Nat.le_trans hb.size hC, then_below hb hK⟩, hC⟩
theorem fresh_ok (a i h r : Int) (hm : may a i h r) : (St.fresh a i h r).Ok := by
  obtain ⟨-, h1, h2, r1, r2⟩ := hm
  constructor <;> simp [St.fresh] <;> assumption
set_option maxRecDepth 100000 in
set_option maxHeartbeats 1000000 in
theorem works_any (W : World) : Calls Try.prog 10 #[] W fun e w' => e = .returned (.bool true) ∧ Below W.heap.size W w' := by
  go_enter Try.func10, Try.ntmps10
  go_wp2_with fail
  refine (node_any _).mono ?_
  rintro e w0 ⟨rfl, hb0⟩
  go_wp2_with fail
  refine (new_of 2 1 9 4 hb0 ⟨by decide, by decide, by decide, by decide, by decide⟩).mono ?_
  rintro e w1 ⟨C, rfl, h1, -⟩
  clear hb0
  go_wp2_with fail
  refine (asks_of ⟨2, 1, 9, 4, 1, 1, true, 9, 0, 0, false⟩ 1 9 1 0 true h1 (by constructor <;> decide) rfl rfl).mono ?_
  rintro e w2 ⟨rfl, h2⟩
  clear h1
  go_wp2_with fail
  refine (asks_of ⟨2, 1, 9, 4, 1, 1, true, 9, 0, 0, false⟩ 3 0 0 0 true h2 (by constructor <;> decide) rfl rfl).mono ?_
  rintro e w3 ⟨rfl, h3⟩
  clear h2
  go_wp2_with fail
  refine (asks_of ⟨2, 1, 9, 4, 2, 5, true, 9, 0, 0, false⟩ 5 9 2 0 true h3 (by constructor <;> decide) rfl rfl).mono ?_
  rintro e w4 ⟨rfl, h4⟩
  clear h3
  go_wp2_with fail
  refine (answer_any 12 1 7 _).mono ?_
  rintro e w5 ⟨rfl, hb5⟩
  have h5 := h4.under hb5
  clear h4 hb5
  go_wp2_with fail
  refine (take_of ⟨2, 1, 9, 4, 2, 5, true, 9, 0, 0, false⟩ ⟨12, 0, 0, 0, 0, 1, 7⟩ false 6 h5 rfl).mono ?_
  rintro e w6 ⟨rfl, h6⟩
  clear h5
  go_wp2_with fail
  refine (holds_of false 6 h6 (by constructor <;> decide) rfl).mono ?_
  rintro e w7 ⟨rfl, h7⟩
  clear h6
  go_wp2_with fail
  refine (answer_any 12 2 7 _).mono ?_
  rintro e w8 ⟨rfl, hb8⟩
  have h8 := h7.under hb8
  clear h7 hb8
  go_wp2_with fail
  refine (take_of ⟨2, 1, 9, 4, 2, 5, false, 9, 7, 5, false⟩ ⟨12, 0, 0, 0, 0, 2, 7⟩ true 8 h8 rfl).mono ?_
  rintro e w9 ⟨rfl, h9⟩
  clear h8
  go_wp2_with fail
  refine (holds_of true 13 h9 (by constructor <;> decide) rfl).mono ?_
  rintro e w10 ⟨rfl, h10⟩
  clear h9
  go_wp2_with fail
  refine (holds_of false 14 h10 (by constructor <;> decide) rfl).mono ?_
  rintro e w11 ⟨rfl, h11⟩
  clear h10
  go_wp2_with fail
  refine (asks_of ⟨2, 1, 9, 4, 3, 8, true, 10, 7, 5, false⟩ 8 10 3 7 true h11 (by constructor <;> decide) rfl rfl).mono ?_
  rintro e w12 ⟨rfl, h12⟩
  clear h11
  go_wp2_with fail
  go_ret
  exact ⟨rfl, h12.below⟩
end Go.Proofs.Ytfbmjaelkijmnaa
