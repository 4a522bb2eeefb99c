/-
  Nobody's holder; what is done to a holder leaves others alone.
-/
import Derived.Test.YtfbmjaelkijmnaaRefd
namespace Go.Proofs.Ytfbmjaelkijmnaa
open Go.RowKit
set_option linter.unusedVariables false
set_option linter.unusedSimpArgs false
set_option maxRecDepth 100000 in
set_option maxHeartbeats 1000000 in
theorem want_nil (now : Int) (w : World) : Calls Try.prog 12 #[.pointer none, .int .i64 now] w fun e w' => e = .returned (.tuple #[Fr.zero.val, .bool false]) ∧ Below w.heap.size w w' := by
  go_enter Try.func12, Try.ntmps12
  go_wp2
  refine bodyPost_ret (v := .tuple #[Fr.zero.val, .bool false]) (by simp [results, Try.results12, go_sem, Fr.val, Fr.cells, Fr.zero]) rfl ⟨rfl, ?_⟩
  exact (((Below.refl _ _).alloc (Nat.le_refl _) _).alloc (by simp) _).alloc (by simp; omega) _
set_option maxRecDepth 100000 in
set_option maxHeartbeats 1000000 in
theorem drop_nil (now : Int) (w : World) : Calls Try.prog 19 #[.pointer none, .int .i64 now] w fun e w' => e = .returned (.tuple #[Fr.zero.val, .bool false]) ∧ Below w.heap.size w w' := by
  go_enter Try.func19, Try.ntmps19
  go_wp2
  refine bodyPost_ret (v := .tuple #[Fr.zero.val, .bool false]) (by simp [results, Try.results19, go_sem, Fr.val, Fr.cells, Fr.zero]) rfl ⟨rfl, ?_⟩
  exact (Below.refl _ _).alloc (Nat.le_refl _) _
set_option maxRecDepth 100000 in
set_option maxHeartbeats 1000000 in
theorem take_nil (f : Fr) (now : Int) (w : World) : Calls Try.prog 13 #[.pointer none, f.val, .int .i64 now] w fun e w' => e = .returned (.bool false) ∧ Below w.heap.size w w' := by
  simp only [Fr.val, Fr.cells]
  go_enter Try.func13, Try.ntmps13
  go_wp2
  go_quiet (fail)
  go_wp2
  go_ret
  exact ⟨rfl, below_drewN ((Below.refl _ _).alloc (Nat.le_refl _) _) _⟩
theorem holds_nil (now : Int) (w : World) : Calls Try.prog 14 #[.pointer none, .int .i64 now] w fun e w' => e = .returned (.bool false) ∧ Below w.heap.size w w' := by
  go_enter Try.func14, Try.ntmps14
  go_wp2
  go_quiet (fail)
  go_wp2
  go_ret
  exact ⟨rfl, below_drewN (Below.refl _ _) _⟩
theorem token_nil (w : World) : Calls Try.prog 15 #[.pointer none] w fun e w' => e = .returned (.int .i64 0) ∧ w' = w := by
  go_enter Try.func15, Try.ntmps15
  go_wp2
  go_ret
  exact ⟨rfl, rfl⟩
theorem refused_nil (w : World) : Calls Try.prog 16 #[.pointer none] w fun e w' => e = .returned (.bool false) ∧ w' = w := by
  go_enter Try.func16, Try.ntmps16
  go_wp2
  go_ret
  exact ⟨rfl, rfl⟩
theorem waits_nil (w : World) : Calls Try.prog 18 #[.pointer none] w fun e w' => e = .returned (.bool false) ∧ w' = w := by
  go_enter Try.func18, Try.ntmps18
  go_wp2
  go_ret
  exact ⟨rfl, rfl⟩
theorem copy_nil (w : World) : Calls Try.prog 17 #[.pointer none] w fun e w' => e = .returned (.pointer none) ∧ w' = w := by
  go_enter Try.func17, Try.ntmps17
  go_wp2
  go_ret
  exact ⟨rfl, rfl⟩
/-! ### Others -/
section
variable {C D : Nat} {s d : St} {W w w' : World}
theorem Has.beside (h : Has D d W w) (hK : Keep C w w') (hne : D ≠ C) (hC : W.heap.size ≤ C) : Has D d W w' := ⟨h.here.other hK hne, h.own, h.below.trans (hK.below hC h.below.size)⟩
theorem asks_two (s' : St) (now kind n token : Int) (b : Bool) (h : Has C s W w) (ok : s.Ok) (hs : (s.want now).1 = s') (hb : askedB kind n token (s.want now).2.1 (s.want now).2.2 = b) :
    Calls Try.prog 23 #[.pointer (some ⟨C, 0, none⟩), .int .i64 now, .int .u8 kind, .int .i64 n, .int .i64 token] w fun e w' => e = .returned (.bool b) ∧ Has C s' W w' ∧ Keep C w w' := by
  subst hs; subst hb
  exact (asks_any C s now kind n token w h.here ok).mono fun e w' ⟨he, hA, hK⟩ => ⟨he, h.kept hA hK, hK⟩
theorem want_two (s' : St) (f : Fr) (b : Bool) (now : Int) (h : Has C s W w) (ok : s.Ok) (hs : s.want now = (s', f, b)) :
    Calls Try.prog 12 #[.pointer (some ⟨C, 0, none⟩), .int .i64 now] w fun e w' => e = .returned (.tuple #[f.val, .bool b]) ∧ Has C s' W w' ∧ Keep C w w' := by
  have hc := want_any C s now w h.here ok
  rw [hs] at hc
  exact hc.mono fun e w' ⟨he, hA, hK⟩ => ⟨he, h.kept hA hK, hK⟩
theorem drop_two (s' : St) (f : Fr) (b : Bool) (now : Int) (h : Has C s W w) (hs : s.drop = (s', f, b)) :
    Calls Try.prog 19 #[.pointer (some ⟨C, 0, none⟩), .int .i64 now] w fun e w' => e = .returned (.tuple #[f.val, .bool b]) ∧ Has C s' W w' ∧ Keep C w w' := by
  have hc := drop_any C s now w h.here
  rw [hs] at hc
  exact hc.mono fun e w' ⟨he, hA, hK⟩ => ⟨he, h.kept hA hK, hK⟩
theorem holds_two (b : Bool) (now : Int) (h : Has C s W w) (ok : s.Ok) (hb : s.holds now = b) :
    Calls Try.prog 14 #[.pointer (some ⟨C, 0, none⟩), .int .i64 now] w fun e w' => e = .returned (.bool b) ∧ Has C s W w' ∧ Keep C w w' := by
  subst hb
  refine (holds_any C s now w h.here ok).mono fun e w' ⟨he, n, hw⟩ => ⟨he, ?_⟩
  subst hw; exact ⟨h.drewN n, (Keep.refl C w).drewN n⟩
theorem token_two (n : Int) (h : Has C s W w) (hn : s.token = n) : Calls Try.prog 15 #[.pointer (some ⟨C, 0, none⟩)] w fun e w' => e = .returned (.int .i64 n) ∧ w' = w := by
  subst hn; exact token_any C s w h.here
theorem refused_two (b : Bool) (h : Has C s W w) (hb : s.refused = b) : Calls Try.prog 16 #[.pointer (some ⟨C, 0, none⟩)] w fun e w' => e = .returned (.bool b) ∧ w' = w := by
  subst hb; exact refused_any C s w h.here
theorem waits_two (b : Bool) (h : Has C s W w) (hb : s.waits = b) : Calls Try.prog 18 #[.pointer (some ⟨C, 0, none⟩)] w fun e w' => e = .returned (.bool b) ∧ w' = w := by
  subst hb; exact waits_any C s w h.here
theorem bare_two (f g : Fr) (b : Bool) (w : World) (hb : f.same g = b) : Calls Try.prog 20 #[f.val, g.val] w fun e w' => e = .returned (.bool b) ∧ Below w.heap.size w w' := by
  subst hb; exact bare_any f g w
end
end Go.Proofs.Ytfbmjaelkijmnaa
