/-
  The walk of ask.
-/
import Derived.Test.YtfbmjaelkijmnaaWalks2
namespace Go.Proofs.Ytfbmjaelkijmnaa
open Go.RowKit
set_option maxRecDepth 100000 in
set_option maxHeartbeats 400000 in
theorem ask_any (B : Nat) (s : St) (kind t : Int) (w : World) (h : At B s w) (ok : s.Ok) :
    Calls Try.prog 35 #[.pointer (some ⟨B, 0, none⟩), .int .u8 kind, .int .i64 t] w fun e w' => e = .returned (.tuple #[(s.asks kind).val, .bool true]) ∧ At B (s.ask kind t) w' ∧ Keep B w w' := by
  have hlt := h.lt
  obtain ⟨c0, c1, -, -, c4, c5, c6, c7, c8, -⟩ := h.reads
  have f4 := h.free 4
  have f5 := h.free 5
  have f6 := h.free 6
  have f7 := h.free 7
  have n1 := ok.n1
  have n2 := ok.n2
  go_enter Try.func35, Try.ntmps35
  go_wp2
  go_region
  go_wp2
  refine bodyPost_ret (v := .tuple #[(s.asks kind).val, .bool true]) (by simp [results, Try.results35, go_sem, Fr.val, Fr.cells, St.asks]) rfl ⟨rfl, ?_, ?_⟩
  · exact (((((h.set 4 _ { s with n := s.n + 1 } rfl).set 5 _ { s with n := s.n + 1, asked := t } rfl).set 6 _ { s with n := s.n + 1, asked := t, waits := true } rfl).set 7 _ (s.ask kind t) rfl).alloc _).drew
  · exact ((((((Keep.refl B w).setCell (.inl rfl) _).setCell (.inl rfl) _).setCell (.inl rfl) _).setCell (.inl rfl) _).alloc _).drew
theorem ask_ok (s : St) (kind t : Int) (ok : s.Ok) (hn : s.n < 1000000) (t0 : 0 ≤ t) (t1 : t ≤ 1099511627776) : (s.ask kind t).Ok :=
  ⟨ok.h1, ok.h2, ok.r1, ok.r2, by have := ok.n1; simp only [St.ask]; omega, by simp only [St.ask]; omega, t0, t1, ok.s1, ok.s2⟩
theorem none_ok (s : St) (ok : s.Ok) : s.none.Ok :=
  ⟨ok.h1, ok.h2, ok.r1, ok.r2, ok.n1, ok.n2, ok.a1, ok.a2, by simp [St.none], by simp [St.none]⟩
end Go.Proofs.Ytfbmjaelkijmnaa
