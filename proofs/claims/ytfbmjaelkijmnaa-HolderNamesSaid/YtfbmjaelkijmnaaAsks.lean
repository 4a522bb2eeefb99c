/-
  The walk of asks.
-/
import Derived.Test.YtfbmjaelkijmnaaWalks5
import Derived.Test.YtfbmjaelkijmnaaWant
namespace Go.Proofs.Ytfbmjaelkijmnaa
open Go.RowKit
def askedB (kind n token : Int) (f : Fr) (is : Bool) : Bool :=
  if (kind == 0) = true then !is && f.same .zero else is && f.same ⟨kind, 2, 1, 0, 0, n, token⟩
theorem node_any (w : World) : Calls Try.prog 22 #[] w fun e w' => e = .returned (.agg #[.int .i64 2, .int .i64 1]) ∧ Below w.heap.size w w' := by
  go_enter Try.func22, Try.ntmps22
  go_wp2
  refine bodyPost_ret (v := .agg #[.int .i64 2, .int .i64 1]) (by simp [results, Try.results22, go_sem]) rfl ⟨rfl, ?_⟩
  exact (Below.refl _ _).alloc (Nat.le_refl _) _
set_option maxRecDepth 100000 in
set_option maxHeartbeats 1000000 in
theorem asks_any (B : Nat) (s : St) (now kind n token : Int) (w : World) (h : At B s w) (ok : s.Ok) :
    Calls Try.prog 23 #[.pointer (some ⟨B, 0, none⟩), .int .i64 now, .int .u8 kind, .int .i64 n, .int .i64 token] w fun e w' =>
      e = .returned (.bool (askedB kind n token (s.want now).2.1 (s.want now).2.2)) ∧ At B (s.want now).1 w' ∧ Keep B w w' := by
  have hwant := want_any B s now w h ok
  generalize s.want now = x at hwant ⊢
  obtain ⟨s1, ⟨k1, b1, c1, d1, e1, f1, g1⟩, is⟩ := x
  have HWANT := Lib.hid hwant
  clear hwant
  go_enter Try.func23, Try.ntmps23
  go_wp2_with fail
  refine HWANT.out.mono ?_
  rintro e w1 ⟨rfl, hA, hK⟩
  have hlt := hA.lt
  simp only [Fr.val, Fr.cells]
  cases hk : kind == 0
  · cases is
    · go_wp2_with fail
      go_quiet (fail)
      go_wp2_with fail
      go_ret
      exact ⟨ret_b (by simp [askedB, hk]), (hA.alloc _).drewN _, (hK.alloc _).drewN _⟩
    · go_wp2_with fail
      have hb0 : Keep B w (w1.alloc (.cells (Fr.cells ⟨k1, b1, c1, d1, e1, f1, g1⟩) 37)).drew := (hK.alloc _).drew
      have hA0 : At B s1 (w1.alloc (.cells (Fr.cells ⟨k1, b1, c1, d1, e1, f1, g1⟩) 37)).drew := (hA.alloc _).drew
      go_region_held3 (fun v => v.cell? ⟨w1.heap.size, 0, none⟩ = some (.int .u8 k1) ∧ v.cell? ⟨w1.heap.size, 1, none⟩ = some (.int .i64 b1) ∧ v.cell? ⟨w1.heap.size, 2, none⟩ = some (.int .i64 c1) ∧ v.cell? ⟨w1.heap.size, 3, none⟩ = some (.int .i64 d1) ∧ v.cell? ⟨w1.heap.size, 4, none⟩ = some (.int .i64 e1) ∧ v.cell? ⟨w1.heap.size, 5, none⟩ = some (.int .i64 f1) ∧ v.cell? ⟨w1.heap.size, 6, none⟩ = some (.int .i64 g1) ∧ v.cell? ⟨w1.heap.size, 7, none⟩ = some (.int .i64 0) ∧ v.cell? ⟨w1.heap.size, 8, none⟩ = some (.int .i64 0) ∧ v.cell? ⟨w1.heap.size, 9, none⟩ = some (.slice none 0 0) ∧ v.cell? ⟨w1.heap.size, 10, none⟩ = some (.slice none 0 0) ∧ v.cell? ⟨w1.heap.size, 11, none⟩ = some (.slice none 0 0) ∧ v.cell? ⟨w1.heap.size, 12, none⟩ = some (.slice none 0 0) ∧ v.cell? ⟨w1.heap.size, 13, none⟩ = some (.slice none 0 0))
        (go_keep)
        (first
          | (go_at_call 22; refine (node_any _).mono ?_; rintro e w9 ⟨rfl, hb9⟩; have hc9 := fun (b o : Nat) (h : b < _) => hb9.cell (p := ⟨b, o, none⟩) h; have hs9 : w1.heap.size < w9.heap.size := by (have := hb9.size; simp at this; omega))
          | (go_at_call 20; refine (bare_any ⟨k1, b1, c1, d1, e1, f1, g1⟩ ⟨kind, 2, 1, 0, 0, n, token⟩ _).mono ?_; rintro e w8 ⟨rfl, hb8⟩; have hc8 := fun (b o : Nat) (h : b < _) => hb8.cell (p := ⟨b, o, none⟩) h))
      go_wp2_with fail
      go_ret
      have hb8' := then_below hb9 hb8
      exact ⟨ret_b (by simp [askedB, hk]), hA0.kept hb8', hb0.trans (Keep.of_below hb8')⟩
  · cases is
    · go_wp2_with fail
      refine (bare_any ⟨k1, b1, c1, d1, e1, f1, g1⟩ .zero _).mono ?_
      rintro e w8 ⟨rfl, hb8⟩
      go_wp2_with fail
      go_ret
      exact ⟨ret_b (by simp [askedB, hk]), (hA.alloc _).kept hb8, (hK.alloc _).trans (Keep.of_below hb8)⟩
    · go_wp2_with fail
      go_ret
      exact ⟨ret_b (by simp [askedB, hk]), hA.alloc _, hK.alloc _⟩
end Go.Proofs.Ytfbmjaelkijmnaa
