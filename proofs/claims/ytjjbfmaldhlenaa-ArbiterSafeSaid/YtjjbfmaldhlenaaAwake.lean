/-
  The walks of what the examples are made of: a question that is asked, three ticks.
-/
import Derived.Test.YtjjbfmaldhlenaaWalks6
namespace Go.Proofs.Ytjjbfmaldhlenaa
open Go.RowKit
set_option linter.unusedVariables false
set_option linter.unusedSimpArgs false
attribute [local go_sem ↓] Go.wp_at_zero Go.wp_at_succ
theorem zeros_fold : #[.int .u8 0, .int .i64 0, .int .i64 0, .int .i64 0, .int .i64 0, .int .i64 0, .int .i64 0, .int .i64 0, .int .i64 0, .slice none 0 0, .slice none 0 0, .slice none 0 0, .slice none 0 0, .slice none 0 0] = Fr.zero.cells := rfl
theorem cell_zero (w : World) (g o : Nat) (c : Array Value) (h : w.heap[g]? = some (.cells c 48 (0, 0))) : w.cell? ⟨g, o, none⟩ = c[o]? := cell_of_row _ _ _ _ _ _ h
/-- The result's block of a function, behind what it calls. -/
structure Spare (B : Nat) (s : St) (w : World) (g : Nat) (v : World) : Prop where
  here : At B s v
  keep : Keep B w v
  res : v.heap[g]? = some (.cells Fr.zero.cells 48 (0, 0))
theorem Spare.lt {B : Nat} {s : St} {w : World} {g : Nat} {v : World} (h : Spare B s w g v) : g < v.heap.size := (Array.getElem?_eq_some_iff.1 h.res).1
theorem Spare.alloc {B : Nat} {s : St} {w : World} {g : Nat} {v : World} (h : Spare B s w g v) (o : Obj) : Spare B s w g (v.alloc o) :=
  ⟨h.here.alloc o, h.keep.alloc o, by rw [Below.heap_alloc _ _ _ h.lt]; exact h.res⟩
theorem Spare.drew {B : Nat} {s : St} {w : World} {g : Nat} {v : World} (h : Spare B s w g v) : Spare B s w g v.drew := ⟨h.here, h.keep.drew, h.res⟩
theorem Spare.kept {B : Nat} {s : St} {w : World} {g : Nat} {v v' : World} (h : Spare B s w g v) (hb : Below v.heap.size v v') : Spare B s w g v' :=
  ⟨h.here.kept hb, h.keep.trans (Keep.of_below hb), (hb.block _ h.lt).trans h.res⟩
theorem Spare.turn {B : Nat} {s s' : St} {w : World} {g : Nat} {v v' : World} (h : Spare B s w g v) (hA : At B s' v') (hK : Keep B v v') (hg : g ≠ B) : Spare B s' w g v' :=
  ⟨hA, h.keep.trans hK, (hK.block _ h.lt hg).trans h.res⟩
theorem Spare.lay {B : Nat} {s : St} {w : World} {r g : Nat} {v v' : World} (h : Spare B s w r v) (hK : Keep g v v') (h1 : B ≠ g) (h2 : r ≠ g) (h3 : w.heap.size ≤ g) : Spare B s w r v' :=
  ⟨h.here.other hK h1, ⟨hK.os.trans h.keep.os, hK.tape.trans h.keep.tape, hK.output.trans h.keep.output, Nat.le_trans h.keep.size hK.size, fun k hk hB => (hK.block k (Nat.lt_of_lt_of_le hk h.keep.size) (by omega)).trans (h.keep.block k hk hB)⟩, (hK.block _ h.lt h2).trans h.res⟩
set_option maxRecDepth 100000 in
set_option maxHeartbeats 4000000 in
theorem ask_any (B Bp : Nat) (s : St) (who n : Int) (w : World) (h : At B s w) (ok : s.Ok) (hp : w.cell? ⟨Bp, 0, none⟩ = some (.pointer (some ⟨B, 0, none⟩))) (hBp : Bp < w.heap.size) :
    Calls Try.prog 25 #[.int .i64 who, .int .i64 n, .pointer (some ⟨Bp, 0, none⟩)] w fun e w' =>
      e = .returned (s.take ⟨9, who, 1, 0, 0, n, 0⟩).fr.val ∧ At B (s.take ⟨9, who, 1, 0, 0, n, 0⟩).st w' ∧ Keep B w w' := by
  have hlt := h.lt
  have hlt1 : B < w.heap.size + 1 := by omega
  have hBp1 : Bp < w.heap.size + 1 := by omega
  have hBp2 : Bp < w.heap.size + 1 + 1 := by omega
  have hs0 : Spare B s w w.heap.size (w.alloc (.cells Fr.zero.cells 48)) := ⟨h.alloc _, (Keep.refl B w).alloc _, heap_alloc_new _ _⟩
  have HS := Lib.hid hs0
  clear hs0
  go_enter Try.func25, Try.ntmps25
  go_upto_region 1 with fail
  go_cut [6] (fun v wx => ∃ g, v = .pointer (some ⟨g, 0, none⟩) ∧ w.heap.size < g ∧ Spare B (s.take ⟨9, who, 1, 0, 0, n, 0⟩).st w w.heap.size wx ∧ wx.heap[g]? = some (.cells (s.take ⟨9, who, 1, 0, 0, n, 0⟩).fr.cells 48 (0, 0)))
  case first =>
    first | (go_region_with (first
      | (go_at_call 12; refine (at_any who _).mono ?_; rintro e w1 ⟨rfl, hb1⟩; have hc1 := fun (b o : Nat) (hbo : b < _) => hb1.cell (p := ⟨b, o, none⟩) hbo; have hS1 : Spare B s w w.heap.size w1 := (by first | exact HS.out.drew.kept hb1 | exact (HS.out.drew.alloc _).kept hb1); have hz1 := hS1.lt; have hBp3 : Bp < w1.heap.size := Nat.lt_trans hBp hz1; have hz3 := hb1.size; simp at hz3)
      | (go_at_call 13; go_loud (refine (take_any B s ⟨9, who, 1, 0, 0, n, 0⟩ _ (by first | exact hS1.here | exact hS1.here.alloc _) ok (by simp) (by simp)).mono ?_; rintro e w2 ⟨rfl, hA2, hK2⟩; have hS2 : Spare B (s.take ⟨9, who, 1, 0, 0, n, 0⟩).st w w.heap.size w2 := (by first | exact hS1.turn hA2 hK2 (by omega) | exact (hS1.alloc _).turn hA2 hK2 (by omega)); simp only [Ans.val, Fr.val]; have hz2 := hS2.lt; first | (have hq1 : w.heap.size + 1 + 1 ≤ w1.heap.size := hz3; obtain ⟨w3, hst, hf3, hK3⟩ := Fr.lay (s.take ⟨9, who, 1, 0, 0, n, 0⟩).fr w2 (w.heap.size + 1) Fr.zero.cells ((hK2.block (w.heap.size + 1) (by omega) (by omega)).trans ((hb1.block (w.heap.size + 1) (by simp)).trans (heap_new (by simp)))) rfl; have hS3 := hS2.lay hK3 (by omega) (by omega) (by omega)) | (have hq1 : Keep B (w1.alloc _) w2 := hK2; obtain ⟨w3, hst, hf3, hK3⟩ := Fr.lay (s.take ⟨9, who, 1, 0, 0, n, 0⟩).fr w2 w1.heap.size Fr.zero.cells ((hK2.block w1.heap.size (by simp) (by omega)).trans (heap_alloc_new _ _)) rfl; have hS3 := hS2.lay hK3 (by omega) (by omega) (by omega)) | (obtain ⟨w3, hst, hf3, hK3⟩ := Fr.lay (s.take ⟨9, who, 1, 0, 0, n, 0⟩).fr (w2.alloc (.cells #[.int .u8 0, .int .i64 0, .int .i64 0, .int .i64 0, .int .i64 0, .int .i64 0, .int .i64 0, .int .i64 0, .int .i64 0, .slice none 0 0, .slice none 0 0, .slice none 0 0, .slice none 0 0, .slice none 0 0] 48)) w2.heap.size #[.int .u8 0, .int .i64 0, .int .i64 0, .int .i64 0, .int .i64 0, .int .i64 0, .int .i64 0, .int .i64 0, .int .i64 0, .slice none 0 0, .slice none 0 0, .slice none 0 0, .slice none 0 0, .slice none 0 0] (heap_alloc_new _ _) rfl; have hS3 := (hS2.alloc (.cells #[.int .u8 0, .int .i64 0, .int .i64 0, .int .i64 0, .int .i64 0, .int .i64 0, .int .i64 0, .int .i64 0, .int .i64 0, .slice none 0 0, .slice none 0 0, .slice none 0 0, .slice none 0 0, .slice none 0 0] 48)).lay hK3 (by omega) (by omega) (by omega)))))) | fail
    all_goals
      go_wp2_with fail
      go_meet
      case rel => exact ⟨_, rfl, by omega, hS3, hf3⟩
  case rest =>
    obtain ⟨g, rfl, hg, hS, hf⟩ := hcut
    obtain ⟨r, hr⟩ : ∃ r, r = s.take ⟨9, who, 1, 0, 0, n, 0⟩ := ⟨_, rfl⟩
    rw [← hr] at hS hf
    have HR := Lib.hid hr
    clear hr
    obtain ⟨b0, b1, b2, b3, b4, b5, b6, b7, b8, b9, b10, b11, b12, b13⟩ := Fr.reads hf
    obtain ⟨w3, hst, hf3, hK3⟩ := Fr.lay r.fr wc w.heap.size Fr.zero.cells hS.res rfl
    have hfold : (#[.int .u8 r.fr.kind, .int .i64 r.fr.fa, .int .i64 r.fr.fi, .int .i64 r.fr.ta, .int .i64 r.fr.ti, .int .i64 r.fr.n, .int .i64 r.fr.token, .int .i64 0, .int .i64 0, .slice none 0 0, .slice none 0 0, .slice none 0 0, .slice none 0 0, .slice none 0 0] : Array Value) = r.fr.cells := rfl
    have hA3 := hS.here.other hK3 (by omega)
    have HK : Hid (Keep B w w3) := Lib.hid ⟨hK3.os.trans hS.keep.os, hK3.tape.trans hS.keep.tape, hK3.output.trans hS.keep.output, Nat.le_trans hS.keep.size hK3.size, fun k hk hB => (hK3.block k (Nat.lt_of_lt_of_le hk hS.keep.size) (by omega)).trans (hS.keep.block k hk hB)⟩
    have HF := Lib.hid hf3
    clear hf3 hK3 hS hf
    go_wp2_with fail
    refine bodyPost_ret (v := r.fr.val) ?_ rfl ⟨by rw [HR.out], by rw [← HR.out]; exact hA3, HK.out⟩
    simp [results, Try.results25, asAddr, Fr.load r.fr w3 w.heap.size HF.out, Fr.val]
end Go.Proofs.Ytjjbfmaldhlenaa
