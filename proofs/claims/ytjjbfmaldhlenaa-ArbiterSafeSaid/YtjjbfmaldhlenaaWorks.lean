/-
  The examples that each law asks first.
-/
import Derived.Test.YtjjbfmaldhlenaaAwake
namespace Go.Proofs.Ytjjbfmaldhlenaa
open Go.RowKit
set_option linter.unusedVariables false
set_option linter.unusedSimpArgs false
attribute [local go_sem ↓] Go.wp_at_zero Go.wp_at_succ
def St.ticks (s : St) (k : Int) : St := { s with now := s.now + k }
set_option maxRecDepth 100000 in
set_option maxHeartbeats 1000000 in
theorem ticks_any (B Bp : Nat) (s : St) (w : World) (h : At B s w) (ok : s.Ok) (hn : s.now ≤ 100000) (hp : w.cell? ⟨Bp, 0, none⟩ = some (.pointer (some ⟨B, 0, none⟩))) (hBp : Bp < w.heap.size) (hne : Bp ≠ B) :
    Calls Try.prog 26 #[.pointer (some ⟨Bp, 0, none⟩)] w fun e w' => e = .returned (.tuple #[]) ∧ At B (s.ticks 3) w' ∧ Keep B w w' := by
  go_enter Try.func26, Try.ntmps26
  go_wp2_with fail
  go_loopw [1] (fun i wr => ∃ k : Nat, k ≤ 3 ∧ i = .int .i64 k ∧ At B (s.ticks k) wr ∧ Keep B w wr) (fun i _ => 3 - (intOf i).toNat)
  case atStart => exact ⟨0, by omega, rfl, by simpa [St.ticks] using h, Keep.refl B w⟩
  case round =>
    obtain ⟨k, hk, rfl, hA, hK⟩ := hrel
    have hp' := (hK.cell (p := ⟨Bp, 0, none⟩) hBp hne).trans hp
    by_cases hlt : k < 3
    · go_wp2_with fail
      refine (tick_any B (s.ticks k) _ hA ⟨ok.t1, ok.t2, by have := ok.n1; simp only [St.ticks]; omega, by simp only [St.ticks]; omega, ok.k1, ok.k2⟩).mono ?_
      rintro e w1 ⟨rfl, hA1, hK1⟩
      have hA2 : At B (s.ticks ((k + 1 : Nat) : Int)) w1 := by
        have e : (s.ticks k).tick = s.ticks ((k + 1 : Nat) : Int) := by simp only [St.ticks, St.tick]; congr 1; omega
        rw [← e]; exact hA1
      have hK2 := hK.trans hK1
      clear hA1 hK1 hp'
      go_wp2_with fail
      refine ⟨⟨k + 1, by omega, by go_num, hA2, hK2⟩, ?_⟩
      simp only [intOf]; omega
    · obtain rfl : k = 3 := by omega
      go_wp2_with fail
      go_end0
      exact ⟨rfl, hA, hK⟩
/-- The examples' own arbiter, and the variable that the closures see. -/
structure Aw (B Bp : Nat) (s : St) (W w : World) : Prop where
  here : At B s w
  ptr : w.heap[Bp]? = some (.cells #[.pointer (some ⟨B, 0, none⟩)] 25 (0, 0))
  below : Below W.heap.size W w
  own : W.heap.size ≤ B
  ne : Bp ≠ B
theorem Aw.lt {B Bp : Nat} {s : St} {W w : World} (h : Aw B Bp s W w) : Bp < w.heap.size := (Array.getElem?_eq_some_iff.1 h.ptr).1
theorem Aw.cell {B Bp : Nat} {s : St} {W w : World} (h : Aw B Bp s W w) : w.cell? ⟨Bp, 0, none⟩ = some (.pointer (some ⟨B, 0, none⟩)) := by
  rw [cell_of_row _ _ _ _ _ _ h.ptr]; rfl
theorem Aw.kept {B Bp : Nat} {s s' : St} {W w w' : World} (h : Aw B Bp s W w) (hA : At B s' w') (hK : Keep B w w') : Aw B Bp s' W w' :=
  ⟨hA, (hK.block _ h.lt h.ne).trans h.ptr, h.below.trans (hK.below h.own h.below.size), h.own, h.ne⟩
theorem Aw.alloc {B Bp : Nat} {s : St} {W w : World} (h : Aw B Bp s W w) (o : Obj) : Aw B Bp s W (w.alloc o) := h.kept (h.here.alloc o) ((Keep.refl B w).alloc o)
theorem Aw.drew {B Bp : Nat} {s : St} {W w : World} (h : Aw B Bp s W w) : Aw B Bp s W w.drew := h.kept h.here ((Keep.refl B w).drew)
theorem ask_of {B Bp : Nat} {s : St} (s' : St) (f : Fr) (who n : Int) {W w : World} (h : Aw B Bp s W w) (ok : s.Ok) (hs : (s.take ⟨9, who, 1, 0, 0, n, 0⟩).st = s') (hf : (s.take ⟨9, who, 1, 0, 0, n, 0⟩).fr = f) :
    Calls Try.prog 25 #[.int .i64 who, .int .i64 n, .pointer (some ⟨Bp, 0, none⟩)] w fun e w' => e = .returned f.val ∧ Aw B Bp s' W w' ∧ Keep B w w' := by
  subst hs; subst hf
  exact (ask_any B Bp s who n w h.here ok h.cell h.lt).mono fun e w' ⟨he, hA, hK⟩ => ⟨he, h.kept hA hK, hK⟩
theorem ticks_of {B Bp : Nat} {s : St} (s' : St) {W w : World} (h : Aw B Bp s W w) (ok : s.Ok) (hn : s.now ≤ 100000) (hs : s.ticks 3 = s') :
    Calls Try.prog 26 #[.pointer (some ⟨Bp, 0, none⟩)] w fun e w' => e = .returned (.tuple #[]) ∧ Aw B Bp s' W w' ∧ Keep B w w' := by
  subst hs
  exact (ticks_any B Bp s w h.here ok hn h.cell h.lt h.ne).mono fun e w' ⟨he, hA, hK⟩ => ⟨he, h.kept hA hK, hK⟩
/-- A frame lies whole in a block. -/
def Lies (g : Nat) (f : Fr) (w : World) : Prop := w.heap[g]? = some (.cells f.cells 48 (0, 0))
theorem Lies.lt {g : Nat} {f : Fr} {w : World} (h : Lies g f w) : g < w.heap.size := (Array.getElem?_eq_some_iff.1 h).1
theorem Lies.kept {g B : Nat} {f : Fr} {w w' : World} (h : Lies g f w) (hK : Keep B w w') (hg : g ≠ B) : Lies g f w' := (hK.block _ h.lt hg).trans h
theorem Lies.alloc {g : Nat} {f : Fr} {w : World} (h : Lies g f w) (o : Obj) : Lies g f (w.alloc o) := by
  unfold Lies; rw [Below.heap_alloc _ _ _ h.lt]; exact h
set_option maxRecDepth 100000 in
set_option maxHeartbeats 4000000 in
theorem awake_any (W : World) : Calls Try.prog 7 #[] W fun e w' => e = .returned (.bool true) ∧ Below W.heap.size W w' := by
  go_enter Try.func7, Try.ntmps7
  go_wp2_with fail
  refine (new_yes 3 W (by decide) (by decide)).mono ?_
  rintro e w1 ⟨rfl, hA, hb⟩
  have hlt := hA.lt
  have h1 : Aw W.heap.size w1.heap.size ⟨3, 0, 0, 0, 0, 0⟩ W (w1.alloc (.cells #[.pointer (some ⟨W.heap.size, 0, none⟩)] 25)) :=
    ⟨hA.alloc _, heap_alloc_new _ _, hb.alloc hb.size _, Nat.le_refl _, by omega⟩
  have hBp : w1.heap.size < w1.heap.size + 1 := by omega
  clear hA hb
  go_wp2_with fail
  refine (ask_of ⟨3, 0, 0, 0, 0, 0⟩ ⟨13, 0, 0, 1, 1, 7, 0⟩ 1 7 h1 (by constructor <;> decide) rfl rfl).mono ?_
  rintro e w2 ⟨rfl, h2, -⟩
  have hz2 := h2.lt
  have q2 : Lies w2.heap.size ⟨13, 0, 0, 1, 1, 7, 0⟩ (w2.alloc (.cells (Fr.cells ⟨13, 0, 0, 1, 1, 7, 0⟩) 48)) := heap_alloc_new _ _
  have hA2 := (h2.alloc (.cells (Fr.cells ⟨13, 0, 0, 1, 1, 7, 0⟩) 48))
  have hy2 := h2.here.lt
  clear h1 h2
  simp only [Fr.val, Fr.cells]
  go_wp2_with fail
  refine (ticks_of ⟨3, 3, 0, 0, 0, 0⟩ hA2 (by constructor <;> decide) (by decide) rfl).mono ?_
  rintro e w3 ⟨rfl, h3, hK3⟩
  have q3 := q2.kept hK3 (by omega)
  clear hK3 q2 hA2
  go_wp2_with fail
  refine (ask_of ⟨3, 3, 1, 1, 1, 6⟩ ⟨12, 0, 0, 1, 1, 7, 1⟩ 1 7 h3 (by constructor <;> decide) rfl rfl).mono ?_
  rintro e w4 ⟨rfl, h4, hK4⟩
  have q4 := q3.kept hK4 (by omega)
  clear hK4 q3 h3
  simp only [Fr.val, Fr.cells]
  go_wp2_with fail
  refine (ask_of ⟨3, 3, 1, 1, 1, 6⟩ ⟨13, 0, 0, 2, 1, 8, 0⟩ 2 8 h4 (by constructor <;> decide) rfl rfl).mono ?_
  rintro e w5 ⟨rfl, h5, hK5⟩
  have q5 := q4.kept hK5 (by omega)
  clear hK5 q4 h4
  have hz5 := h5.here.lt
  have r5 : Lies w5.heap.size ⟨12, 0, 0, 1, 1, 7, 1⟩ ((w5.alloc (.cells (Fr.cells ⟨12, 0, 0, 1, 1, 7, 1⟩) 48)).alloc (.cells (Fr.cells ⟨13, 0, 0, 2, 1, 8, 0⟩) 48)) := Lies.alloc (heap_alloc_new _ _) _
  have t5 : Lies (w5.heap.size + 1) ⟨13, 0, 0, 2, 1, 8, 0⟩ ((w5.alloc (.cells (Fr.cells ⟨12, 0, 0, 1, 1, 7, 1⟩) 48)).alloc (.cells (Fr.cells ⟨13, 0, 0, 2, 1, 8, 0⟩) 48)) := heap_new (by simp)
  have hA5 := (h5.alloc (.cells (Fr.cells ⟨12, 0, 0, 1, 1, 7, 1⟩) 48)).alloc (.cells (Fr.cells ⟨13, 0, 0, 2, 1, 8, 0⟩) 48)
  have qa5 := (q5.alloc (.cells (Fr.cells ⟨12, 0, 0, 1, 1, 7, 1⟩) 48)).alloc (.cells (Fr.cells ⟨13, 0, 0, 2, 1, 8, 0⟩) 48)
  clear q5
  simp only [Fr.val, Fr.cells]
  go_wp2_with fail
  refine (ticks_of ⟨3, 6, 1, 1, 1, 6⟩ hA5 (by constructor <;> decide) (by decide) rfl).mono ?_
  rintro e w6 ⟨rfl, h6, hK6⟩
  have q6 := qa5.kept hK6 (by omega)
  have r6 := r5.kept hK6 (by omega)
  have t6 := t5.kept hK6 (by omega)
  clear hK6 r5 t5 qa5 hA5 h5
  go_wp2_with fail
  refine (ask_of ⟨3, 6, 2, 2, 1, 9⟩ ⟨12, 0, 0, 2, 1, 9, 2⟩ 2 9 h6 (by constructor <;> decide) rfl rfl).mono ?_
  rintro e w7 ⟨rfl, h7, hK7⟩
  have q7 := q6.kept hK7 (by omega)
  have r7 := r6.kept hK7 (by omega)
  have t7 := t6.kept hK7 (by omega)
  have HB := Lib.hid (h7.alloc (.cells (Fr.cells ⟨12, 0, 0, 2, 1, 9, 2⟩) 48)).below
  clear hK7 q6 r6 t6 h6
  have l2 := q7.lt
  have l5 := r7.lt
  have l5' := t7.lt
  have m2 : w2.heap.size < w7.heap.size + 1 := by omega
  have m5 : w5.heap.size < w7.heap.size + 1 := by omega
  have m5' : w5.heap.size + 1 < w7.heap.size + 1 := by omega
  have m7 : w7.heap.size < w7.heap.size + 1 := by omega
  obtain ⟨b0, -, -, b3, b4, b5, -⟩ := Fr.reads q7
  obtain ⟨c0, -, -, -, -, -, c6, -⟩ := Fr.reads r7
  obtain ⟨d0, -⟩ := Fr.reads t7
  clear q7 r7 t7 h7
  simp only [Fr.val, Fr.cells]
  go_wp2_with fail
  have HB' := Lib.hid HB.out.drew
  go_region_held3 (fun v => v.cell? ⟨w2.heap.size, 0, none⟩ = some (.int .u8 13) ∧ v.cell? ⟨w2.heap.size, 3, none⟩ = some (.int .i64 1) ∧ v.cell? ⟨w2.heap.size, 4, none⟩ = some (.int .i64 1) ∧ v.cell? ⟨w2.heap.size, 5, none⟩ = some (.int .i64 7) ∧ v.cell? ⟨w5.heap.size, 0, none⟩ = some (.int .u8 12) ∧ v.cell? ⟨w5.heap.size, 6, none⟩ = some (.int .i64 1) ∧ v.cell? ⟨w5.heap.size + 1, 0, none⟩ = some (.int .u8 13) ∧ v.cell? ⟨w7.heap.size, 0, none⟩ = some (.int .u8 12) ∧ v.cell? ⟨w7.heap.size, 6, none⟩ = some (.int .i64 2))
    (go_keep)
    (first
      | (go_at_call 12; refine (at_any 1 _).mono ?_; rintro e w9 ⟨rfl, hb9⟩; have hc9 := fun (b o : Nat) (h : b < _) => hb9.cell (p := ⟨b, o, none⟩) h))
  go_wp2_with fail
  go_ret
  exact ⟨rfl, HB'.out.trans (hb9.mono (by have := HB.out.size; simp at this ⊢; omega))⟩
end Go.Proofs.Ytjjbfmaldhlenaa
