/-
  The walks of Take, Clear, All.
-/
import Derived.Test.YtjdhdmljchnidaaPut
namespace Go.Proofs.Ytjdhdmljchnidaa
open Go.RowKit
set_option linter.unusedVariables false
set_option linter.unusedSimpArgs false
attribute [local go_sem ↓] Go.wp_at_zero Go.wp_at_succ
/-- What a call leaves of the box. -/
theorem take_none (P B : Nat) (v : Value) (n : N) (w : World) (h : Nt P B v n w) (hs : n.any = false) :
    Calls Try.prog 14 #[.pointer (some ⟨B, 0, none⟩)] w fun e w' => e = .returned (.tuple #[Fr.zero.val, .bool false]) ∧ Below w.heap.size w w' := by
  have hl : n.l = [] := by simpa [N.any] using hs
  have hz : n.l.length = 0 := by rw [hl]; rfl
  have HZ := Lib.hid hz
  clear hz hl hs
  have hlt := h.lt
  have hN := h.alloc (.cells #[.int .u8 0, .int .i64 0, .int .i64 0, .int .i64 0, .int .i64 0, .int .i64 0, .int .i64 0, .int .i64 0, .int .i64 0, .slice none 0 0, .slice none 0 0, .slice none 0 0, .slice none 0 0, .slice none 0 0] 38)
  have HN := Lib.hid hN
  clear hN
  go_enter Try.func14, Try.ntmps14
  go_wp2_with fail
  refine (len_any P B v n _ HN.out).mono ?_
  rintro e w1 ⟨rfl, rfl⟩
  rw [HZ.out]
  go_wp2_with fail
  refine bodyPost_ret (v := .tuple #[.agg #[.int .u8 0, .int .i64 0, .int .i64 0, .int .i64 0, .int .i64 0, .int .i64 0, .int .i64 0, .int .i64 0, .int .i64 0, .slice none 0 0, .slice none 0 0, .slice none 0 0, .slice none 0 0, .slice none 0 0], .bool false]) (by simp [results, Try.results14, go_sem]) rfl ⟨rfl, ?_⟩
  exact (Below.refl _ _).alloc (Nat.le_refl _) _
theorem take_nil (w : World) : Calls Try.prog 14 #[.pointer none] w fun e w' => e = .returned (.tuple #[Fr.zero.val, .bool false]) ∧ Below w.heap.size w w' := by
  go_enter Try.func14, Try.ntmps14
  go_wp2_with fail
  refine (len_nil _).mono ?_
  rintro e w1 ⟨rfl, rfl⟩
  go_wp2_with fail
  refine bodyPost_ret (v := .tuple #[.agg #[.int .u8 0, .int .i64 0, .int .i64 0, .int .i64 0, .int .i64 0, .int .i64 0, .int .i64 0, .int .i64 0, .int .i64 0, .slice none 0 0, .slice none 0 0, .slice none 0 0, .slice none 0 0, .slice none 0 0], .bool false]) (by simp [results, Try.results14, go_sem]) rfl ⟨rfl, ?_⟩
  exact (Below.refl _ _).alloc (Nat.le_refl _) _
/-- Behind the deletion of the first. -/
theorem Nt.took {P B g r cap : Nat} {n : N} {w V w2 : World} (hN : Nt P B (.slice (some ⟨g, 0, none⟩) n.l.length cap) n V) (hT : Turn B (.slice (some ⟨g, 0, none⟩) n.l.length cap) (.slice (some ⟨g, 0, none⟩) n.l.length cap) w V) (hr : n.l.length = r + 1) (hgB : g ≠ B)
    (hr2 : w2.ownsRow P 38 14 (.slice (some ⟨g, 0, none⟩) r cap) r ((rows n.l).take (0 * 14) ++ (rows n.l).drop ((0 + 1) * 14))) (hg2 : V.grownBy w2 (some g)) : Nt P B (.slice (some ⟨g, 0, none⟩) r cap) n.take (w2.setCell ⟨B, 1, none⟩ (.slice (some ⟨g, 0, none⟩) r cap)) ∧ Turn B (.slice (some ⟨g, 0, none⟩) n.l.length cap) (.slice (some ⟨g, 0, none⟩) r cap) w (w2.setCell ⟨B, 1, none⟩ (.slice (some ⟨g, 0, none⟩) r cap)) := by
  have hB2 := (hg2.block B hN.lt (by simp; omega)).trans hN.here
  have hT2 := hT.grown (v'' := .slice (some ⟨g, 0, none⟩) r cap) hg2 (fun k hk => .inl hk)
  have hlen : n.take.l.length = r := by simp [N.take]; omega
  refine ⟨Nt.set (n := n.take) hB2 ?_ (by simp [Value.ownBlock]; omega) hN.ok.take hN.pB, hT2.setCell (.inl rfl) _⟩
  rw [hlen]
  have e : rows n.take.l = (rows n.l).take (0 * 14) ++ (rows n.l).drop ((0 + 1) * 14) := by
    unfold N.take
    cases n.l with
    | nil => rfl
    | cons a l => simp [rows, Fr.cells]
  rw [e]; exact hr2
theorem Did.trans {P B : Nat} {v v' : Value} {n : N} {a b c : World} (h : Turn B v v' a b) (k : Did P B v' n b c) : Did P B v n a c := by
  obtain ⟨u, hN, hT⟩ := k; exact ⟨u, hN, h.trans hT⟩
theorem Fr.laid_stay0 (f : Fr) (w : World) (q : Nat) : Stay q w (f.laid w q) := (((((((((((((((Stay.refl q w).setCell (p := ⟨q, 0, none⟩) (.inl rfl) (.int .u8 f.kind)).setCell (p := ⟨q, 1, none⟩) (.inl rfl) (.int .i64 f.fa)).setCell (p := ⟨q, 2, none⟩) (.inl rfl) (.int .i64 f.fi)).setCell (p := ⟨q, 3, none⟩) (.inl rfl) (.int .i64 f.ta)).setCell (p := ⟨q, 4, none⟩) (.inl rfl) (.int .i64 f.ti)).setCell (p := ⟨q, 5, none⟩) (.inl rfl) (.int .i64 f.n)).setCell (p := ⟨q, 6, none⟩) (.inl rfl) (.int .i64 f.token)).setCell (p := ⟨q, 7, none⟩) (.inl rfl) (.int .i64 f.ba)).setCell (p := ⟨q, 8, none⟩) (.inl rfl) (.int .i64 f.bi)).setCell (p := ⟨q, 9, none⟩) (.inl rfl) (.slice f.ms.a f.ms.n f.ms.c)).setCell (p := ⟨q, 10, none⟩) (.inl rfl) (.slice f.fs.a f.fs.n f.fs.c)).setCell (p := ⟨q, 11, none⟩) (.inl rfl) (.slice f.rs.a f.rs.n f.rs.c)).setCell (p := ⟨q, 12, none⟩) (.inl rfl) (.slice f.cs.a f.cs.n f.cs.c)).setCell (p := ⟨q, 13, none⟩) (.inl rfl) (.slice f.ss.a f.ss.n f.ss.c))
theorem del_0 (P g cap len r : Nat) (hlr : len = r + 1) (xs : List Value) (w : World) (h : w.ownsRow P 38 14 (.slice (some ⟨g, 0, none⟩) len cap) len xs) (hi : 0 < len) (h1 : ∀ u ∈ xs, u.oneCell' = true) :
    Calls Try.prog 32 #[.slice (some ⟨g, 0, none⟩) len cap, .int .i64 0, .int .i64 1] w fun e w' => e = .returned (.slice (some ⟨g, 0, none⟩) r cap) ∧
      w'.ownsRow P 38 14 (.slice (some ⟨g, 0, none⟩) r cap) r (xs.take (0 * 14) ++ xs.drop ((0 + 1) * 14)) ∧ w.grownBy w' (some g) := del_len P g cap len r hlr xs 0 w h hi h1
theorem head_eq (l : List Fr) (h : 0 < l.length) : l.headD .zero = l[0] := by
  cases l with
  | nil => cases h
  | cons a l => rfl
set_option maxRecDepth 100000 in
set_option maxHeartbeats 4000000 in
theorem take_some (P B : Nat) (v : Value) (n : N) (w : World) (h : Nt P B v n w) (hs : n.any = true) :
    Calls Try.prog 14 #[.pointer (some ⟨B, 0, none⟩)] w fun e w' => e = .returned (.tuple #[n.head.val, .bool true]) ∧ Did P B v n.take w w' := by
  obtain ⟨r, hr⟩ : ∃ r, n.l.length = r + 1 := ⟨n.l.length - 1, by
    have : n.l ≠ [] := by simpa [N.any] using hs
    have := List.length_pos_iff.2 this
    omega⟩
  have hlt := h.lt
  obtain ⟨oa, vcap, rfl⟩ := h.len_form
  obtain ⟨g, rfl, hPg, hgl, hgB⟩ : ∃ g, oa = some ⟨g, 0, none⟩ ∧ P ≤ g ∧ g < w.heap.size ∧ g ≠ B := by
    rcases h.shape with ⟨he, e⟩ | ⟨g, cap, he, hPg, hgl, -, -, hgB⟩
    · rw [e] at hr; simp at hr
    · simp only [Value.slice.injEq] at he
      exact ⟨g, he.1, hPg, hgl, hgB⟩
  have hl0 : 0 < n.l.length := by omega
  have HH : Hid (n.head = n.l[0]) := Lib.hid (head_eq n.l hl0)
  have hpos : (0 : Int) < n.l.length := by omega
  have hne : ((n.l.length : Int) == 0) = false := by rw [beq_eq_false_iff_ne]; omega
  have hN := h.alloc (.cells #[.int .u8 0, .int .i64 0, .int .i64 0, .int .i64 0, .int .i64 0, .int .i64 0, .int .i64 0, .int .i64 0, .int .i64 0, .slice none 0 0, .slice none 0 0, .slice none 0 0, .slice none 0 0, .slice none 0 0] 38)
  have hT := (Turn.refl B (.slice (some ⟨g, 0, none⟩) n.l.length vcap) w).alloc (.cells #[.int .u8 0, .int .i64 0, .int .i64 0, .int .i64 0, .int .i64 0, .int .i64 0, .int .i64 0, .int .i64 0, .int .i64 0, .slice none 0 0, .slice none 0 0, .slice none 0 0, .slice none 0 0, .slice none 0 0] 38)
  have hq : (w.alloc (.cells #[.int .u8 0, .int .i64 0, .int .i64 0, .int .i64 0, .int .i64 0, .int .i64 0, .int .i64 0, .int .i64 0, .int .i64 0, .slice none 0 0, .slice none 0 0, .slice none 0 0, .slice none 0 0, .slice none 0 0] 38)).heap[w.heap.size]? = some (.cells #[.int .u8 0, .int .i64 0, .int .i64 0, .int .i64 0, .int .i64 0, .int .i64 0, .int .i64 0, .int .i64 0, .int .i64 0, .slice none 0 0, .slice none 0 0, .slice none 0 0, .slice none 0 0, .slice none 0 0] 38 (0, 0)) := heap_alloc_new _ _
  have HS := Lib.hid (And.intro hN (And.intro hT (And.intro hr hq)))
  clear hN hT hr h hs hq
  go_enter Try.func14, Try.ntmps14
  go_wp2_with fail
  refine (len_any P B _ n _ HS.out.1).mono ?_
  rintro e w1 ⟨rfl, rfl⟩
  obtain ⟨hN, hT, hr, hq⟩ := HS.out
  have hqs : w.heap.size < (w.alloc (.cells #[.int .u8 0, .int .i64 0, .int .i64 0, .int .i64 0, .int .i64 0, .int .i64 0, .int .i64 0, .int .i64 0, .int .i64 0, .slice none 0 0, .slice none 0 0, .slice none 0 0, .slice none 0 0, .slice none 0 0] 38)).heap.size := by simp
  generalize w.alloc (.cells #[.int .u8 0, .int .i64 0, .int .i64 0, .int .i64 0, .int .i64 0, .int .i64 0, .int .i64 0, .int .i64 0, .int .i64 0, .slice none 0 0, .slice none 0 0, .slice none 0 0, .slice none 0 0, .slice none 0 0] 38) = Y at hN hT hq hqs ⊢
  have HS := Lib.hid (And.intro hN (And.intro hT hr))
  have hltY := hN.lt
  have hgY := (hN.vlt g rfl).2
  obtain ⟨c0, c1⟩ := hN.reads
  obtain ⟨x0, x1, x2, x3, x4, x5, x6, x7, x8, x9, x10, x11, x12, x13⟩ := hN.at_ 0 hl0
  simp only [Nat.zero_mul, Nat.zero_add] at x0 x1 x2 x3 x4 x5 x6 x7 x8 x9 x10 x11 x12 x13
  obtain ⟨o, ho⟩ : ∃ o, o = n.l[0] := ⟨_, rfl⟩
  rw [← ho] at x0 x1 x2 x3 x4 x5 x6 x7 x8 x9 x10 x11 x12 x13
  have HOO := Lib.hid ho
  clear ho
  obtain ⟨ok, ofa, ofi, ota, oti, ofn, otk, oba, obi, ⟨ga1, gn1, gc1⟩, ⟨ga2, gn2, gc2⟩, ⟨ga3, gn3, gc3⟩, ⟨ga4, gn4, gc4⟩, ⟨ga5, gn5, gc5⟩⟩ := o
  simp only at x0 x1 x2 x3 x4 x5 x6 x7 x8 x9 x10 x11 x12 x13
  have y0 : Y.cell? ⟨w.heap.size, 0, none⟩ = some (.int .u8 0) := (cell_of_row _ _ _ _ _ _ hq).trans rfl
  have yf0 : Y.frozen? ⟨w.heap.size, 0, none⟩ = false := frozen_of_row _ _ _ _ _ hq
  have y1 : Y.cell? ⟨w.heap.size, 1, none⟩ = some (.int .i64 0) := (cell_of_row _ _ _ _ _ _ hq).trans rfl
  have yf1 : Y.frozen? ⟨w.heap.size, 1, none⟩ = false := frozen_of_row _ _ _ _ _ hq
  have y2 : Y.cell? ⟨w.heap.size, 2, none⟩ = some (.int .i64 0) := (cell_of_row _ _ _ _ _ _ hq).trans rfl
  have yf2 : Y.frozen? ⟨w.heap.size, 2, none⟩ = false := frozen_of_row _ _ _ _ _ hq
  have y3 : Y.cell? ⟨w.heap.size, 3, none⟩ = some (.int .i64 0) := (cell_of_row _ _ _ _ _ _ hq).trans rfl
  have yf3 : Y.frozen? ⟨w.heap.size, 3, none⟩ = false := frozen_of_row _ _ _ _ _ hq
  have y4 : Y.cell? ⟨w.heap.size, 4, none⟩ = some (.int .i64 0) := (cell_of_row _ _ _ _ _ _ hq).trans rfl
  have yf4 : Y.frozen? ⟨w.heap.size, 4, none⟩ = false := frozen_of_row _ _ _ _ _ hq
  have y5 : Y.cell? ⟨w.heap.size, 5, none⟩ = some (.int .i64 0) := (cell_of_row _ _ _ _ _ _ hq).trans rfl
  have yf5 : Y.frozen? ⟨w.heap.size, 5, none⟩ = false := frozen_of_row _ _ _ _ _ hq
  have y6 : Y.cell? ⟨w.heap.size, 6, none⟩ = some (.int .i64 0) := (cell_of_row _ _ _ _ _ _ hq).trans rfl
  have yf6 : Y.frozen? ⟨w.heap.size, 6, none⟩ = false := frozen_of_row _ _ _ _ _ hq
  have y7 : Y.cell? ⟨w.heap.size, 7, none⟩ = some (.int .i64 0) := (cell_of_row _ _ _ _ _ _ hq).trans rfl
  have yf7 : Y.frozen? ⟨w.heap.size, 7, none⟩ = false := frozen_of_row _ _ _ _ _ hq
  have y8 : Y.cell? ⟨w.heap.size, 8, none⟩ = some (.int .i64 0) := (cell_of_row _ _ _ _ _ _ hq).trans rfl
  have yf8 : Y.frozen? ⟨w.heap.size, 8, none⟩ = false := frozen_of_row _ _ _ _ _ hq
  have y9 : Y.cell? ⟨w.heap.size, 9, none⟩ = some (.slice none 0 0) := (cell_of_row _ _ _ _ _ _ hq).trans rfl
  have yf9 : Y.frozen? ⟨w.heap.size, 9, none⟩ = false := frozen_of_row _ _ _ _ _ hq
  have y10 : Y.cell? ⟨w.heap.size, 10, none⟩ = some (.slice none 0 0) := (cell_of_row _ _ _ _ _ _ hq).trans rfl
  have yf10 : Y.frozen? ⟨w.heap.size, 10, none⟩ = false := frozen_of_row _ _ _ _ _ hq
  have y11 : Y.cell? ⟨w.heap.size, 11, none⟩ = some (.slice none 0 0) := (cell_of_row _ _ _ _ _ _ hq).trans rfl
  have yf11 : Y.frozen? ⟨w.heap.size, 11, none⟩ = false := frozen_of_row _ _ _ _ _ hq
  have y12 : Y.cell? ⟨w.heap.size, 12, none⟩ = some (.slice none 0 0) := (cell_of_row _ _ _ _ _ _ hq).trans rfl
  have yf12 : Y.frozen? ⟨w.heap.size, 12, none⟩ = false := frozen_of_row _ _ _ _ _ hq
  have y13 : Y.cell? ⟨w.heap.size, 13, none⟩ = some (.slice none 0 0) := (cell_of_row _ _ _ _ _ _ hq).trans rfl
  have yf13 : Y.frozen? ⟨w.heap.size, 13, none⟩ = false := frozen_of_row _ _ _ _ _ hq
  have HQ := Lib.hid hq
  clear hN hT hr hq
  go_wp2_with fail
  have hNZ := HS.out.1.alloc (.cells #[.int .u8 ok, .int .i64 ofa, .int .i64 ofi, .int .i64 ota, .int .i64 oti, .int .i64 ofn, .int .i64 otk, .int .i64 oba, .int .i64 obi, .slice ga1 gn1 gc1, .slice ga2 gn2 gc2, .slice ga3 gn3 gc3, .slice ga4 gn4 gc4, .slice ga5 gn5 gc5] 38)
  have hTZ := HS.out.2.1.alloc (.cells #[.int .u8 ok, .int .i64 ofa, .int .i64 ofi, .int .i64 ota, .int .i64 oti, .int .i64 ofn, .int .i64 otk, .int .i64 oba, .int .i64 obi, .slice ga1 gn1 gc1, .slice ga2 gn2 gc2, .slice ga3 gn3 gc3, .slice ga4 gn4 gc4, .slice ga5 gn5 gc5] 38)
  have hZ1 : (Y.alloc (.cells #[.int .u8 ok, .int .i64 ofa, .int .i64 ofi, .int .i64 ota, .int .i64 oti, .int .i64 ofn, .int .i64 otk, .int .i64 oba, .int .i64 obi, .slice ga1 gn1 gc1, .slice ga2 gn2 gc2, .slice ga3 gn3 gc3, .slice ga4 gn4 gc4, .slice ga5 gn5 gc5] 38)).heap[Y.heap.size]? = some (.cells #[.int .u8 ok, .int .i64 ofa, .int .i64 ofi, .int .i64 ota, .int .i64 oti, .int .i64 ofn, .int .i64 otk, .int .i64 oba, .int .i64 obi, .slice ga1 gn1 gc1, .slice ga2 gn2 gc2, .slice ga3 gn3 gc3, .slice ga4 gn4 gc4, .slice ga5 gn5 gc5] 38 (0, 0)) := heap_alloc_new _ _
  have hZ0 : (Y.alloc (.cells #[.int .u8 ok, .int .i64 ofa, .int .i64 ofi, .int .i64 ota, .int .i64 oti, .int .i64 ofn, .int .i64 otk, .int .i64 oba, .int .i64 obi, .slice ga1 gn1 gc1, .slice ga2 gn2 gc2, .slice ga3 gn3 gc3, .slice ga4 gn4 gc4, .slice ga5 gn5 gc5] 38)).heap[w.heap.size]? = some (.cells #[.int .u8 0, .int .i64 0, .int .i64 0, .int .i64 0, .int .i64 0, .int .i64 0, .int .i64 0, .int .i64 0, .int .i64 0, .slice none 0 0, .slice none 0 0, .slice none 0 0, .slice none 0 0, .slice none 0 0] 38 (0, 0)) := (Below.heap_alloc _ _ _ hqs).trans HQ.out
  have hsZ : (Y.alloc (.cells #[.int .u8 ok, .int .i64 ofa, .int .i64 ofi, .int .i64 ota, .int .i64 oti, .int .i64 ofn, .int .i64 otk, .int .i64 oba, .int .i64 obi, .slice ga1 gn1 gc1, .slice ga2 gn2 gc2, .slice ga3 gn3 gc3, .slice ga4 gn4 gc4, .slice ga5 gn5 gc5] 38)).heap.size = Y.heap.size + 1 := by simp
  generalize Y.alloc (.cells #[.int .u8 ok, .int .i64 ofa, .int .i64 ofi, .int .i64 ota, .int .i64 oti, .int .i64 ofn, .int .i64 otk, .int .i64 oba, .int .i64 obi, .slice ga1 gn1 gc1, .slice ga2 gn2 gc2, .slice ga3 gn3 gc3, .slice ga4 gn4 gc4, .slice ga5 gn5 gc5] 38) = Z at hNZ hTZ hZ1 hZ0 hsZ ⊢
  have hr := HS.out.2.2
  have hltZ := hNZ.lt
  have fB0 := hNZ.free 1
  have c1 := hNZ.reads.2
  refine (del_0 P g vcap n.l.length r hr (rows n.l) Z hNZ.row hl0 (rows_one _)).mono ?_
  rintro e w2 ⟨rfl, hr2, hg2⟩
  have hBg : B ≠ g := fun e => hgB e.symm
  have fB := (hg2.frozen_far ⟨B, 1, none⟩ hltZ (fun e => hBg (Option.some.inj e))).trans fB0
  have cB := (hg2.cell_far ⟨B, 1, none⟩ hltZ (fun e => hBg (Option.some.inj e))).trans c1
  have hY1 := (hg2.block Y.heap.size (by omega) (by simp; omega)).trans hZ1
  have hY0 := (hg2.block w.heap.size (by omega) (by simp; omega)).trans hZ0
  have hD := hNZ.took hTZ hr hgB hr2 hg2
  have hs2 : w.heap.size + 2 ≤ (w2.setCell ⟨B, 1, none⟩ (.slice (some ⟨g, 0, none⟩) r vcap)).heap.size := by
    have := hg2.size
    simp only [World.setCell, Array.size_modify]
    omega
  have hqY : w.heap.size ≠ Y.heap.size := by omega
  have hBY : B ≠ Y.heap.size := by omega
  have hBw : B ≠ w.heap.size := by omega
  have HX := Lib.hid (And.intro hD hs2)
  clear hD hs2 hr2 hg2 hZ1 hZ0 hsZ hNZ hTZ hr hqs hltZ fB0 c1 c0 HS HQ x0 x1 x2 x3 x4 x5 x6 x7 x8 x9 x10 x11 x12 x13
  clear y0 yf0
  clear y1 yf1
  clear y2 yf2
  clear y3 yf3
  clear y4 yf4
  clear y5 yf5
  clear y6 yf6
  clear y7 yf7
  clear y8 yf8
  clear y9 yf9
  clear y10 yf10
  clear y11 yf11
  clear y12 yf12
  clear y13 yf13
  have y0 : w2.cell? ⟨w.heap.size, 0, none⟩ = some (.int .u8 0) := (cell_of_row _ _ _ _ _ _ hY0).trans rfl
  have yf0 : w2.frozen? ⟨w.heap.size, 0, none⟩ = false := frozen_of_row _ _ _ _ _ hY0
  have y1 : w2.cell? ⟨w.heap.size, 1, none⟩ = some (.int .i64 0) := (cell_of_row _ _ _ _ _ _ hY0).trans rfl
  have yf1 : w2.frozen? ⟨w.heap.size, 1, none⟩ = false := frozen_of_row _ _ _ _ _ hY0
  have y2 : w2.cell? ⟨w.heap.size, 2, none⟩ = some (.int .i64 0) := (cell_of_row _ _ _ _ _ _ hY0).trans rfl
  have yf2 : w2.frozen? ⟨w.heap.size, 2, none⟩ = false := frozen_of_row _ _ _ _ _ hY0
  have y3 : w2.cell? ⟨w.heap.size, 3, none⟩ = some (.int .i64 0) := (cell_of_row _ _ _ _ _ _ hY0).trans rfl
  have yf3 : w2.frozen? ⟨w.heap.size, 3, none⟩ = false := frozen_of_row _ _ _ _ _ hY0
  have y4 : w2.cell? ⟨w.heap.size, 4, none⟩ = some (.int .i64 0) := (cell_of_row _ _ _ _ _ _ hY0).trans rfl
  have yf4 : w2.frozen? ⟨w.heap.size, 4, none⟩ = false := frozen_of_row _ _ _ _ _ hY0
  have y5 : w2.cell? ⟨w.heap.size, 5, none⟩ = some (.int .i64 0) := (cell_of_row _ _ _ _ _ _ hY0).trans rfl
  have yf5 : w2.frozen? ⟨w.heap.size, 5, none⟩ = false := frozen_of_row _ _ _ _ _ hY0
  have y6 : w2.cell? ⟨w.heap.size, 6, none⟩ = some (.int .i64 0) := (cell_of_row _ _ _ _ _ _ hY0).trans rfl
  have yf6 : w2.frozen? ⟨w.heap.size, 6, none⟩ = false := frozen_of_row _ _ _ _ _ hY0
  have y7 : w2.cell? ⟨w.heap.size, 7, none⟩ = some (.int .i64 0) := (cell_of_row _ _ _ _ _ _ hY0).trans rfl
  have yf7 : w2.frozen? ⟨w.heap.size, 7, none⟩ = false := frozen_of_row _ _ _ _ _ hY0
  have y8 : w2.cell? ⟨w.heap.size, 8, none⟩ = some (.int .i64 0) := (cell_of_row _ _ _ _ _ _ hY0).trans rfl
  have yf8 : w2.frozen? ⟨w.heap.size, 8, none⟩ = false := frozen_of_row _ _ _ _ _ hY0
  have y9 : w2.cell? ⟨w.heap.size, 9, none⟩ = some (.slice none 0 0) := (cell_of_row _ _ _ _ _ _ hY0).trans rfl
  have yf9 : w2.frozen? ⟨w.heap.size, 9, none⟩ = false := frozen_of_row _ _ _ _ _ hY0
  have y10 : w2.cell? ⟨w.heap.size, 10, none⟩ = some (.slice none 0 0) := (cell_of_row _ _ _ _ _ _ hY0).trans rfl
  have yf10 : w2.frozen? ⟨w.heap.size, 10, none⟩ = false := frozen_of_row _ _ _ _ _ hY0
  have y11 : w2.cell? ⟨w.heap.size, 11, none⟩ = some (.slice none 0 0) := (cell_of_row _ _ _ _ _ _ hY0).trans rfl
  have yf11 : w2.frozen? ⟨w.heap.size, 11, none⟩ = false := frozen_of_row _ _ _ _ _ hY0
  have y12 : w2.cell? ⟨w.heap.size, 12, none⟩ = some (.slice none 0 0) := (cell_of_row _ _ _ _ _ _ hY0).trans rfl
  have yf12 : w2.frozen? ⟨w.heap.size, 12, none⟩ = false := frozen_of_row _ _ _ _ _ hY0
  have y13 : w2.cell? ⟨w.heap.size, 13, none⟩ = some (.slice none 0 0) := (cell_of_row _ _ _ _ _ _ hY0).trans rfl
  have yf13 : w2.frozen? ⟨w.heap.size, 13, none⟩ = false := frozen_of_row _ _ _ _ _ hY0
  have x0 : w2.cell? ⟨Y.heap.size, 0, none⟩ = some (.int .u8 ok) := (cell_of_row _ _ _ _ _ _ hY1).trans rfl
  have x1 : w2.cell? ⟨Y.heap.size, 1, none⟩ = some (.int .i64 ofa) := (cell_of_row _ _ _ _ _ _ hY1).trans rfl
  have x2 : w2.cell? ⟨Y.heap.size, 2, none⟩ = some (.int .i64 ofi) := (cell_of_row _ _ _ _ _ _ hY1).trans rfl
  have x3 : w2.cell? ⟨Y.heap.size, 3, none⟩ = some (.int .i64 ota) := (cell_of_row _ _ _ _ _ _ hY1).trans rfl
  have x4 : w2.cell? ⟨Y.heap.size, 4, none⟩ = some (.int .i64 oti) := (cell_of_row _ _ _ _ _ _ hY1).trans rfl
  have x5 : w2.cell? ⟨Y.heap.size, 5, none⟩ = some (.int .i64 ofn) := (cell_of_row _ _ _ _ _ _ hY1).trans rfl
  have x6 : w2.cell? ⟨Y.heap.size, 6, none⟩ = some (.int .i64 otk) := (cell_of_row _ _ _ _ _ _ hY1).trans rfl
  have x7 : w2.cell? ⟨Y.heap.size, 7, none⟩ = some (.int .i64 oba) := (cell_of_row _ _ _ _ _ _ hY1).trans rfl
  have x8 : w2.cell? ⟨Y.heap.size, 8, none⟩ = some (.int .i64 obi) := (cell_of_row _ _ _ _ _ _ hY1).trans rfl
  have x9 : w2.cell? ⟨Y.heap.size, 9, none⟩ = some (.slice ga1 gn1 gc1) := (cell_of_row _ _ _ _ _ _ hY1).trans rfl
  have x10 : w2.cell? ⟨Y.heap.size, 10, none⟩ = some (.slice ga2 gn2 gc2) := (cell_of_row _ _ _ _ _ _ hY1).trans rfl
  have x11 : w2.cell? ⟨Y.heap.size, 11, none⟩ = some (.slice ga3 gn3 gc3) := (cell_of_row _ _ _ _ _ _ hY1).trans rfl
  have x12 : w2.cell? ⟨Y.heap.size, 12, none⟩ = some (.slice ga4 gn4 gc4) := (cell_of_row _ _ _ _ _ _ hY1).trans rfl
  have x13 : w2.cell? ⟨Y.heap.size, 13, none⟩ = some (.slice ga5 gn5 gc5) := (cell_of_row _ _ _ _ _ _ hY1).trans rfl
  clear hY0 hY1
  go_wp2_with fail
  refine bodyPost_ret (v := .tuple #[.agg #[.int .u8 ok, .int .i64 ofa, .int .i64 ofi, .int .i64 ota, .int .i64 oti, .int .i64 ofn, .int .i64 otk, .int .i64 oba, .int .i64 obi, .slice ga1 gn1 gc1, .slice ga2 gn2 gc2, .slice ga3 gn3 gc3, .slice ga4 gn4 gc4, .slice ga5 gn5 gc5], .bool true]) (by simp [results, Try.results14, go_sem, *]) rfl ?_
  have hgw : g ≠ w.heap.size ∧ g ≠ w.heap.size + 1 := ⟨Nat.ne_of_lt hgl, Nat.ne_of_lt (Nat.lt_succ_of_lt hgl)⟩
  have hD : Nt P B (.slice (some ⟨g, 0, none⟩) r vcap) n.take (((((((((((((((w2.setCell ⟨B, 1, none⟩ (.slice (some ⟨g, 0, none⟩) r vcap)).setCell ⟨w.heap.size, 0, none⟩ (.int .u8 ok)).setCell ⟨w.heap.size, 1, none⟩ (.int .i64 ofa)).setCell ⟨w.heap.size, 2, none⟩ (.int .i64 ofi)).setCell ⟨w.heap.size, 3, none⟩ (.int .i64 ota)).setCell ⟨w.heap.size, 4, none⟩ (.int .i64 oti)).setCell ⟨w.heap.size, 5, none⟩ (.int .i64 ofn)).setCell ⟨w.heap.size, 6, none⟩ (.int .i64 otk)).setCell ⟨w.heap.size, 7, none⟩ (.int .i64 oba)).setCell ⟨w.heap.size, 8, none⟩ (.int .i64 obi)).setCell ⟨w.heap.size, 9, none⟩ (.slice ga1 gn1 gc1)).setCell ⟨w.heap.size, 10, none⟩ (.slice ga2 gn2 gc2)).setCell ⟨w.heap.size, 11, none⟩ (.slice ga3 gn3 gc3)).setCell ⟨w.heap.size, 12, none⟩ (.slice ga4 gn4 gc4)).setCell ⟨w.heap.size, 13, none⟩ (.slice ga5 gn5 gc5)) ∧ Turn B (.slice (some ⟨g, 0, none⟩) n.l.length vcap) (.slice (some ⟨g, 0, none⟩) r vcap) w (((((((((((((((w2.setCell ⟨B, 1, none⟩ (.slice (some ⟨g, 0, none⟩) r vcap)).setCell ⟨w.heap.size, 0, none⟩ (.int .u8 ok)).setCell ⟨w.heap.size, 1, none⟩ (.int .i64 ofa)).setCell ⟨w.heap.size, 2, none⟩ (.int .i64 ofi)).setCell ⟨w.heap.size, 3, none⟩ (.int .i64 ota)).setCell ⟨w.heap.size, 4, none⟩ (.int .i64 oti)).setCell ⟨w.heap.size, 5, none⟩ (.int .i64 ofn)).setCell ⟨w.heap.size, 6, none⟩ (.int .i64 otk)).setCell ⟨w.heap.size, 7, none⟩ (.int .i64 oba)).setCell ⟨w.heap.size, 8, none⟩ (.int .i64 obi)).setCell ⟨w.heap.size, 9, none⟩ (.slice ga1 gn1 gc1)).setCell ⟨w.heap.size, 10, none⟩ (.slice ga2 gn2 gc2)).setCell ⟨w.heap.size, 11, none⟩ (.slice ga3 gn3 gc3)).setCell ⟨w.heap.size, 12, none⟩ (.slice ga4 gn4 gc4)).setCell ⟨w.heap.size, 13, none⟩ (.slice ga5 gn5 gc5)) :=
    ⟨HX.out.1.1.stay (Fr.laid_stay0 ⟨ok, ofa, ofi, ota, oti, ofn, otk, oba, obi, ⟨ga1, gn1, gc1⟩, ⟨ga2, gn2, gc2⟩, ⟨ga3, gn3, gc3⟩, ⟨ga4, gn4, gc4⟩, ⟨ga5, gn5, gc5⟩⟩ (w2.setCell ⟨B, 1, none⟩ (.slice (some ⟨g, 0, none⟩) r vcap)) w.heap.size) ⟨Nat.ne_of_lt hlt, Nat.ne_of_lt (Nat.lt_succ_of_lt hlt)⟩ (fun k hk => by
      have e : g = k := by simpa [Value.ownBlock] using hk
      rw [← e]; exact hgw), Fr.laid_turn ⟨ok, ofa, ofi, ota, oti, ofn, otk, oba, obi, ⟨ga1, gn1, gc1⟩, ⟨ga2, gn2, gc2⟩, ⟨ga3, gn3, gc3⟩, ⟨ga4, gn4, gc4⟩, ⟨ga5, gn5, gc5⟩⟩ HX.out.1.2 (Nat.le_refl _)⟩
  generalize (((((((((((((((w2.setCell ⟨B, 1, none⟩ (.slice (some ⟨g, 0, none⟩) r vcap)).setCell ⟨w.heap.size, 0, none⟩ (.int .u8 ok)).setCell ⟨w.heap.size, 1, none⟩ (.int .i64 ofa)).setCell ⟨w.heap.size, 2, none⟩ (.int .i64 ofi)).setCell ⟨w.heap.size, 3, none⟩ (.int .i64 ota)).setCell ⟨w.heap.size, 4, none⟩ (.int .i64 oti)).setCell ⟨w.heap.size, 5, none⟩ (.int .i64 ofn)).setCell ⟨w.heap.size, 6, none⟩ (.int .i64 otk)).setCell ⟨w.heap.size, 7, none⟩ (.int .i64 oba)).setCell ⟨w.heap.size, 8, none⟩ (.int .i64 obi)).setCell ⟨w.heap.size, 9, none⟩ (.slice ga1 gn1 gc1)).setCell ⟨w.heap.size, 10, none⟩ (.slice ga2 gn2 gc2)).setCell ⟨w.heap.size, 11, none⟩ (.slice ga3 gn3 gc3)).setCell ⟨w.heap.size, 12, none⟩ (.slice ga4 gn4 gc4)).setCell ⟨w.heap.size, 13, none⟩ (.slice ga5 gn5 gc5)) = V at hD ⊢
  rw [HH.out, ← HOO.out]
  exact ⟨rfl, _, hD.1, hD.2⟩
end Go.Proofs.Ytjdhdmljchnidaa
