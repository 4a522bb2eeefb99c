/-
  The steps that come in, opened: each kind of element.
-/
import Derived.Test.YtjdhdmljchnidaaInp
namespace Go.Proofs.Ytjdhdmljchnidaa
open Go.RowKit Go.ChangeShapes Go.WideShapes Go.Deep
set_option linter.unusedVariables false
set_option linter.unusedSimpArgs false
section
variable {H : Type} {enc : TypeId × Value → H} {w : World} {base : Nat} {held : Bool}
theorem each_w {P : Program} {R : Nat} : ∀ {ts : List TypeId} {xs : List (DataW H × List MemPlace)} {i : Nat} {t : TypeId} {x : DataW H × List MemPlace}, ts[i]? = some t → xs[i]? = some x → (∀ n ∈ DataW.weightsEach P ts (xs.map (·.1)), n ≤ R) → ∀ n ∈ x.1.weights P t, n ≤ R := by
  intro ts xs i t x ht hx hw n hn
  exact hw n (DataW.weights_mem_each ht (by rw [List.getElem?_map, hx]; rfl) n hn)
theorem ID2.of {m : Nat} {cs : List Value} {z : DataW H × List MemPlace} (h : DataW.trod enc Try.prog w base (fun _ => true) held m 30 cs = some z) : ∃ s : ID2, cs = elI.c s := by
  obtain ⟨xs, n, -, hz, hl, hx, hf⟩ := DataW.trod_struct Try.underlying30 h
  have hc : Try.prog.cellsOf 30 = 2 := by kernel_rfl
  have h3 : Try.prog.cellsOf 3 = 1 := by kernel_rfl
  rw [hc] at hl
  match cs, hl, xs, hx with
  | [c0, c1], _, [x0, x1], _ =>
    have f0 := hf 0 _ rfl
    simp [h3] at f0
    have f1 := hf 1 _ rfl
    simp [h3] at f1
    obtain ⟨a0, e0, -, w0⟩ := DataW.trod_int Try.underlying3 f0
    obtain ⟨a1, e1, -, w1⟩ := DataW.trod_int Try.underlying3 f1
    simp only [List.cons.injEq, and_true] at e0 e1
    subst e0 e1
    exact ⟨⟨a0, a1⟩, rfl⟩
theorem Mem.of {m : Nat} {cs : List Value} {z : DataW H × List MemPlace} (h : DataW.trod enc Try.prog w base (fun _ => true) held m 80 cs = some z) : ∃ s : Mem, cs = elM.c s := by
  obtain ⟨xs, n, -, hz, hl, hx, hf⟩ := DataW.trod_struct Try.underlying80 h
  have hc : Try.prog.cellsOf 80 = 4 := by kernel_rfl
  have h3 : Try.prog.cellsOf 3 = 1 := by kernel_rfl
  have h5 : Try.prog.cellsOf 5 = 1 := by kernel_rfl
  have h30 : Try.prog.cellsOf 30 = 2 := by kernel_rfl
  rw [hc] at hl
  match cs, hl, xs, hx with
  | [c0, c1, c2, c3], _, [x0, x1, x2], _ =>
    have f0 := hf 0 _ rfl
    simp [h30] at f0
    have f1 := hf 1 _ rfl
    simp [h5] at f1
    have f2 := hf 2 _ rfl
    simp [h3] at f2
    obtain ⟨a0, e0⟩ := ID2.of f0
    obtain ⟨a1, e1, -, w1⟩ := DataW.trod_int Try.underlying5 f1
    obtain ⟨a2, e2, -, w2⟩ := DataW.trod_int Try.underlying3 f2
    simp only [elI, List.cons.injEq, and_true] at e0 e1 e2
    obtain ⟨rfl, rfl⟩ := e0
    subst e1 e2
    exact ⟨⟨a0.a, a0.i, a1, a2⟩, rfl⟩
theorem Tk.of {m : Nat} {cs : List Value} {z : DataW H × List MemPlace} (h : DataW.trod enc Try.prog w base (fun _ => true) held m 82 cs = some z) : ∃ s : Tk, cs = elT.c s := by
  obtain ⟨xs, n, -, hz, hl, hx, hf⟩ := DataW.trod_struct Try.underlying82 h
  have hc : Try.prog.cellsOf 82 = 3 := by kernel_rfl
  have h3 : Try.prog.cellsOf 3 = 1 := by kernel_rfl
  have h30 : Try.prog.cellsOf 30 = 2 := by kernel_rfl
  rw [hc] at hl
  match cs, hl, xs, hx with
  | [c0, c1, c2], _, [x0, x1], _ =>
    have f0 := hf 0 _ rfl
    simp [h30] at f0
    have f1 := hf 1 _ rfl
    simp [h3] at f1
    obtain ⟨a0, e0⟩ := ID2.of f0
    obtain ⟨a1, e1, -, w1⟩ := DataW.trod_int Try.underlying3 f1
    simp only [elI, List.cons.injEq, and_true] at e0 e1
    obtain ⟨rfl, rfl⟩ := e0
    subst e1
    exact ⟨⟨a0.a, a0.i, a1⟩, rfl⟩
theorem ids_open {m : Nat} {cs : List Value} {z : DataW H × List MemPlace} (h : DataW.trod enc Try.prog w base (fun _ => true) held m 32 cs = some z) (hw : ∀ n ∈ z.1.weights Try.prog 32, n ≤ reachBytes) :
    ∃ (s : SL) (l : List ID2), cs = [s.val] ∧ Rd elI w.heap.size 0 w.heap.size s l w ∧ s.c ≤ reachBytes := by
  obtain ⟨s, l, h1, h2, -, h3⟩ := el_open elI (fun _ => True) (by kernel_rfl) Try.underlying32 (by decide +kernel) (fun m cs z h _ => by obtain ⟨s, hs⟩ := ID2.of h; exact ⟨s, hs, trivial⟩) h hw
  exact ⟨s, l, h1, h2, h3⟩
theorem ms_open {m : Nat} {cs : List Value} {z : DataW H × List MemPlace} (h : DataW.trod enc Try.prog w base (fun _ => true) held m 31 cs = some z) (hw : ∀ n ∈ z.1.weights Try.prog 31, n ≤ reachBytes) :
    ∃ (s : SL) (l : List Mem), cs = [s.val] ∧ Rd elM w.heap.size 0 w.heap.size s l w ∧ s.c ≤ reachBytes := by
  obtain ⟨s, l, h1, h2, -, h3⟩ := el_open elM (fun _ => True) (by kernel_rfl) Try.underlying31 (by decide +kernel) (fun m cs z h _ => by obtain ⟨s, hs⟩ := Mem.of h; exact ⟨s, hs, trivial⟩) h hw
  exact ⟨s, l, h1, h2, h3⟩
theorem ts_open {m : Nat} {cs : List Value} {z : DataW H × List MemPlace} (h : DataW.trod enc Try.prog w base (fun _ => true) held m 34 cs = some z) (hw : ∀ n ∈ z.1.weights Try.prog 34, n ≤ reachBytes) :
    ∃ (s : SL) (l : List Tk), cs = [s.val] ∧ Rd elT w.heap.size 0 w.heap.size s l w ∧ s.c ≤ reachBytes := by
  obtain ⟨s, l, h1, h2, -, h3⟩ := el_open elT (fun _ => True) (by kernel_rfl) Try.underlying34 (by decide +kernel) (fun m cs z h _ => by obtain ⟨s, hs⟩ := Tk.of h; exact ⟨s, hs, trivial⟩) h hw
  exact ⟨s, l, h1, h2, h3⟩
def RowGood (w : World) (p : RowR × List ID2) : Prop := Rd elI w.heap.size 0 w.heap.size p.1.not p.2 w ∧ p.1.not.c ≤ reachBytes
theorem RowR.of {m : Nat} {cs : List Value} {z : DataW H × List MemPlace} (h : DataW.trod enc Try.prog w base (fun _ => true) held m 77 cs = some z) (hw : ∀ n ∈ z.1.weights Try.prog 77, n ≤ reachBytes) : ∃ s : RowR × List ID2, cs = elR2.c s ∧ RowGood w s := by
  obtain ⟨xs, n, -, hz, hl, hx, hf⟩ := DataW.trod_struct Try.underlying77 h
  have hc : Try.prog.cellsOf 77 = 4 := by kernel_rfl
  have h3 : Try.prog.cellsOf 3 = 1 := by kernel_rfl
  have h30 : Try.prog.cellsOf 30 = 2 := by kernel_rfl
  have h32 : Try.prog.cellsOf 32 = 1 := by kernel_rfl
  rw [hc] at hl
  rw [hz] at hw
  simp only [DataW.weights, Try.underlying77] at hw
  match cs, hl, xs, hx with
  | [c0, c1, c2, c3], _, [x0, x1, x2], _ =>
    have f0 := hf 0 _ rfl
    simp [h30] at f0
    have f1 := hf 1 _ rfl
    simp [h3] at f1
    have f2 := hf 2 _ rfl
    simp [h32] at f2
    have g0 := each_w (i := 0) (t := 30) rfl rfl hw
    have g1 := each_w (i := 1) (t := 3) rfl rfl hw
    have g2 := each_w (i := 2) (t := 32) rfl rfl hw
    obtain ⟨a0, e0⟩ := ID2.of f0
    obtain ⟨a1, e1, -, w1⟩ := DataW.trod_int Try.underlying3 f1
    obtain ⟨a2, l2, e2, hr, hc2⟩ := ids_open f2 g2
    simp only [elI, List.cons.injEq, and_true] at e0 e1 e2
    obtain ⟨rfl, rfl⟩ := e0
    subst e1 e2
    exact ⟨⟨⟨a0.a, a0.i, a1, a2⟩, l2⟩, rfl, hr, hc2⟩
theorem rs_open {m : Nat} {cs : List Value} {z : DataW H × List MemPlace} (h : DataW.trod enc Try.prog w base (fun _ => true) held m 33 cs = some z) (hw : ∀ n ∈ z.1.weights Try.prog 33, n ≤ reachBytes) :
    ∃ (s : SL) (l : List (RowR × List ID2)), cs = [s.val] ∧ Rd elR2 w.heap.size 0 w.heap.size s l w ∧ (∀ p ∈ l, RowGood w p) ∧ s.c ≤ reachBytes :=
  el_open elR2 (RowGood w) (by kernel_rfl) Try.underlying33 (by decide +kernel) (fun m cs z h hw => RowR.of h hw) h hw
structure ViewIn (w : World) (m f r c s : SL) (lm : List Mem) (lf : List ID2) (lr : List (RowR × List ID2)) (lt : List Tk) (ls : List ID2) : Prop where
  ms : Rd elM w.heap.size 0 w.heap.size m lm w
  fs : Rd elI w.heap.size 0 w.heap.size f lf w
  rs : Rd elR2 w.heap.size 0 w.heap.size r lr w
  cs : Rd elT w.heap.size 0 w.heap.size c lt w
  ss : Rd elI w.heap.size 0 w.heap.size s ls w
  not : ∀ p ∈ lr, RowGood w p
  zms : m.c ≤ reachBytes
  zfs : f.c ≤ reachBytes
  zrs : r.c ≤ reachBytes
  zcs : c.c ≤ reachBytes
  zss : s.c ≤ reachBytes
theorem view_of {m : Nat} {cs : List Value} {z : DataW H × List MemPlace} (h : DataW.trod enc Try.prog w base (fun _ => true) held m 36 cs = some z) (hw : ∀ n ∈ z.1.weights Try.prog 36, n ≤ reachBytes) : ∃ (m f r c s : SL) (lm : List Mem) (lf : List ID2) (lr : List (RowR × List ID2)) (lt : List Tk) (ls : List ID2), cs = [m.val, f.val, r.val, c.val, s.val] ∧ ViewIn w m f r c s lm lf lr lt ls := by
  obtain ⟨xs, n, -, hz, hl, hx, hf⟩ := DataW.trod_struct Try.underlying36 h
  have hc : Try.prog.cellsOf 36 = 5 := by kernel_rfl
  have h31 : Try.prog.cellsOf 31 = 1 := by kernel_rfl
  have h32 : Try.prog.cellsOf 32 = 1 := by kernel_rfl
  have h33 : Try.prog.cellsOf 33 = 1 := by kernel_rfl
  have h34 : Try.prog.cellsOf 34 = 1 := by kernel_rfl
  rw [hc] at hl
  rw [hz] at hw
  simp only [DataW.weights, Try.underlying36] at hw
  match cs, hl, xs, hx with
  | [c0, c1, c2, c3, c4], _, [x0, x1, x2, x3, x4], _ =>
    have f0 := hf 0 _ rfl
    simp [h31] at f0
    have f1 := hf 1 _ rfl
    simp [h32] at f1
    have f2 := hf 2 _ rfl
    simp [h33] at f2
    have f3 := hf 3 _ rfl
    simp [h34] at f3
    have f4 := hf 4 _ rfl
    simp [h32] at f4
    have g0 := each_w (i := 0) (t := 31) rfl rfl hw
    have g1 := each_w (i := 1) (t := 32) rfl rfl hw
    have g2 := each_w (i := 2) (t := 33) rfl rfl hw
    have g3 := each_w (i := 3) (t := 34) rfl rfl hw
    have g4 := each_w (i := 4) (t := 32) rfl rfl hw
    obtain ⟨a0, l0, e0, r0, q0⟩ := ms_open f0 g0
    obtain ⟨a1, l1, e1, r1, q1⟩ := ids_open f1 g1
    obtain ⟨a2, l2, e2, r2, n2, q2⟩ := rs_open f2 g2
    obtain ⟨a3, l3, e3, r3, q3⟩ := ts_open f3 g3
    obtain ⟨a4, l4, e4, r4, q4⟩ := ids_open f4 g4
    simp only [List.cons.injEq, and_true] at e0 e1 e2 e3 e4
    subst e0 e1 e2 e3 e4
    exact ⟨a0, a1, a2, a3, a4, l0, l1, l2, l3, l4, rfl, r0, r1, r2, r3, r4, n2, q0, q1, q2, q3, q4⟩
theorem Inp.of {m : Nat} {cs : List Value} {z : DataW H × List MemPlace} (h : DataW.trod enc Try.prog w base (fun _ => true) held m 38 cs = some z) (hw : ∀ n ∈ z.1.weights Try.prog 38, n ≤ reachBytes) : ∃ x : Inp, cs = x.f.cells.toList ∧ x.Ok w.heap.size w := by
  obtain ⟨xs, n, -, hz, hl, hx, hf⟩ := DataW.trod_struct Try.underlying38 h
  have hc : Try.prog.cellsOf 38 = 14 := by kernel_rfl
  have h3 : Try.prog.cellsOf 3 = 1 := by kernel_rfl
  have h5 : Try.prog.cellsOf 5 = 1 := by kernel_rfl
  have h30 : Try.prog.cellsOf 30 = 2 := by kernel_rfl
  have h36 : Try.prog.cellsOf 36 = 5 := by kernel_rfl
  rw [hc] at hl
  rw [hz] at hw
  simp only [DataW.weights, Try.underlying38] at hw
  match cs, hl, xs, hx with
  | [c0, c1, c2, c3, c4, c5, c6, c7, c8, c9, c10, c11, c12, c13], _, [x0, x1, x2, x3, x4, x5, x6], _ =>
    have f0 := hf 0 _ rfl
    simp [h5] at f0
    have f1 := hf 1 _ rfl
    simp [h30] at f1
    have f2 := hf 2 _ rfl
    simp [h30] at f2
    have f3 := hf 3 _ rfl
    simp [h3] at f3
    have f4 := hf 4 _ rfl
    simp [h3] at f4
    have f5 := hf 5 _ rfl
    simp [h30] at f5
    have f6 := hf 6 _ rfl
    simp [h36] at f6
    have g0 := each_w (i := 0) (t := 5) rfl rfl hw
    have g1 := each_w (i := 1) (t := 30) rfl rfl hw
    have g2 := each_w (i := 2) (t := 30) rfl rfl hw
    have g3 := each_w (i := 3) (t := 3) rfl rfl hw
    have g4 := each_w (i := 4) (t := 3) rfl rfl hw
    have g5 := each_w (i := 5) (t := 30) rfl rfl hw
    have g6 := each_w (i := 6) (t := 36) rfl rfl hw
    obtain ⟨a0, e0, -, w0⟩ := DataW.trod_int Try.underlying5 f0
    obtain ⟨a1, e1⟩ := ID2.of f1
    obtain ⟨a2, e2⟩ := ID2.of f2
    obtain ⟨a3, e3, -, w3⟩ := DataW.trod_int Try.underlying3 f3
    obtain ⟨a4, e4, -, w4⟩ := DataW.trod_int Try.underlying3 f4
    obtain ⟨a5, e5⟩ := ID2.of f5
    obtain ⟨sm, sf, sr, sc, ss, lm, lf, lr, lc, ls, e6, hV⟩ := view_of f6 g6
    simp only [elI, List.cons.injEq, and_true] at e0 e1 e2 e3 e4 e5 e6
    obtain ⟨rfl, rfl⟩ := e1
    obtain ⟨rfl, rfl⟩ := e2
    obtain ⟨rfl, rfl⟩ := e5
    obtain ⟨rfl, rfl, rfl, rfl, rfl⟩ := e6
    subst e0 e3 e4
    have b0 := u8_of w0
    exact ⟨⟨⟨a0, a1.a, a1.i, a2.a, a2.i, a3, a4, a5.a, a5.i, sm, sf, sr, sc, ss⟩, lm, lf, lr, lc, ls⟩, rfl, ⟨b0.1, b0.2, hV.ms, hV.fs, hV.rs, hV.cs, hV.ss, hV.not, hV.zms, hV.zfs, hV.zrs, hV.zcs, hV.zss⟩⟩
/-- A step. -/
structure St where
  kind : Int
  x : Inp
instance : Inhabited St := ⟨⟨0, default⟩⟩
def elS : El St where
  e := 51
  t := 48
  k := 15
  c := fun s => .int .u8 s.kind :: s.x.f.cells.toList
  len := fun _ => rfl
  one := by
    intro a v hv
    rcases List.mem_cons.1 hv with rfl | hv
    · rfl
    · exact a.x.f.one v hv
  pos := by decide
structure St.Ok (P : Nat) (s : St) (w : World) : Prop where
  k0 : 0 ≤ s.kind
  k1 : s.kind ≤ 255
  x : s.x.Ok P w
theorem St.of {m : Nat} {cs : List Value} {z : DataW H × List MemPlace} (h : DataW.trod enc Try.prog w base (fun _ => true) held m 51 cs = some z) (hw : ∀ n ∈ z.1.weights Try.prog 51, n ≤ reachBytes) : ∃ s : St, cs = elS.c s ∧ s.Ok w.heap.size w := by
  obtain ⟨xs, n, -, hz, hl, hx, hf⟩ := DataW.trod_struct Try.underlying51 h
  have hc : Try.prog.cellsOf 51 = 15 := by kernel_rfl
  have h5 : Try.prog.cellsOf 5 = 1 := by kernel_rfl
  have h38 : Try.prog.cellsOf 38 = 14 := by kernel_rfl
  rw [hc] at hl
  rw [hz] at hw
  simp only [DataW.weights, Try.underlying51] at hw
  match cs, hl, xs, hx with
  | [c0, c1, c2, c3, c4, c5, c6, c7, c8, c9, c10, c11, c12, c13, c14], _, [x0, x1], _ =>
    have f0 := hf 0 _ rfl
    simp [h5] at f0
    have f1 := hf 1 _ rfl
    simp [h38] at f1
    have g0 := each_w (i := 0) (t := 5) rfl rfl hw
    have g1 := each_w (i := 1) (t := 38) rfl rfl hw
    obtain ⟨a0, e0, -, w0⟩ := DataW.trod_int Try.underlying5 f0
    obtain ⟨x, e1, hx⟩ := Inp.of f1 g1
    simp only [List.cons.injEq, and_true] at e0
    subst e0
    have b0 := u8_of w0
    exact ⟨⟨a0, x⟩, by simp only [elS]; rw [← e1], b0.1, b0.2, hx⟩
/-- Steps, as they come in. -/
structure Ss (P : Nat) (s : SL) (l : List St) (w : World) : Prop where
  rd : Rd elS P 0 P s l w
  ok : ∀ x ∈ l, x.Ok P w
  c : s.c ≤ reachBytes
theorem Ss.below {P : Nat} {s : SL} {l : List St} {w w' : World} (h : Ss P s l w) (hb : Below P w w') : Ss P s l w' :=
  ⟨h.rd.same hb.size fun k _ a _ _ => hb.block k a, fun x hx => ⟨(h.ok x hx).k0, (h.ok x hx).k1, (h.ok x hx).x.below hb⟩, h.c⟩
theorem steps_open {v : Value} {d : DataW H} {ps : List MemPlace} (h : DataW.Trod enc Try.prog w base (fun _ => true) held 48 v d ps) (hv : ∃ oa len cap, v = .slice oa len cap) (hw : ∀ n ∈ d.weights Try.prog 48, n ≤ reachBytes) :
    ∃ (s : SL) (l : List St), v = s.val ∧ Ss w.heap.size s l w := by
  obtain ⟨oa, len, cap, rfl⟩ := hv
  obtain ⟨fuel, hf⟩ := h
  obtain ⟨s, l, h1, h2, h3, h4⟩ := el_open elS (fun s => s.Ok w.heap.size w) (by kernel_rfl) Try.underlying48 (by decide +kernel) (fun m cs z h hw => St.of h hw) hf hw
  simp only [Value.cells, List.cons.injEq, and_true] at h1
  exact ⟨s, l, h1, h2, h3, h4⟩
end
end Go.Proofs.Ytjdhdmljchnidaa
