/-
  A frame bent in its place; what At, Give, Lose, Twice, Bend, Copy do.
-/
import Derived.Test.YtialfpmfiapepaaClo
namespace Go.Proofs.Ytialfpmfiapepaa
open Go.RowKit
set_option linter.unusedVariables false
set_option linter.unusedSimpArgs false
attribute [local go_sem ↓] Go.wp_at_zero Go.wp_at_succ
theorem rows_set (l : List U) (k : Nat) (u : U) (hk : k < l.length) : (((rows l).set (k * 3) (.string u.s)).set (k * 3 + 1) (.int .i64 u.to)).set (k * 3 + 2) (.bool u.bent) = rows (l.set k u) := by
  induction l generalizing k with
  | nil => simp at hk
  | cons f a ih =>
    cases k with
    | zero => simp [rows, U.cells]
    | succ k =>
      have := ih k (by simpa using hk)
      simp only [rows, List.set_cons_succ, U.cells]
      rw [← this]
      simp only [List.cons_append, List.nil_append, show (k + 1) * 3 = k * 3 + 1 + 1 + 1 by omega, show (k + 1) * 3 + 1 = k * 3 + 1 + 1 + 1 + 1 by omega, show (k + 1) * 3 + 2 = k * 3 + 2 + 1 + 1 + 1 by omega, List.set_cons_succ]
theorem Nt.under {P B B0 : Nat} {v : Value} {n : N} {w w' : World} (h : Nt P B v n w) (hb : Below B0 w w') (hB : B < B0) (hv : ∀ g, v.ownBlock = some g → g < B0) : Nt P B v n w' := by
  refine ⟨(hb.block _ hB).trans h.here, ⟨h.row.1, ?_⟩, h.ne, h.ok, h.pB⟩
  rcases h.row.2 with hn | ⟨g, cap, cur, rfl, hP, hgg, rest⟩
  · exact .inl hn
  · exact .inr ⟨g, cap, cur, rfl, hP, (hb.block g (hv g rfl)).trans hgg, rest⟩
/-- One frame is written over. -/
theorem Nt.put {P B g cap j : Nat} {n : N} {w : World} (h : Nt P B (.slice (some ⟨g, 0, none⟩) n.l.length cap) n w) (hj : j < n.l.length) (u : U) :
    Nt P B (.slice (some ⟨g, 0, none⟩) n.l.length cap) (n.put j u) (((w.setCell ⟨g, j * 3, none⟩ (.string u.s)).setCell ⟨g, j * 3 + 1, none⟩ (.int .i64 u.to)).setCell ⟨g, j * 3 + 2, none⟩ (.bool u.bent)) ∧
    Turn B (.slice (some ⟨g, 0, none⟩) n.l.length cap) (.slice (some ⟨g, 0, none⟩) n.l.length cap) w (((w.setCell ⟨g, j * 3, none⟩ (.string u.s)).setCell ⟨g, j * 3 + 1, none⟩ (.int .i64 u.to)).setCell ⟨g, j * 3 + 2, none⟩ (.bool u.bent)) := by
  have hgB : g ≠ B := fun e => h.ne (by rw [e]; rfl)
  obtain ⟨r1, g1⟩ := World.ownsRow.stored h.row (j * 3) (.string u.s)
  obtain ⟨r2, g2⟩ := World.ownsRow.stored r1 (j * 3 + 1) (.int .i64 u.to)
  obtain ⟨r3, g3⟩ := World.ownsRow.stored r2 (j * 3 + 2) (.bool u.bent)
  have hp : n.put j u = ⟨n.max, n.l.set j u⟩ := by
    unfold N.put; rw [if_pos (by simp [N.has, hj])]; rfl
  constructor
  · rw [hp]
    refine ⟨?_, ?_, h.ne, ⟨h.ok.m1, h.ok.m2, by have := h.ok.le; show (((n.l.set j u).length : Nat) : Int) ≤ n.max; rw [List.length_set]; exact this⟩, h.pB⟩
    · rw [Below.heap_setCell _ _ _ _ (by show B ≠ g; exact Ne.symm hgB), Below.heap_setCell _ _ _ _ (by show B ≠ g; exact Ne.symm hgB), Below.heap_setCell _ _ _ _ (by show B ≠ g; exact Ne.symm hgB)]
      exact h.here
    · rw [rows_set _ _ _ hj] at r3
      simpa using r3
  · have hb : ∀ (x : World) (o : Nat) (y : Value) (k : Nat), k ≠ g → (x.setCell ⟨g, o, none⟩ y).heap[k]? = x.heap[k]? := fun x o y k hk => Below.heap_setCell _ _ _ _ (by show k ≠ g; exact hk)
    refine ⟨rfl, rfl, rfl, by simp, fun k hk hB hv => ?_, fun k hk => .inl hk⟩
    have hkg : k ≠ g := fun e => hv (by rw [e]; rfl)
    rw [hb _ _ _ _ hkg, hb _ _ _ _ hkg, hb _ _ _ _ hkg]
set_option maxRecDepth 100000 in
set_option maxHeartbeats 1000000 in
theorem at_bent (P B : Nat) (v : Value) (n : N) (k : Int) (B0 Q A X : Nat) (w : World) (h : Nt P B v n w) (hk : n.has k = true) (hbent : (n.get k).bent = true) (hB : B < B0) (hv : ∀ g, v.ownBlock = some g → g < B0)
    (hQ : w.heap[Q]? = some (.cells #[.bool false] 4 (0, 0))) (h1 : B0 ≤ Q) :
    Calls Try.prog 27 #[.pointer (some ⟨B, 0, none⟩), .int .i64 k, .func (.func 32) #[] #[.pointer (some ⟨Q, 0, none⟩), .pointer (some ⟨A, 0, none⟩), .pointer (some ⟨X, 0, none⟩)]] w fun e w' => e = .returned (.int .i64 0) ∧ w'.heap[Q]? = some (.cells #[.bool true] 4 (0, 0)) ∧ w.heap.size ≤ w'.heap.size ∧ Below B0 w w' := by
  have hlq : Q < w.heap.size := (Array.getElem?_eq_some_iff.1 hQ).1
  obtain ⟨-, c1⟩ := h.reads
  have hlt := h.lt
  obtain ⟨g, cap, j, rfl, rfl, hj, hgl, hgB, hPg, hnc, hcm, hget⟩ := h.in_form hk
  have hgj : n.get (j : Int) = n.l[j] := by rw [hget, List.getD_eq_getElem?_getD, List.getElem?_eq_getElem hj]; rfl
  have hgB0 : g < B0 := hv g rfl
  rw [hgj] at hbent
  obtain ⟨q0, q1, q2⟩ := h.at_ j hj
  generalize n.l[j] = u at q0 q1 q2 hbent
  obtain ⟨us, uto, ub⟩ := u
  simp only at hbent
  subst hbent
  clear h hk hgj hget hv
  go_enter Try.func27, Try.ntmps27
  go_wp2_with fail
  refine (clo_bent us uto B0 Q A X w hQ h1).mono ?_
  clear hQ
  rintro e w1 ⟨rfl, hQ, hs, hb⟩
  have HX := Lib.hid hQ
  clear hQ
  have c1 := (hb.cell (p := ⟨B, 1, none⟩) hB).trans c1
  have q0 := (hb.cell (p := ⟨g, j * 3, none⟩) hgB0).trans q0
  have q1 := (hb.cell (p := ⟨g, j * 3 + 1, none⟩) hgB0).trans q1
  have q2 := (hb.cell (p := ⟨g, j * 3 + 2, none⟩) hgB0).trans q2
  have hgl1 : g < w1.heap.size := by omega
  have hlt1 : B < w1.heap.size := by omega
  go_wp2_with fail
  go_region
  all_goals
    go_wp2_with fail
    go_ret
    refine ⟨rfl, ?_, by simp; omega, (hb.alloc (by omega) _).drew⟩
    show (w1.alloc _).heap[Q]? = _
    rw [Below.heap_alloc _ _ _ (by omega)]; exact HX.out
set_option maxRecDepth 100000 in
set_option maxHeartbeats 2000000 in
theorem at_bend (P B : Nat) (v : Value) (n : N) (k : Int) (a : Int) (x : BitVec 32) (B0 Q A X : Nat) (w : World) (h : Nt P B v n w) (hk : n.has k = true) (hbent : (n.get k).bent = false) (hsz : (n.get k).s.size ≤ 100000) (ha0 : -9223372036854775808 ≤ a) (ha1 : a ≤ 9223372036854775807) (hB : B < B0) (hv : ∀ g, v.ownBlock = some g → g < B0)
    (hQ : w.heap[Q]? = some (.cells #[.bool false] 4 (0, 0))) (hA : w.heap[A]? = some (.cells #[.int .i64 a] 3 (0, 0))) (hX : w.heap[X]? = some (.cells #[.int .u32 (u x)] 30 (0, 0))) (h1 : B0 ≤ Q) (hAQ : A ≠ Q) (hXQ : X ≠ Q) :
    Calls Try.prog 27 #[.pointer (some ⟨B, 0, none⟩), .int .i64 k, .func (.func 32) #[] #[.pointer (some ⟨Q, 0, none⟩), .pointer (some ⟨A, 0, none⟩), .pointer (some ⟨X, 0, none⟩)]] w fun e w' => e = .returned (.int .i64 0) ∧ w'.heap[Q]? = some (.cells #[.bool false] 4 (0, 0)) ∧ w.heap.size ≤ w'.heap.size ∧
      ∃ w0, Below B0 w w0 ∧ Nt P B v n w0 ∧ Nt P B v (n.put k ((n.get k).bend a x)) w' ∧ Turn B v v w0 w' := by
  have hlq : Q < w.heap.size := (Array.getElem?_eq_some_iff.1 hQ).1
  obtain ⟨-, c1⟩ := h.reads
  have hlt := h.lt
  obtain ⟨g, cap, j, rfl, rfl, hj, hgl, hgB, hPg, hnc, hcm, hget⟩ := h.in_form hk
  have hgj : n.get (j : Int) = n.l[j] := by rw [hget, List.getD_eq_getElem?_getD, List.getElem?_eq_getElem hj]; rfl
  have hgB0 : g < B0 := hv g rfl
  have hjj : n.has (j : Int) = true := hk
  rw [hgj] at hbent hsz ⊢
  obtain ⟨q0, q1, q2⟩ := h.at_ j hj
  generalize n.l[j] = u0 at q0 q1 q2 hbent hsz ⊢
  obtain ⟨us, uto, ub⟩ := u0
  simp only at hbent hsz
  subst hbent
  have HU := Lib.hid (show (U.bend ⟨us, uto, false⟩ a x) = ⟨⟨(bend us.data.toList a x).toArray⟩, uto, true⟩ from rfl)
  have HH := Lib.hid h
  clear h hk hgj hget hv
  go_enter Try.func27, Try.ntmps27
  go_wp2_with fail
  refine (clo_bend us uto a x B0 Q A X w hsz ha0 ha1 hQ hA hX h1 hAQ hXQ).mono ?_
  clear hQ hA hX
  rintro e w1 ⟨rfl, hQ, hs, hb⟩
  have HX := Lib.hid hQ
  clear hQ
  have c1 := (hb.cell (p := ⟨B, 1, none⟩) hB).trans c1
  have q0 := (hb.cell (p := ⟨g, j * 3, none⟩) hgB0).trans q0
  have q1 := (hb.cell (p := ⟨g, j * 3 + 1, none⟩) hgB0).trans q1
  have q2 := (hb.cell (p := ⟨g, j * 3 + 2, none⟩) hgB0).trans q2
  have hgl1 : g < w1.heap.size := by omega
  have hlt1 : B < w1.heap.size := by omega
  have fg := fun o => (hb.frozen (p := ⟨g, o, none⟩) hgB0).trans (World.ownsRow.frozenAt HH.out.row o)
  generalize (⟨(bend us.data.toList a x).toArray⟩ : ByteArray) = us2 at HU ⊢
  go_wp2_with fail
  go_region
  all_goals
    go_wp2_with fail
    go_region
    all_goals
      go_wp2_with fail
      go_ret
      have hN1 := HH.out.under hb hB (fun k hk => by have : g = k := by simpa [Value.ownBlock] using hk
                                                     omega)
      obtain ⟨p1, t1⟩ := hN1.put hj ⟨us2, uto, true⟩
      refine ⟨rfl, ?_, by simp; omega, w1, hb, hN1, ?_, ?_⟩
      · have hQg : Q ≠ g := by omega
        show ((((w1.setCell _ _).setCell _ _).setCell _ _).alloc _).heap[Q]? = _
        rw [Below.heap_alloc _ _ _ (by simp; omega), Below.heap_setCell _ _ _ _ (by show Q ≠ g; exact hQg), Below.heap_setCell _ _ _ _ (by show Q ≠ g; exact hQg), Below.heap_setCell _ _ _ _ (by show Q ≠ g; exact hQg)]
        exact HX.out
      · rw [HU.out]
        exact ((p1.alloc _).drew).drew
      · exact ((t1.alloc _).drew).drew
end Go.Proofs.Ytialfpmfiapepaa
