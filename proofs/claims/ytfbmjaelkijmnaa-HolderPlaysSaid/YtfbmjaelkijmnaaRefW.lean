/-
  The document's holder in memory, and its small walks.
-/
import Derived.Test.YtfbmjaelkijmnaaWant
import Derived.Test.YtfbmjaelkijmnaaInv
namespace Go.Proofs.Ytfbmjaelkijmnaa
open Go.RowKit
set_option linter.unusedVariables false
def rcells (s : St) (z : Int) : Array Value := #[.int .i64 s.addr, .int .i64 s.inc, .int .i64 s.hold, .int .i64 s.retry, .int .i64 s.n, .int .i64 s.asked, .bool (s.kind == 9), .bool s.waits, .int .i64 s.token, .int .i64 z, .bool s.refused]
/-- The block holds the document's holder: the same as ours, but for the time of the question that was granted last. -/
def Doc (C : Nat) (s : St) (z : Int) (w : World) : Prop := w.heap[C]? = some (.cells (rcells s z) 65 (0, 0))
structure Tie (s : St) (z : Int) : Prop where
  t0 : 0 ≤ s.token
  ts : s.token = 0 → s.since = 0
  tz : s.token ≠ 0 → z = s.since
variable {C : Nat} {s : St} {z : Int} {w : World}
theorem Doc.lt (h : Doc C s z w) : C < w.heap.size := (Array.getElem?_eq_some_iff.1 h).1
theorem Doc.free (h : Doc C s z w) (o : Nat) : w.frozen? ⟨C, o, none⟩ = false := frozen_of_row _ _ _ _ _ h
theorem Doc.reads (h : Doc C s z w) :
    w.cell? ⟨C, 0, none⟩ = some (.int .i64 s.addr) ∧ w.cell? ⟨C, 1, none⟩ = some (.int .i64 s.inc) ∧ w.cell? ⟨C, 2, none⟩ = some (.int .i64 s.hold) ∧ w.cell? ⟨C, 3, none⟩ = some (.int .i64 s.retry) ∧
    w.cell? ⟨C, 4, none⟩ = some (.int .i64 s.n) ∧ w.cell? ⟨C, 5, none⟩ = some (.int .i64 s.asked) ∧ w.cell? ⟨C, 6, none⟩ = some (.bool (s.kind == 9)) ∧ w.cell? ⟨C, 7, none⟩ = some (.bool s.waits) ∧
    w.cell? ⟨C, 8, none⟩ = some (.int .i64 s.token) ∧ w.cell? ⟨C, 9, none⟩ = some (.int .i64 z) ∧ w.cell? ⟨C, 10, none⟩ = some (.bool s.refused) := by
  refine ⟨?_, ?_, ?_, ?_, ?_, ?_, ?_, ?_, ?_, ?_, ?_⟩ <;> (rw [cell_of_row _ _ _ _ _ _ h]; rfl)
theorem Doc.kept {w' : World} (h : Doc C s z w) (hb : Below w.heap.size w w') : Doc C s z w' := (hb.block C h.lt).trans h
theorem Doc.other {D : Nat} {w' : World} (h : Doc C s z w) (hb : Keep D w w') (hC : C ≠ D) : Doc C s z w' := (hb.block C h.lt hC).trans h
theorem Doc.set (h : Doc C s z w) (o : Nat) (v : Value) (s' : St) (z' : Int) (hs : (rcells s z).setIfInBounds o v = rcells s' z') : Doc C s' z' (w.setCell ⟨C, o, none⟩ v) := by
  unfold Doc; rw [heap_setCell_same _ _ _ _ _ _ h, hs]
theorem Doc.drew (h : Doc C s z w) : Doc C s z w.drew := h
theorem Doc.drewN (h : Doc C s z w) (n : Nat) : Doc C s z (w.drewN n) := h
theorem Doc.alloc (h : Doc C s z w) (o : Obj) : Doc C s z (w.alloc o) := by
  unfold Doc; rw [Below.heap_alloc _ _ _ h.lt]; exact h
theorem Doc.setOther (h : Doc C s z w) {p : Addr} (hp : p.block ≠ C) (u : Value) : Doc C s z (w.setCell p u) := by
  unfold Doc; rw [Below.heap_setCell _ _ _ _ (Ne.symm hp)]; exact h
set_option maxRecDepth 100000 in
set_option maxHeartbeats 400000 in
theorem rat_any (C : Nat) (s : St) (z now : Int) (w : World) (h : Doc C s z w) :
    Calls Try.prog 38 #[.pointer (some ⟨C, 0, none⟩), .int .i64 now] w fun e w' => e = .returned (.int .i64 (s.time now)) ∧ w' = w := by
  obtain ⟨-, -, -, -, -, c5, -⟩ := h.reads
  clear h
  go_enter Try.func38, Try.ntmps38
  go_wp2
  all_goals
    go_ret
    refine ⟨ret_i ?_, rfl⟩
    unfold St.time
    repeat (first | omega | split at *)
set_option maxRecDepth 100000 in
set_option maxHeartbeats 400000 in
theorem rholds_any (C : Nat) (s : St) (z now : Int) (w : World) (h : Doc C s z w) (ok : s.Ok) (k : Tie s z) :
    Calls Try.prog 28 #[.pointer (some ⟨C, 0, none⟩), .int .i64 now] w fun e w' => e = .returned (.bool (s.holds now)) ∧ ∃ n, w' = w.drewN n := by
  obtain ⟨-, -, c2, -, -, -, -, -, c8, c9, -⟩ := h.reads
  have ht0 := time_lo s now
  have ht1 := time_hi s now
  have s1 := ok.s1
  have s2 := ok.s2
  by_cases ht : 0 < s.token
  · obtain rfl := k.tz (by omega)
    have hw : IntKind.i64.wrap (s.time now - s.since) = s.time now - s.since := IntWalk.i64_in _ (by omega)
    have hne : (s.token == 0) = false := by simp; omega
    have HNE := Lib.hid hne
    clear hne
    go_enter Try.func28, Try.ntmps28
    go_wp2
    go_quiet ((go_at_call 38; exact Calls.quiet_of_same (rat_any _ _ _ _ _ (h.drewN _))))
    go_wp2
    go_ret
    refine ⟨ret_b ?_, nq, rfl⟩
    simp [St.holds, HNE.out]
  · have g : decide (0 < s.token) = false := by simpa using ht
    have h0 : s.token = 0 := by have := k.t0; omega
    have hs := k.ts h0
    have H0 := Lib.hid h0
    have HS := Lib.hid hs
    clear h0 hs
    go_enter Try.func28, Try.ntmps28
    go_wp2
    go_quiet (fail)
    go_wp2
    go_ret
    refine ⟨ret_b ?_, nq, rfl⟩
    simp [St.holds, H0.out, HS.out]
theorem rrefused_any (C : Nat) (s : St) (z : Int) (w : World) (h : Doc C s z w) :
    Calls Try.prog 29 #[.pointer (some ⟨C, 0, none⟩)] w fun e w' => e = .returned (.bool s.refused) ∧ w' = w := by
  obtain ⟨-, -, -, -, -, -, -, -, -, -, c10⟩ := h.reads
  go_enter Try.func29, Try.ntmps29
  go_wp2
  go_ret
  exact ⟨rfl, rfl⟩
set_option maxRecDepth 100000 in
set_option maxHeartbeats 400000 in
theorem rnew_yes (a i h r : Int) (w : World) (hm : may a i h r) :
    Calls Try.prog 24 #[.agg #[.int .i64 a, .int .i64 i], .int .i64 h, .int .i64 r] w fun e w' => ∃ C, e = .returned (.tuple #[.pointer (some ⟨C, 0, none⟩), .int .i64 0]) ∧ Doc C (.fresh a i h r) 0 w' ∧ w.heap.size ≤ C ∧ Below w.heap.size w w' := by
  obtain ⟨hb, h1, h2, r1, r2⟩ := hm
  go_enter Try.func24, Try.ntmps24
  go_wp2_with fail
  refine (ref_may_any _ _ _).mono ?_
  rintro e w1 ⟨rfl, hb1⟩
  have hc := fun (b o : Nat) (h : b < _) => hb1.cell (p := ⟨b, o, none⟩) h
  have hb1 := then_below ((Below.refl _ _).alloc (Nat.le_refl _) _) hb1
  have hs := hb1.size
  rw [hb]
  go_wp2_with fail
  go_ret2
  exact ⟨w1.heap.size, rfl, heap_alloc_new _ _, hs, hb1.alloc hs _⟩
set_option maxRecDepth 100000 in
set_option maxHeartbeats 400000 in
theorem rnew_no (a i h r : Int) (w : World) (hm : ¬ may a i h r) :
    Calls Try.prog 24 #[.agg #[.int .i64 a, .int .i64 i], .int .i64 h, .int .i64 r] w fun e w' => e = .returned (.tuple #[.pointer none, .int .i64 1]) ∧ Below w.heap.size w w' := by
  have HM := Lib.hid hm
  clear hm
  cases hd : mayB a i
  all_goals
    go_enter Try.func24, Try.ntmps24
    go_wp2_with fail
    refine (ref_may_any _ _ _).mono ?_
    rintro e w1 ⟨rfl, hb⟩
    have hb1 := then_below ((Below.refl _ _).alloc (Nat.le_refl _) _) hb
    rw [hd]
    go_wp2_with fail
  · go_ret2
    exact ⟨rfl, hb1⟩
  all_goals first
    | (go_ret2; exact ⟨rfl, hb1⟩)
    | (exfalso; refine HM.out ⟨hd, ?_, ?_, ?_, ?_⟩ <;> omega)
/-- What is let go, told by the document. -/
theorem rdrop_any (C : Nat) (s : St) (z : Int) (w : World) (h : Doc C s z w) :
    Calls Try.prog 27 #[.pointer (some ⟨C, 0, none⟩)] w fun e w' => e = .returned (.tuple #[s.drop.2.1.val, .bool s.drop.2.2]) ∧ Doc C s.drop.1 z w' ∧ Keep C w w' := by
  have hlt := h.lt
  have hlt1 : C < w.heap.size + 1 := by omega
  obtain ⟨c0, c1, -, -, -, -, -, c7, c8, c9, -⟩ := h.reads
  have f7 := h.free 7
  have f8 := h.free 8
  have hA : ∀ o, Doc C s.drop.1 z (((w.setCell ⟨C, 8, none⟩ (.int .i64 0)).setCell ⟨C, 7, none⟩ (.bool false)).alloc o) := fun o =>
    ((h.set 8 _ { s with token := 0 } z rfl).set 7 _ s.drop.1 z rfl).alloc _
  have hK : ∀ o, Keep C w (((w.setCell ⟨C, 8, none⟩ (.int .i64 0)).setCell ⟨C, 7, none⟩ (.bool false)).alloc o) := fun o =>
    (((Keep.refl C w).setCell (.inl rfl) _).setCell (.inl rfl) _).alloc _
  have HA := Lib.hid hA
  have HK := Lib.hid hK
  clear hA hK
  cases hz : s.token == 0
  · have HD := Lib.hid (show s.drop.2 = (⟨11, s.addr, s.inc, 0, 0, 0, s.token⟩, true) by simp [St.drop, hz])
    go_enter Try.func27, Try.ntmps27
    go_wp2
    refine bodyPost_ret (v := .tuple #[Fr.val ⟨11, s.addr, s.inc, 0, 0, 0, s.token⟩, .bool true]) (by simp [results, Try.results27, go_sem, Fr.val, Fr.cells]) rfl ⟨by rw [HD.out], HA.out _, HK.out _⟩
  · have HD := Lib.hid (show s.drop.2 = (.zero, false) by simp [St.drop, hz])
    go_enter Try.func27, Try.ntmps27
    go_wp2
    refine bodyPost_ret (v := .tuple #[Fr.zero.val, .bool false]) (by simp [results, Try.results27, go_sem, Fr.val, Fr.cells, Fr.zero]) rfl ⟨by rw [HD.out], HA.out _, HK.out _⟩
end Go.Proofs.Ytfbmjaelkijmnaa
