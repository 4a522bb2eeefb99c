/-
  The document's Take.
-/
import Derived.Test.YtacmplomahmaiaaRef3
namespace Go.Proofs.Ytacmplomahmaiaa
open Go.RowKit
set_option linter.unusedVariables false
set_option linter.unusedSimpArgs false
attribute [local go_sem ↓] Go.wp_at_zero Go.wp_at_succ
theorem Rl.drewN {R : Nat} {g : Int → Peer} {w : World} (h : Rl R g w) (k : Nat) : Rl R g (w.drewN k) := h.same (Nat.le_refl _) rfl
theorem set_set (g : Int → Peer) (a : Int) (p q : Peer) : set (set g a p) a q = set g a q := by
  funext b; unfold set; split <;> rfl
theorem set_get (g : Int → Peer) (a : Int) (p : Peer) : set g a p a = p := by simp [set]
theorem set_self (g : Int → Peer) (a : Int) : set g a (g a) = g := by funext b; unfold set; split <;> simp_all
/-- What the document asks of a number that may have been met. -/
def twiceB (p : Peer) (kind fi n : Int) : Bool := decide (fi = p.newest) && ((decide (kind = 5) && decide (n ≤ p.beat)) || (decide (kind = 6) && decide (n ≤ p.reply)))
def oldB (p : Peer) (fi ti mi : Int) : Bool := (decide (ti ≠ 0) && decide (ti ≠ mi)) || decide (fi < p.newest)
def stored (p : Peer) (kind fi n : Int) : Peer :=
  if p.newest < fi then (if kind = 6 then ⟨fi, p.fenced, 0, n⟩ else if kind = 5 then ⟨fi, p.fenced, n, 0⟩ else ⟨fi, p.fenced, 0, 0⟩)
  else (if kind = 6 then { p with reply := n } else if kind = 5 then { p with beat := n } else p)
theorem take_old (p : Peer) (f : Fr) (mi : Int) (h : oldB p f.fi f.ti mi = true) : p.take f mi = (p, 42) := by
  unfold Peer.take; unfold oldB at h; rw [if_pos h]
theorem take_fenced (p : Peer) (f : Fr) (mi : Int) (h : oldB p f.fi f.ti mi = false) (h2 : f.fi ≤ p.fenced) : p.take f mi = (p, 7) := by
  unfold Peer.take; unfold oldB at h; rw [if_neg (by rw [h]; simp), if_pos (by simpa using h2)]
theorem take_twice (p : Peer) (f : Fr) (mi : Int) (h : oldB p f.fi f.ti mi = false) (h2 : ¬ f.fi ≤ p.fenced) (h3 : twiceB p f.kind f.fi f.n = true) : p.take f mi = (p, 6) := by
  unfold twiceB at h3
  simp only [Bool.and_eq_true, decide_eq_true_eq] at h3
  obtain ⟨e, h3⟩ := h3
  unfold Peer.take; unfold oldB at h
  rw [if_neg (by rw [h]; simp), if_neg (by simpa using h2), if_neg (by simp; omega), if_pos h3]
theorem take_stored (p : Peer) (f : Fr) (mi : Int) (h : oldB p f.fi f.ti mi = false) (h2 : ¬ f.fi ≤ p.fenced) (h3 : twiceB p f.kind f.fi f.n = false) : p.take f mi = (stored p f.kind f.fi f.n, 0) := by
  have hge : p.newest ≤ f.fi := by
    unfold oldB at h
    simp only [Bool.or_eq_false_iff, decide_eq_false_iff_not] at h
    omega
  unfold Peer.take stored
  unfold oldB at h
  rw [if_neg (by rw [h]; simp), if_neg (by simpa using h2)]
  by_cases hn : p.newest < f.fi
  · rw [if_pos (by simpa using hn), if_pos hn]
  · rw [if_neg (by simpa using hn), if_neg hn, if_neg]
    intro hc
    have : twiceB p f.kind f.fi f.n = true := by
      unfold twiceB
      rw [hc]
      simp; omega
    rw [h3] at this
    cases this
set_option maxRecDepth 100000 in
set_option maxHeartbeats 4000000 in
theorem rtake_bad (R : Nat) (g : Int → Peer) (kind fa fi ta ti n token ma mi : Int) (w : World) (h : Rl R g w) (hf : formB ⟨kind, fa, fi, ta, ti, n, token⟩ ma = false) :
    Calls Try.prog 21 #[.pointer (some ⟨R, 0, none⟩), .agg #[.int .u8 kind, .int .i64 fa, .int .i64 fi, .int .i64 ta, .int .i64 ti, .int .i64 n, .int .i64 token, .int .i64 0, .int .i64 0, .slice none 0 0, .slice none 0 0, .slice none 0 0, .slice none 0 0, .slice none 0 0], .agg #[.int .i64 ma, .int .i64 mi]] w fun e w' => e = .returned (.int .i64 4) ∧ Rl R g w' ∧ Keep R w w' := by
  have hR := ((h.alloc (.cells #[.int .u8 kind, .int .i64 fa, .int .i64 fi, .int .i64 ta, .int .i64 ti, .int .i64 n, .int .i64 token, .int .i64 0, .int .i64 0, .slice none 0 0, .slice none 0 0, .slice none 0 0, .slice none 0 0, .slice none 0 0] 37)).alloc (.cells #[.int .i64 ma, .int .i64 mi] 23)).alloc (.cells #[.int .i64 fa, .int .i64 fi] 23)
  have hK := (((Keep.refl R w).alloc (.cells #[.int .u8 kind, .int .i64 fa, .int .i64 fi, .int .i64 ta, .int .i64 ti, .int .i64 n, .int .i64 token, .int .i64 0, .int .i64 0, .slice none 0 0, .slice none 0 0, .slice none 0 0, .slice none 0 0, .slice none 0 0] 37)).alloc (.cells #[.int .i64 ma, .int .i64 mi] 23)).alloc (.cells #[.int .i64 fa, .int .i64 fi] 23)
  have HR := Lib.hid (And.intro hR hK)
  clear hR hK h
  cases hm : mayB fa fi
  · have HM := Lib.hid hm
    clear hm hf
    go_enter Try.func21, Try.ntmps21
    go_wp2_with fail
    refine (ref_may_exact fa fi _).mono ?_
    rintro e w1 ⟨rfl, rfl⟩
    rw [HM.out]
    go_wp2_with fail
    go_ret
    exact ⟨rfl, HR.out.1, HR.out.2⟩
  · have HM := Lib.hid hm
    unfold formB at hf
    simp only [hm, Bool.true_and] at hf
    clear hm
    by_cases ht : ta = ma
    · have ha : fa = ma := by simpa [ht] using hf
      clear hf
      subst ht ha
      go_enter Try.func21, Try.ntmps21
      go_wp2_with fail
      refine (ref_may_exact _ fi _).mono ?_
      rintro e w1 ⟨rfl, rfl⟩
      rw [HM.out]
      go_wp2_with fail
      go_ret
      exact ⟨rfl, HR.out.1, HR.out.2⟩
    · have ht2 : (ta == ma) = false := by simpa using ht
      clear hf
      go_enter Try.func21, Try.ntmps21
      go_wp2_with fail
      refine (ref_may_exact fa fi _).mono ?_
      rintro e w1 ⟨rfl, rfl⟩
      rw [HM.out]
      go_wp2_with fail
      go_ret
      exact ⟨rfl, HR.out.1, HR.out.2⟩
/-- What Take leaves. -/
def TakeOut (R : Nat) (g : Int → Peer) (k : Int) (r : Peer × Int) (w : World) (e : Ending) (w' : World) : Prop := e = .returned (.int .i64 r.2) ∧ Rl R (if r.2 = 0 then set g k r.1 else g) w' ∧ Keep R w w'
set_option maxRecDepth 100000 in
set_option maxHeartbeats 8000000 in
theorem rtake_good (R : Nat) (g : Int → Peer) (kind : Int) (k : Nat) (fi ti n token ma mi : Int) (w : World) (h : Rl R g w) (hm : mayB k fi = true) (hne : (k : Int) ≠ ma) :
    Calls Try.prog 21 #[.pointer (some ⟨R, 0, none⟩), .agg #[.int .u8 kind, .int .i64 k, .int .i64 fi, .int .i64 ma, .int .i64 ti, .int .i64 n, .int .i64 token, .int .i64 0, .int .i64 0, .slice none 0 0, .slice none 0 0, .slice none 0 0, .slice none 0 0, .slice none 0 0], .agg #[.int .i64 ma, .int .i64 mi]] w (TakeOut R g k ((g k).take ⟨kind, k, fi, ma, ti, n, token⟩ mi) w) := by
  have hd : 1 ≤ (k : Int) ∧ (k : Int) ≤ 12 ∧ 1 ≤ fi ∧ fi ≤ 1048576 := by simpa [mayB] using hm
  obtain ⟨a1, a2, i1, i2⟩ := hd
  have hk12 : (k : Int) < 13 := by omega
  have hk0 : (0 : Int) ≤ (k : Int) := by omega
  have hkn : k ≤ 12 := by omega
  have hR := ((h.alloc (.cells #[.int .u8 kind, .int .i64 k, .int .i64 fi, .int .i64 ma, .int .i64 ti, .int .i64 n, .int .i64 token, .int .i64 0, .int .i64 0, .slice none 0 0, .slice none 0 0, .slice none 0 0, .slice none 0 0, .slice none 0 0] 37)).alloc (.cells #[.int .i64 ma, .int .i64 mi] 23)).alloc (.cells #[.int .i64 k, .int .i64 fi] 23)
  have hK := (((Keep.refl R w).alloc (.cells #[.int .u8 kind, .int .i64 k, .int .i64 fi, .int .i64 ma, .int .i64 ti, .int .i64 n, .int .i64 token, .int .i64 0, .int .i64 0, .slice none 0 0, .slice none 0 0, .slice none 0 0, .slice none 0 0, .slice none 0 0] 37)).alloc (.cells #[.int .i64 ma, .int .i64 mi] 23)).alloc (.cells #[.int .i64 k, .int .i64 fi] 23)
  have hq0 : (((w.alloc (.cells #[.int .u8 kind, .int .i64 k, .int .i64 fi, .int .i64 ma, .int .i64 ti, .int .i64 n, .int .i64 token, .int .i64 0, .int .i64 0, .slice none 0 0, .slice none 0 0, .slice none 0 0, .slice none 0 0, .slice none 0 0] 37)).alloc (.cells #[.int .i64 ma, .int .i64 mi] 23)).alloc (.cells #[.int .i64 k, .int .i64 fi] 23)).heap[w.heap.size]? = some (.cells #[.int .u8 kind, .int .i64 k, .int .i64 fi, .int .i64 ma, .int .i64 ti, .int .i64 n, .int .i64 token, .int .i64 0, .int .i64 0, .slice none 0 0, .slice none 0 0, .slice none 0 0, .slice none 0 0, .slice none 0 0] 37 (0, 0)) := (Below.heap_alloc _ _ _ (by simp; omega)).trans ((Below.heap_alloc _ _ _ (by simp)).trans (heap_alloc_new _ _))
  have hq1 : (((w.alloc (.cells #[.int .u8 kind, .int .i64 k, .int .i64 fi, .int .i64 ma, .int .i64 ti, .int .i64 n, .int .i64 token, .int .i64 0, .int .i64 0, .slice none 0 0, .slice none 0 0, .slice none 0 0, .slice none 0 0, .slice none 0 0] 37)).alloc (.cells #[.int .i64 ma, .int .i64 mi] 23)).alloc (.cells #[.int .i64 k, .int .i64 fi] 23)).heap[w.heap.size + 1]? = some (.cells #[.int .i64 ma, .int .i64 mi] 23 (0, 0)) := by
    rw [Below.heap_alloc _ _ _ (by simp), show w.heap.size + 1 = (w.alloc (.cells #[.int .u8 kind, .int .i64 k, .int .i64 fi, .int .i64 ma, .int .i64 ti, .int .i64 n, .int .i64 token, .int .i64 0, .int .i64 0, .slice none 0 0, .slice none 0 0, .slice none 0 0, .slice none 0 0, .slice none 0 0] 37)).heap.size by simp]; exact heap_alloc_new _ _
  have hRw := h.lt
  have HM := Lib.hid hm
  have HR := Lib.hid (And.intro hR (And.intro hK (And.intro hq0 hq1)))
  clear hR hK hq0 hq1 h hm
  have hnb : ((k : Int) == ma) = false := by simpa using hne
  obtain ⟨p, hp⟩ : ∃ p, p = g k := ⟨_, rfl⟩
  rw [← hp]
  obtain ⟨pn, pf, pb, pr⟩ := p
  have HP := Lib.hid hp
  clear hp
  go_enter Try.func21, Try.ntmps21
  go_wp2_with fail
  refine (ref_may_exact k fi _).mono ?_
  rintro e w1 ⟨rfl, rfl⟩
  rw [HM.out]
  go_wp2_with fail
  go_quiet (fail)
  have hR := HR.out.1.drewN nq
  have hK := HR.out.2.1.drewN nq
  have hq0 : ((((w.alloc (.cells #[.int .u8 kind, .int .i64 k, .int .i64 fi, .int .i64 ma, .int .i64 ti, .int .i64 n, .int .i64 token, .int .i64 0, .int .i64 0, .slice none 0 0, .slice none 0 0, .slice none 0 0, .slice none 0 0, .slice none 0 0] 37)).alloc (.cells #[.int .i64 ma, .int .i64 mi] 23)).alloc (.cells #[.int .i64 k, .int .i64 fi] 23)).drewN nq).heap[w.heap.size]? = some (.cells #[.int .u8 kind, .int .i64 k, .int .i64 fi, .int .i64 ma, .int .i64 ti, .int .i64 n, .int .i64 token, .int .i64 0, .int .i64 0, .slice none 0 0, .slice none 0 0, .slice none 0 0, .slice none 0 0, .slice none 0 0] 37 (0, 0)) := HR.out.2.2.1
  have hq1 : ((((w.alloc (.cells #[.int .u8 kind, .int .i64 k, .int .i64 fi, .int .i64 ma, .int .i64 ti, .int .i64 n, .int .i64 token, .int .i64 0, .int .i64 0, .slice none 0 0, .slice none 0 0, .slice none 0 0, .slice none 0 0, .slice none 0 0] 37)).alloc (.cells #[.int .i64 ma, .int .i64 mi] 23)).alloc (.cells #[.int .i64 k, .int .i64 fi] 23)).drewN nq).heap[w.heap.size + 1]? = some (.cells #[.int .i64 ma, .int .i64 mi] 23 (0, 0)) := HR.out.2.2.2
  clear HR
  generalize (((w.alloc (.cells #[.int .u8 kind, .int .i64 k, .int .i64 fi, .int .i64 ma, .int .i64 ti, .int .i64 n, .int .i64 token, .int .i64 0, .int .i64 0, .slice none 0 0, .slice none 0 0, .slice none 0 0, .slice none 0 0, .slice none 0 0] 37)).alloc (.cells #[.int .i64 ma, .int .i64 mi] 23)).alloc (.cells #[.int .i64 k, .int .i64 fi] 23)).drewN nq = Z at hR hK hq0 hq1 ⊢
  have hRq : R ≠ w.heap.size := by omega
  have hRq1 : R ≠ w.heap.size + 1 := by omega
  generalize w.heap.size = q at hq0 hq1 hRq hRq1 ⊢
  have r0 := hR.cell0 k hkn
  have r1 := hR.cell1 k hkn
  have r2 := hR.cell2 k hkn
  have r3 := hR.cell3 k hkn
  rw [← HP.out] at r0 r1 r2 r3
  have u0 := hR.free (k * 4) (by omega)
  have u2 := hR.free (k * 4 + 2) (by omega)
  have u3 := hR.free (k * 4 + 3) (by omega)
  simp only at r0 r1 r2 r3
  have z0 : Z.cell? ⟨q, 0, none⟩ = some (.int .u8 kind) := (cell_of_row _ _ _ _ _ _ hq0).trans rfl
  have z1 : Z.cell? ⟨q, 1, none⟩ = some (.int .i64 k) := (cell_of_row _ _ _ _ _ _ hq0).trans rfl
  have z2 : Z.cell? ⟨q, 2, none⟩ = some (.int .i64 fi) := (cell_of_row _ _ _ _ _ _ hq0).trans rfl
  have z3 : Z.cell? ⟨q, 3, none⟩ = some (.int .i64 ma) := (cell_of_row _ _ _ _ _ _ hq0).trans rfl
  have z4 : Z.cell? ⟨q, 4, none⟩ = some (.int .i64 ti) := (cell_of_row _ _ _ _ _ _ hq0).trans rfl
  have z5 : Z.cell? ⟨q, 5, none⟩ = some (.int .i64 n) := (cell_of_row _ _ _ _ _ _ hq0).trans rfl
  have y0 : Z.cell? ⟨q + 1, 0, none⟩ = some (.int .i64 ma) := (cell_of_row _ _ _ _ _ _ hq1).trans rfl
  have y1 : Z.cell? ⟨q + 1, 1, none⟩ = some (.int .i64 mi) := (cell_of_row _ _ _ _ _ _ hq1).trans rfl
  have HZ := Lib.hid (And.intro hR hK)
  clear hR hK hq0 hq1
  go_upto_region 4 with fail
  go_cut [56] (fun a56 wx => a56 = .bool (oldB ⟨pn, pf, pb, pr⟩ fi ti mi) ∧ ∃ c, wx = Z.drewN c)
  case first =>
    by_cases t0 : ti = 0
    · have b0 : (ti == 0) = true := by simpa using t0
      by_cases n0 : fi < pn
      · have hOld : oldB ⟨pn, pf, pb, pr⟩ fi ti mi = true := by simp [oldB, t0, n0]
        have HO := Lib.hid hOld
        have dn : decide (fi < pn) = true := by simpa using n0
        clear hOld
        subst t0
        go_quiet (fail)
        go_wp2_with fail
        go_meet
        case rel => exact ⟨by rw [HO.out], _, rfl⟩
      · have hOld : oldB ⟨pn, pf, pb, pr⟩ fi ti mi = false := by simp [oldB, t0, n0]; try omega
        have HO := Lib.hid hOld
        have dn : decide (fi < pn) = false := by simpa using n0
        clear hOld
        subst t0
        go_quiet (fail)
        go_wp2_with fail
        go_meet
        case rel => exact ⟨by rw [HO.out], _, rfl⟩
    · have b0 : (ti == 0) = false := by simpa using t0
      by_cases t1 : ti = mi
      · by_cases n0 : fi < pn
        · have hOld : oldB ⟨pn, pf, pb, pr⟩ fi ti mi = true := by simp [oldB, t0, t1, n0]
          have HO := Lib.hid hOld
          have dn : decide (fi < pn) = true := by simpa using n0
          clear hOld
          subst t1
          go_quiet (fail)
          go_wp2_with fail
          go_meet
          case rel => exact ⟨by rw [HO.out], _, rfl⟩
        · have hOld : oldB ⟨pn, pf, pb, pr⟩ fi ti mi = false := by simp [oldB, t0, t1, n0]; try omega
          have HO := Lib.hid hOld
          have dn : decide (fi < pn) = false := by simpa using n0
          clear hOld
          subst t1
          go_quiet (fail)
          go_wp2_with fail
          go_meet
          case rel => exact ⟨by rw [HO.out], _, rfl⟩
      · have b1 : (ti == mi) = false := by simpa using t1
        have hOld : oldB ⟨pn, pf, pb, pr⟩ fi ti mi = true := by simp [oldB, t0, t1]
        have HO := Lib.hid hOld
        clear hOld
        go_quiet (fail)
        go_wp2_with fail
        go_meet
        case rel => exact ⟨by rw [HO.out], _, rfl⟩
  case rest =>
    obtain ⟨rfl, c, rfl⟩ := hcut
    have z0 : (Z.drewN c).cell? ⟨q, 0, none⟩ = _ := z0
    have z1 : (Z.drewN c).cell? ⟨q, 1, none⟩ = _ := z1
    have z2 : (Z.drewN c).cell? ⟨q, 2, none⟩ = _ := z2
    have z3 : (Z.drewN c).cell? ⟨q, 3, none⟩ = _ := z3
    have z4 : (Z.drewN c).cell? ⟨q, 4, none⟩ = _ := z4
    have z5 : (Z.drewN c).cell? ⟨q, 5, none⟩ = _ := z5
    have y0 : (Z.drewN c).cell? ⟨q + 1, 0, none⟩ = _ := y0
    have y1 : (Z.drewN c).cell? ⟨q + 1, 1, none⟩ = _ := y1
    have r0 : (Z.drewN c).cell? ⟨R, k * 4, none⟩ = _ := r0
    have r1 : (Z.drewN c).cell? ⟨R, k * 4 + 1, none⟩ = _ := r1
    have r2 : (Z.drewN c).cell? ⟨R, k * 4 + 2, none⟩ = _ := r2
    have r3 : (Z.drewN c).cell? ⟨R, k * 4 + 3, none⟩ = _ := r3
    have u0 : (Z.drewN c).frozen? ⟨R, k * 4, none⟩ = false := u0
    have u2 : (Z.drewN c).frozen? ⟨R, k * 4 + 2, none⟩ = false := u2
    have u3 : (Z.drewN c).frozen? ⟨R, k * 4 + 3, none⟩ = false := u3
    have HZ : Hid (Rl R g (Z.drewN c) ∧ Keep R w (Z.drewN c)) := Lib.hid ⟨HZ.out.1.drewN _, HZ.out.2.drewN _⟩
    generalize Z.drewN c = V at z0 z1 z2 z3 z4 z5 y0 y1 r0 r1 r2 r3 u0 u2 u3 HZ ⊢
    cases hOld : oldB (⟨pn, pf, pb, pr⟩ : Peer) fi ti mi
    · have HOld := Lib.hid hOld
      clear hOld
      by_cases hF : fi ≤ pf
      · have HT := Lib.hid (take_fenced (⟨pn, pf, pb, pr⟩ : Peer) (⟨kind, k, fi, ma, ti, n, token⟩ : Fr) mi HOld.out hF)
        have dF : decide (fi ≤ pf) = true := by simpa using hF
        clear hF
        go_wp2_with fail
        go_quiet (fail)
        go_wp2_with fail
        go_ret
        rw [HT.out]
        refine ⟨rfl, ?_, HZ.out.2.drewN nq⟩
        rw [if_neg (by simp)]
        exact HZ.out.1.drewN nq
      · have dF : decide (fi ≤ pf) = false := by simpa using hF
        have HF : Hid (¬ fi ≤ pf) := Lib.hid hF
        clear hF
        go_wp2_with fail
        go_quiet (fail)
        have z0 : (V.drewN nq).cell? ⟨q, 0, none⟩ = _ := z0
        have z1 : (V.drewN nq).cell? ⟨q, 1, none⟩ = _ := z1
        have z2 : (V.drewN nq).cell? ⟨q, 2, none⟩ = _ := z2
        have z3 : (V.drewN nq).cell? ⟨q, 3, none⟩ = _ := z3
        have z4 : (V.drewN nq).cell? ⟨q, 4, none⟩ = _ := z4
        have z5 : (V.drewN nq).cell? ⟨q, 5, none⟩ = _ := z5
        have y0 : (V.drewN nq).cell? ⟨q + 1, 0, none⟩ = _ := y0
        have y1 : (V.drewN nq).cell? ⟨q + 1, 1, none⟩ = _ := y1
        have r0 : (V.drewN nq).cell? ⟨R, k * 4, none⟩ = _ := r0
        have r1 : (V.drewN nq).cell? ⟨R, k * 4 + 1, none⟩ = _ := r1
        have r2 : (V.drewN nq).cell? ⟨R, k * 4 + 2, none⟩ = _ := r2
        have r3 : (V.drewN nq).cell? ⟨R, k * 4 + 3, none⟩ = _ := r3
        have u0 : (V.drewN nq).frozen? ⟨R, k * 4, none⟩ = false := u0
        have u2 : (V.drewN nq).frozen? ⟨R, k * 4 + 2, none⟩ = false := u2
        have u3 : (V.drewN nq).frozen? ⟨R, k * 4 + 3, none⟩ = false := u3
        have HZ : Hid (Rl R g (V.drewN nq) ∧ Keep R w (V.drewN nq)) := Lib.hid ⟨HZ.out.1.drewN _, HZ.out.2.drewN _⟩
        generalize V.drewN nq = U at z0 z1 z2 z3 z4 z5 y0 y1 r0 r1 r2 r3 u0 u2 u3 HZ ⊢
        go_upto_region 8 with fail
        clear dF
        go_cut [100] (fun a100 wx => a100 = .bool (twiceB (⟨pn, pf, pb, pr⟩ : Peer) kind fi n) ∧ ∃ c, wx = U.drewN c)
        case first =>
          by_cases e0 : fi = pn
          · have b0 : (fi == pn) = true := by simpa using e0
            by_cases k5 : kind = 5
            · have hT : twiceB (⟨pn, pf, pb, pr⟩ : Peer) kind fi n = decide (n ≤ pb) := by simp [twiceB, e0, k5]
              have HT := Lib.hid hT
              clear hT
              subst k5 e0
              by_cases hn : n ≤ pb
              · have dn : decide (n ≤ pb) = true := by simpa using hn
                have HD := Lib.hid dn
                go_quiet (fail)
                go_wp2_with fail
                go_meet
                case rel => exact ⟨by rw [HT.out, HD.out], _, rfl⟩
              · have dn : decide (n ≤ pb) = false := by simpa using hn
                have HD := Lib.hid dn
                go_quiet (fail)
                go_wp2_with fail
                go_meet
                case rel => exact ⟨by rw [HT.out, HD.out], _, rfl⟩
            · have b5 : (kind == 5) = false := by simpa using k5
              by_cases k6 : kind = 6
              · have hT : twiceB (⟨pn, pf, pb, pr⟩ : Peer) kind fi n = decide (n ≤ pr) := by simp [twiceB, e0, k6]
                have HT := Lib.hid hT
                clear hT
                subst k6 e0
                by_cases hn : n ≤ pr
                · have dn : decide (n ≤ pr) = true := by simpa using hn
                  have HD := Lib.hid dn
                  go_quiet (fail)
                  go_wp2_with fail
                  go_meet
                  case rel => exact ⟨by rw [HT.out, HD.out], _, rfl⟩
                · have dn : decide (n ≤ pr) = false := by simpa using hn
                  have HD := Lib.hid dn
                  go_quiet (fail)
                  go_wp2_with fail
                  go_meet
                  case rel => exact ⟨by rw [HT.out, HD.out], _, rfl⟩
              · have b6 : (kind == 6) = false := by simpa using k6
                have HT := Lib.hid (show twiceB (⟨pn, pf, pb, pr⟩ : Peer) kind fi n = false by simp [twiceB, k5, k6])
                subst e0
                go_quiet (fail)
                go_wp2_with fail
                go_meet
                case rel => exact ⟨by rw [HT.out], _, rfl⟩
          · have b0 : (fi == pn) = false := by simpa using e0
            have HT := Lib.hid (show twiceB (⟨pn, pf, pb, pr⟩ : Peer) kind fi n = false by simp [twiceB, e0])
            go_quiet (fail)
            go_wp2_with fail
            go_meet
            case rel => exact ⟨by rw [HT.out], _, rfl⟩
        case rest =>
          obtain ⟨rfl, c2, rfl⟩ := hcut
          have z0 : (U.drewN c2).cell? ⟨q, 0, none⟩ = _ := z0
          have z1 : (U.drewN c2).cell? ⟨q, 1, none⟩ = _ := z1
          have z2 : (U.drewN c2).cell? ⟨q, 2, none⟩ = _ := z2
          have z3 : (U.drewN c2).cell? ⟨q, 3, none⟩ = _ := z3
          have z4 : (U.drewN c2).cell? ⟨q, 4, none⟩ = _ := z4
          have z5 : (U.drewN c2).cell? ⟨q, 5, none⟩ = _ := z5
          have y0 : (U.drewN c2).cell? ⟨q + 1, 0, none⟩ = _ := y0
          have y1 : (U.drewN c2).cell? ⟨q + 1, 1, none⟩ = _ := y1
          have r0 : (U.drewN c2).cell? ⟨R, k * 4, none⟩ = _ := r0
          have r1 : (U.drewN c2).cell? ⟨R, k * 4 + 1, none⟩ = _ := r1
          have r2 : (U.drewN c2).cell? ⟨R, k * 4 + 2, none⟩ = _ := r2
          have r3 : (U.drewN c2).cell? ⟨R, k * 4 + 3, none⟩ = _ := r3
          have u0 : (U.drewN c2).frozen? ⟨R, k * 4, none⟩ = false := u0
          have u2 : (U.drewN c2).frozen? ⟨R, k * 4 + 2, none⟩ = false := u2
          have u3 : (U.drewN c2).frozen? ⟨R, k * 4 + 3, none⟩ = false := u3
          have HZ : Hid (Rl R g (U.drewN c2) ∧ Keep R w (U.drewN c2)) := Lib.hid ⟨HZ.out.1.drewN _, HZ.out.2.drewN _⟩
          generalize U.drewN c2 = S at z0 z1 z2 z3 z4 z5 y0 y1 r0 r1 r2 r3 u0 u2 u3 HZ ⊢
          cases hTw : twiceB (⟨pn, pf, pb, pr⟩ : Peer) kind fi n
          · have HT := Lib.hid (take_stored (⟨pn, pf, pb, pr⟩ : Peer) (⟨kind, k, fi, ma, ti, n, token⟩ : Fr) mi HOld.out (by have := HF.out; show ¬ fi ≤ pf; omega) hTw)
            clear hTw
            by_cases hnw : pn < fi
            · have dN : decide (pn < fi) = true := by simpa using hnw
              by_cases k5 : kind = 5
              · have hst : stored (⟨pn, pf, pb, pr⟩ : Peer) kind fi n = ⟨fi, pf, n, 0⟩ := by simp [stored, hnw, k5]
                have HT2 := Lib.hid hst
                clear hst hnw
                subst k5
                go_wp2_with fail
                go_quiet (fail)
                go_wp2_with fail
                go_ret
                rw [HT.out, HT2.out]
                refine ⟨rfl, ?_, ((((HZ.out.2.drewN nq).setCell (p := ⟨R, k * 4, none⟩) (.inl rfl) _).setCell (p := ⟨R, k * 4 + 2, none⟩) (.inl rfl) _).setCell (p := ⟨R, k * 4 + 3, none⟩) (.inl rfl) _).setCell (p := ⟨R, k * 4 + 2, none⟩) (.inl rfl) _⟩
                have hX := ((((HZ.out.1.drewN nq).setNewest k hkn fi).setBeat k hkn 0).setReply k hkn 0).setBeat k hkn n
                simp only [set_set, set_get] at hX
                rw [← HP.out] at hX
                exact hX
              · have b5 : (kind == 5) = false := by simpa using k5
                by_cases k6 : kind = 6
                · have hst : stored (⟨pn, pf, pb, pr⟩ : Peer) kind fi n = ⟨fi, pf, 0, n⟩ := by simp [stored, hnw, k6]
                  have HT2 := Lib.hid hst
                  clear hst hnw
                  subst k6
                  go_wp2_with fail
                  go_quiet (fail)
                  go_wp2_with fail
                  go_ret
                  rw [HT.out, HT2.out]
                  refine ⟨rfl, ?_, ((((HZ.out.2.drewN nq).setCell (p := ⟨R, k * 4, none⟩) (.inl rfl) _).setCell (p := ⟨R, k * 4 + 2, none⟩) (.inl rfl) _).setCell (p := ⟨R, k * 4 + 3, none⟩) (.inl rfl) _).setCell (p := ⟨R, k * 4 + 3, none⟩) (.inl rfl) _⟩
                  have hX := ((((HZ.out.1.drewN nq).setNewest k hkn fi).setBeat k hkn 0).setReply k hkn 0).setReply k hkn n
                  simp only [set_set, set_get] at hX
                  rw [← HP.out] at hX
                  exact hX
                · have b6 : (kind == 6) = false := by simpa using k6
                  have hst : stored (⟨pn, pf, pb, pr⟩ : Peer) kind fi n = ⟨fi, pf, 0, 0⟩ := by simp [stored, hnw, k5, k6]
                  have HT2 := Lib.hid hst
                  clear hst hnw
                  go_wp2_with fail
                  go_quiet (fail)
                  go_wp2_with fail
                  go_ret
                  rw [HT.out, HT2.out]
                  refine ⟨rfl, ?_, (((HZ.out.2.drewN nq).setCell (p := ⟨R, k * 4, none⟩) (.inl rfl) _).setCell (p := ⟨R, k * 4 + 2, none⟩) (.inl rfl) _).setCell (p := ⟨R, k * 4 + 3, none⟩) (.inl rfl) _⟩
                  have hX := (((HZ.out.1.drewN nq).setNewest k hkn fi).setBeat k hkn 0).setReply k hkn 0
                  simp only [set_set, set_get] at hX
                  rw [← HP.out] at hX
                  exact hX
            · have dN : decide (pn < fi) = false := by simpa using hnw
              by_cases k5 : kind = 5
              · have hst : stored (⟨pn, pf, pb, pr⟩ : Peer) kind fi n = ⟨pn, pf, n, pr⟩ := by simp [stored, hnw, k5]
                have HT2 := Lib.hid hst
                clear hst hnw
                subst k5
                go_wp2_with fail
                go_quiet (fail)
                go_wp2_with fail
                go_ret
                rw [HT.out, HT2.out]
                refine ⟨rfl, ?_, (HZ.out.2.drewN nq).setCell (p := ⟨R, k * 4 + 2, none⟩) (.inl rfl) _⟩
                have hX := (HZ.out.1.drewN nq).setBeat k hkn n
                rw [← HP.out] at hX
                exact hX
              · have b5 : (kind == 5) = false := by simpa using k5
                by_cases k6 : kind = 6
                · have hst : stored (⟨pn, pf, pb, pr⟩ : Peer) kind fi n = ⟨pn, pf, pb, n⟩ := by simp [stored, hnw, k6]
                  have HT2 := Lib.hid hst
                  clear hst hnw
                  subst k6
                  go_wp2_with fail
                  go_quiet (fail)
                  go_wp2_with fail
                  go_ret
                  rw [HT.out, HT2.out]
                  refine ⟨rfl, ?_, (HZ.out.2.drewN nq).setCell (p := ⟨R, k * 4 + 3, none⟩) (.inl rfl) _⟩
                  have hX := (HZ.out.1.drewN nq).setReply k hkn n
                  rw [← HP.out] at hX
                  exact hX
                · have b6 : (kind == 6) = false := by simpa using k6
                  have hst : stored (⟨pn, pf, pb, pr⟩ : Peer) kind fi n = ⟨pn, pf, pb, pr⟩ := by simp [stored, hnw, k5, k6]
                  have HT2 := Lib.hid hst
                  clear hst hnw
                  go_wp2_with fail
                  go_quiet (fail)
                  go_wp2_with fail
                  go_ret
                  rw [HT.out, HT2.out]
                  refine ⟨rfl, ?_, HZ.out.2.drewN nq⟩
                  rw [if_pos rfl, HP.out, set_self]
                  exact HZ.out.1.drewN nq
          · have HT := Lib.hid (take_twice (⟨pn, pf, pb, pr⟩ : Peer) (⟨kind, k, fi, ma, ti, n, token⟩ : Fr) mi HOld.out (by have := HF.out; show ¬ fi ≤ pf; omega) hTw)
            clear hTw
            go_wp2_with fail
            go_ret
            rw [HT.out]
            refine ⟨rfl, ?_, HZ.out.2⟩
            rw [if_neg (by simp)]
            exact HZ.out.1
    · have HT := Lib.hid (take_old (⟨pn, pf, pb, pr⟩ : Peer) (⟨kind, k, fi, ma, ti, n, token⟩ : Fr) mi hOld)
      clear hOld
      go_wp2_with fail
      go_ret
      rw [HT.out]
      refine ⟨rfl, ?_, HZ.out.2⟩
      rw [if_neg (by simp)]
      exact HZ.out.1
end Go.Proofs.Ytacmplomahmaiaa
