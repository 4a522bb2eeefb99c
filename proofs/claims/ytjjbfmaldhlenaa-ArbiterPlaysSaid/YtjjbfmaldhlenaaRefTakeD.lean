/-
  The document's Take.
-/
import Derived.Test.YtjjbfmaldhlenaaRefTakeA
namespace Go.Proofs.Ytjjbfmaldhlenaa
open Go.RowKit
set_option linter.unusedVariables false
set_option linter.unusedSimpArgs false
attribute [local go_sem ↓] Go.wp_at_zero Go.wp_at_succ
set_option maxRecDepth 100000 in
set_option maxHeartbeats 16000000 in
theorem rtake_11 (B : Nat) (s : St) (f : Fr) (w : World) (h : Rf B s w) (ok : s.Ok) (hm : mayB f.fa f.fi = true) (hk : f.kind = 11) :
    Calls Try.prog 22 #[.pointer (some ⟨B, 0, none⟩), f.val] w fun e w' => e = .returned (s.take f).val ∧ Rf B (s.take f).st w' ∧ Keep B w w' := by
  have hlt := h.lt
  have hlt1 : B < w.heap.size + 1 := by omega
  have hlt2 : B < w.heap.size + 1 + 1 := by omega
  have hlt3 : B < w.heap.size + 1 + 1 + 1 := by omega
  have hlt4 : B < w.heap.size + 1 + 1 + 1 + 1 := by omega
  have hlt5 : B < w.heap.size + 1 + 1 + 1 + 1 + 1 := by omega
  obtain ⟨c0, c1, c2, c3, c4, c5⟩ := h.reads
  have f2 := h.free 2
  have f3 := h.free 3
  have f4 := h.free 4
  have f5 := h.free 5
  obtain ⟨t1, t2, n1, n2, k1, k2⟩ := id ok
  obtain ⟨kind, fa, fi, ta, ti, n, token⟩ := f
  simp only [Fr.val, Fr.cells]
  simp only at hm hk
  subst hk
  go_enter Try.func22, Try.ntmps22
  go_wp2_with fail
  refine (rmay_exact fa fi _).mono ?_
  rintro e w1 ⟨rfl, rfl⟩
  rw [hm]
  go_upto_region 5 with fail
  go_cut [9] (fun v wx => v = .bool (s.own fa fi) ∧ ∃ m, wx = ((((((w.alloc (.cells #[.int .u8 11, .int .i64 fa, .int .i64 fi, .int .i64 ta, .int .i64 ti, .int .i64 n, .int .i64 token, .int .i64 0, .int .i64 0, .slice none 0 0, .slice none 0 0, .slice none 0 0, .slice none 0 0, .slice none 0 0] 48)).alloc (.cells #[.int .u8 0, .int .i64 0, .int .i64 0, .int .i64 0, .int .i64 0, .int .i64 0, .int .i64 0, .int .i64 0, .int .i64 0, .slice none 0 0, .slice none 0 0, .slice none 0 0, .slice none 0 0, .slice none 0 0] 48)).alloc (.cells #[.int .i64 fa, .int .i64 fi] 39)).alloc (.cells #[.int .u8 12, .int .i64 0, .int .i64 0, .int .i64 fa, .int .i64 fi, .int .i64 n, .int .i64 0, .int .i64 0, .int .i64 0, .slice none 0 0, .slice none 0 0, .slice none 0 0, .slice none 0 0, .slice none 0 0] 48)).alloc (.cells #[.int .u8 13, .int .i64 0, .int .i64 0, .int .i64 fa, .int .i64 fi, .int .i64 n, .int .i64 0, .int .i64 0, .int .i64 0, .slice none 0 0, .slice none 0 0, .slice none 0 0, .slice none 0 0, .slice none 0 0] 48)).drewN m))
  case first => as_aux_lemma =>
    have HO0 := Lib.hid (show s.own fa fi = (decide (s.now < s.til) && (s.ta == fa && s.ti == fi)) from rfl)
    cases hd : decide (s.now < s.til)
    · first | (go_region_with (first | (go_at_call 33; (with_reducible refine (held_no B s _ ((((((h.alloc _).alloc _).alloc _).alloc _).alloc _).drew) hd).mono ?_); rintro e w9 ⟨rfl, m, rfl⟩))) | fail
      all_goals
        go_wp2_with fail
        go_meet
        case rel => exact ⟨by rw [HO0.out, hd]; rfl, _, rfl⟩
    · cases e1 : s.ta == fa <;> cases e2 : s.ti == fi
      all_goals
        first | (go_region_with (first | (go_at_call 33; (with_reducible refine (held_yes B s _ ((((((h.alloc _).alloc _).alloc _).alloc _).alloc _).drew) hd).mono ?_); rintro e w9 ⟨rfl, m, rfl⟩))) | fail
        all_goals
          go_wp2_with fail
          go_meet
          case rel => exact ⟨by rw [HO0.out, hd, e1, e2]; rfl, _, rfl⟩
  case rest =>
    obtain ⟨rfl, m, rfl⟩ := hcut
    have HO := Lib.hid (show s.own fa fi = (decide (s.now < s.til) && (s.ta == fa && s.ti == fi)) from rfl)
    cases ho : s.own fa fi
    · have HT := Lib.hid (show s.take ⟨11, fa, fi, ta, ti, n, token⟩ = s.nothing by simp [St.take, hm, St.renew, St.release, ho])
      go_wp2_with fail
      go_quiet (fail)
      go_wp2_with fail
      refine bodyPost_ret (v := .tuple #[.agg #[.int .u8 0, .int .i64 0, .int .i64 0, .int .i64 0, .int .i64 0, .int .i64 0, .int .i64 0, .int .i64 0, .int .i64 0, .slice none 0 0, .slice none 0 0, .slice none 0 0, .slice none 0 0, .slice none 0 0], .bool false, .int .i64 0]) (by simp [results, Try.results22, go_sem]) rfl ?_
      rw [HT.out]
      refine ⟨rfl, ?_, ?_⟩
      · first | exact (((((h.alloc _).alloc _).alloc _).alloc _).alloc _).drewN _ | exact ((((((h.alloc _).alloc _).alloc _).alloc _).alloc _).drewN _).drewN _ | exact ((((((h.alloc _).alloc _).alloc _).alloc _).alloc _).drewN _).drew | exact (((((((h.alloc _).alloc _).alloc _).alloc _).alloc _).drewN _).drewN _).drew
      · first | exact ((((((Keep.refl B w).alloc _).alloc _).alloc _).alloc _).alloc _).drewN _ | exact (((((((Keep.refl B w).alloc _).alloc _).alloc _).alloc _).alloc _).drewN _).drewN _ | exact (((((((Keep.refl B w).alloc _).alloc _).alloc _).alloc _).alloc _).drewN _).drew | exact ((((((((Keep.refl B w).alloc _).alloc _).alloc _).alloc _).alloc _).drewN _).drewN _).drew
    · have hoe := HO.out
      rw [ho] at hoe
      simp at hoe
      obtain ⟨hd1, rfl, rfl⟩ := hoe
      cases htk : token == s.token
      · have htk2 : (token != s.token) = true := by simpa using htk
        have HT := Lib.hid (show s.take ⟨11, s.ta, s.ti, ta, ti, n, token⟩ = s.nothing by simp [St.take, hm, St.release, ho, htk])
        go_wp2_with fail
        go_quiet (fail)
        go_wp2_with fail
        refine bodyPost_ret (v := .tuple #[.agg #[.int .u8 0, .int .i64 0, .int .i64 0, .int .i64 0, .int .i64 0, .int .i64 0, .int .i64 0, .int .i64 0, .int .i64 0, .slice none 0 0, .slice none 0 0, .slice none 0 0, .slice none 0 0, .slice none 0 0], .bool false, .int .i64 0]) (by simp [results, Try.results22, go_sem]) rfl ?_
        rw [HT.out]
        refine ⟨rfl, ?_, ?_⟩
        · first | exact (((((h.alloc _).alloc _).alloc _).alloc _).alloc _).drewN _ | exact ((((((h.alloc _).alloc _).alloc _).alloc _).alloc _).drewN _).drewN _ | exact ((((((h.alloc _).alloc _).alloc _).alloc _).alloc _).drewN _).drew | exact (((((((h.alloc _).alloc _).alloc _).alloc _).alloc _).drewN _).drewN _).drew
        · first | exact ((((((Keep.refl B w).alloc _).alloc _).alloc _).alloc _).alloc _).drewN _ | exact (((((((Keep.refl B w).alloc _).alloc _).alloc _).alloc _).alloc _).drewN _).drewN _ | exact (((((((Keep.refl B w).alloc _).alloc _).alloc _).alloc _).alloc _).drewN _).drew | exact ((((((((Keep.refl B w).alloc _).alloc _).alloc _).alloc _).alloc _).drewN _).drewN _).drew
      · have htk2 : (token != s.token) = false := by simpa using htk
        have HT := Lib.hid (show s.take ⟨11, s.ta, s.ti, ta, ti, n, token⟩ = s.free.nothing by simp [St.take, hm, St.release, ho, htk])
        go_wp2_with fail
        go_quiet (fail)
        go_wp2_with fail
        refine bodyPost_ret (v := .tuple #[.agg #[.int .u8 0, .int .i64 0, .int .i64 0, .int .i64 0, .int .i64 0, .int .i64 0, .int .i64 0, .int .i64 0, .int .i64 0, .slice none 0 0, .slice none 0 0, .slice none 0 0, .slice none 0 0, .slice none 0 0], .bool false, .int .i64 0]) (by simp [results, Try.results22, go_sem]) rfl ?_
        rw [HT.out]
        refine ⟨rfl, ?_, ?_⟩
        · first | exact ((((((((h.set 3 _ { s with til := 0 } rfl).set 4 _ { s with til := 0, ta := 0 } rfl).set 5 _ s.free rfl).alloc _).alloc _).alloc _).alloc _).alloc _).drewN _ | exact (((((((((h.set 3 _ { s with til := 0 } rfl).set 4 _ { s with til := 0, ta := 0 } rfl).set 5 _ s.free rfl).alloc _).alloc _).alloc _).alloc _).alloc _).drewN _).drewN _ | exact (((((((((h.set 3 _ { s with til := 0 } rfl).set 4 _ { s with til := 0, ta := 0 } rfl).set 5 _ s.free rfl).alloc _).alloc _).alloc _).alloc _).alloc _).drewN _).drew | exact ((((((((((h.set 3 _ { s with til := 0 } rfl).set 4 _ { s with til := 0, ta := 0 } rfl).set 5 _ s.free rfl).alloc _).alloc _).alloc _).alloc _).alloc _).drewN _).drewN _).drew
        · first | exact (((((((((Keep.refl B w).setCell (.inl rfl) _).setCell (.inl rfl) _).setCell (.inl rfl) _).alloc _).alloc _).alloc _).alloc _).alloc _).drewN _ | exact ((((((((((Keep.refl B w).setCell (.inl rfl) _).setCell (.inl rfl) _).setCell (.inl rfl) _).alloc _).alloc _).alloc _).alloc _).alloc _).drewN _).drewN _ | exact ((((((((((Keep.refl B w).setCell (.inl rfl) _).setCell (.inl rfl) _).setCell (.inl rfl) _).alloc _).alloc _).alloc _).alloc _).alloc _).drewN _).drew | exact (((((((((((Keep.refl B w).setCell (.inl rfl) _).setCell (.inl rfl) _).setCell (.inl rfl) _).alloc _).alloc _).alloc _).alloc _).alloc _).drewN _).drewN _).drew
set_option maxRecDepth 100000 in
set_option maxHeartbeats 16000000 in
theorem rtake_else (B : Nat) (s : St) (f : Fr) (w : World) (h : Rf B s w) (ok : s.Ok) (hm : mayB f.fa f.fi = true) (hk9 : f.kind ≠ 9) (hk10 : f.kind ≠ 10) (hk11 : f.kind ≠ 11) :
    Calls Try.prog 22 #[.pointer (some ⟨B, 0, none⟩), f.val] w fun e w' => e = .returned (s.take f).val ∧ Rf B (s.take f).st w' ∧ Keep B w w' := by
  have hlt := h.lt
  have hlt1 : B < w.heap.size + 1 := by omega
  have hlt2 : B < w.heap.size + 1 + 1 := by omega
  have hlt3 : B < w.heap.size + 1 + 1 + 1 := by omega
  have hlt4 : B < w.heap.size + 1 + 1 + 1 + 1 := by omega
  have hlt5 : B < w.heap.size + 1 + 1 + 1 + 1 + 1 := by omega
  obtain ⟨c0, c1, c2, c3, c4, c5⟩ := h.reads
  have f2 := h.free 2
  have f3 := h.free 3
  have f4 := h.free 4
  have f5 := h.free 5
  obtain ⟨t1, t2, n1, n2, k1, k2⟩ := id ok
  obtain ⟨kind, fa, fi, ta, ti, n, token⟩ := f
  simp only [Fr.val, Fr.cells]
  simp only at hm hk9 hk10 hk11
  have q9 : (kind == 9) = false := by simpa using hk9
  have q10 : (kind == 10) = false := by simpa using hk10
  have q11 : (kind == 11) = false := by simpa using hk11
  go_enter Try.func22, Try.ntmps22
  go_wp2_with fail
  refine (rmay_exact fa fi _).mono ?_
  rintro e w1 ⟨rfl, rfl⟩
  rw [hm]
  go_upto_region 5 with fail
  go_cut [9] (fun v wx => v = .bool (s.own fa fi) ∧ ∃ m, wx = ((((((w.alloc (.cells #[.int .u8 kind, .int .i64 fa, .int .i64 fi, .int .i64 ta, .int .i64 ti, .int .i64 n, .int .i64 token, .int .i64 0, .int .i64 0, .slice none 0 0, .slice none 0 0, .slice none 0 0, .slice none 0 0, .slice none 0 0] 48)).alloc (.cells #[.int .u8 0, .int .i64 0, .int .i64 0, .int .i64 0, .int .i64 0, .int .i64 0, .int .i64 0, .int .i64 0, .int .i64 0, .slice none 0 0, .slice none 0 0, .slice none 0 0, .slice none 0 0, .slice none 0 0] 48)).alloc (.cells #[.int .i64 fa, .int .i64 fi] 39)).alloc (.cells #[.int .u8 12, .int .i64 0, .int .i64 0, .int .i64 fa, .int .i64 fi, .int .i64 n, .int .i64 0, .int .i64 0, .int .i64 0, .slice none 0 0, .slice none 0 0, .slice none 0 0, .slice none 0 0, .slice none 0 0] 48)).alloc (.cells #[.int .u8 13, .int .i64 0, .int .i64 0, .int .i64 fa, .int .i64 fi, .int .i64 n, .int .i64 0, .int .i64 0, .int .i64 0, .slice none 0 0, .slice none 0 0, .slice none 0 0, .slice none 0 0, .slice none 0 0] 48)).drewN m))
  case first => as_aux_lemma =>
    have HO0 := Lib.hid (show s.own fa fi = (decide (s.now < s.til) && (s.ta == fa && s.ti == fi)) from rfl)
    cases hd : decide (s.now < s.til)
    · first | (go_region_with (first | (go_at_call 33; (with_reducible refine (held_no B s _ ((((((h.alloc _).alloc _).alloc _).alloc _).alloc _).drew) hd).mono ?_); rintro e w9 ⟨rfl, m, rfl⟩))) | fail
      all_goals
        go_wp2_with fail
        go_meet
        case rel => exact ⟨by rw [HO0.out, hd]; rfl, _, rfl⟩
    · cases e1 : s.ta == fa <;> cases e2 : s.ti == fi
      all_goals
        first | (go_region_with (first | (go_at_call 33; (with_reducible refine (held_yes B s _ ((((((h.alloc _).alloc _).alloc _).alloc _).alloc _).drew) hd).mono ?_); rintro e w9 ⟨rfl, m, rfl⟩))) | fail
        all_goals
          go_wp2_with fail
          go_meet
          case rel => exact ⟨by rw [HO0.out, hd, e1, e2]; rfl, _, rfl⟩
  case rest =>
    obtain ⟨rfl, m, rfl⟩ := hcut
    have HO := Lib.hid (show s.own fa fi = (decide (s.now < s.til) && (s.ta == fa && s.ti == fi)) from rfl)
    have HT := Lib.hid (show s.take ⟨kind, fa, fi, ta, ti, n, token⟩ = s.nothing by simp [St.take, hm, hk9, hk10, hk11])
    go_wp2_with fail
    refine bodyPost_ret (v := .tuple #[.agg #[.int .u8 0, .int .i64 0, .int .i64 0, .int .i64 0, .int .i64 0, .int .i64 0, .int .i64 0, .int .i64 0, .int .i64 0, .slice none 0 0, .slice none 0 0, .slice none 0 0, .slice none 0 0, .slice none 0 0], .bool false, .int .i64 0]) (by simp [results, Try.results22, go_sem]) rfl ?_
    rw [HT.out]
    refine ⟨rfl, ?_, ?_⟩
    · first | exact (((((h.alloc _).alloc _).alloc _).alloc _).alloc _).drewN _ | exact ((((((h.alloc _).alloc _).alloc _).alloc _).alloc _).drewN _).drewN _ | exact ((((((h.alloc _).alloc _).alloc _).alloc _).alloc _).drewN _).drew | exact (((((((h.alloc _).alloc _).alloc _).alloc _).alloc _).drewN _).drewN _).drew
    · first | exact ((((((Keep.refl B w).alloc _).alloc _).alloc _).alloc _).alloc _).drewN _ | exact (((((((Keep.refl B w).alloc _).alloc _).alloc _).alloc _).alloc _).drewN _).drewN _ | exact (((((((Keep.refl B w).alloc _).alloc _).alloc _).alloc _).alloc _).drewN _).drew | exact ((((((((Keep.refl B w).alloc _).alloc _).alloc _).alloc _).alloc _).drewN _).drewN _).drew
end Go.Proofs.Ytjjbfmaldhlenaa
