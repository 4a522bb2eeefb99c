/-
  The document's Take.
-/
import Derived.Test.YtjjbfmaldhlenaaRefTakeA
namespace Go.Proofs.Ytjjbfmaldhlenaa
open Go.RowKit
set_option linter.unusedVariables false
set_option linter.unusedSimpArgs false
attribute [local go_sem ↓] Go.wp_at_zero Go.wp_at_succ
theorem quiet_sum {P : Program} {f : FuncId} {args : Array Value} {w : World} {m n : Nat} {v : Value}
    (h : Calls P f args (w.drewN (m + n)) fun e w' => e = .returned v ∧ ∃ k, w' = (w.drewN (m + n)).drewN k) : Calls P f args (w.drewN (m + n)) fun e w'' => e = .returned v ∧ ∃ k, w'' = w.drewN (m + k) :=
  h.mono fun _ _ ⟨he, k, hk⟩ => ⟨he, n + k, by rw [hk, World.drewN_drewN, Nat.add_assoc]⟩
set_option maxRecDepth 100000 in
set_option maxHeartbeats 16000000 in
theorem rtake_9 (B : Nat) (s : St) (f : Fr) (w : World) (h : Rf B s w) (ok : s.Ok) (hm : mayB f.fa f.fi = true) (hk : f.kind = 9) :
    Calls Try.prog 22 #[.pointer (some ⟨B, 0, none⟩), f.val] w fun e w' => e = .returned (s.take f).val ∧ Rf B (s.take f).st w' ∧ Keep B w w' := by
  have hlt := h.lt
  have hlt1 : B < w.heap.size + 1 := by omega
  have hlt2 : B < w.heap.size + 1 + 1 := by omega
  have hlt3 : B < w.heap.size + 1 + 1 + 1 := by omega
  have hlt4 : B < w.heap.size + 1 + 1 + 1 + 1 := by omega
  have hlt5 : B < w.heap.size + 1 + 1 + 1 + 1 + 1 := by omega
  obtain ⟨c0, c1, c2, c3, c4, c5⟩ := h.reads
  have f2 := h.free 2
  have f3 := h.free 3
  have f4 := h.free 4
  have f5 := h.free 5
  obtain ⟨t1, t2, n1, n2, k1, k2⟩ := id ok
  obtain ⟨kind, fa, fi, ta, ti, n, token⟩ := f
  simp only [Fr.val, Fr.cells]
  simp only at hm hk
  subst hk
  go_enter Try.func22, Try.ntmps22
  go_wp2_with fail
  refine (rmay_exact fa fi _).mono ?_
  rintro e w1 ⟨rfl, rfl⟩
  rw [hm]
  go_upto_region 5 with fail
  go_cut [9] (fun v wx => v = .bool (s.own fa fi) ∧ ∃ m, wx = ((((((w.alloc (.cells #[.int .u8 9, .int .i64 fa, .int .i64 fi, .int .i64 ta, .int .i64 ti, .int .i64 n, .int .i64 token, .int .i64 0, .int .i64 0, .slice none 0 0, .slice none 0 0, .slice none 0 0, .slice none 0 0, .slice none 0 0] 48)).alloc (.cells #[.int .u8 0, .int .i64 0, .int .i64 0, .int .i64 0, .int .i64 0, .int .i64 0, .int .i64 0, .int .i64 0, .int .i64 0, .slice none 0 0, .slice none 0 0, .slice none 0 0, .slice none 0 0, .slice none 0 0] 48)).alloc (.cells #[.int .i64 fa, .int .i64 fi] 39)).alloc (.cells #[.int .u8 12, .int .i64 0, .int .i64 0, .int .i64 fa, .int .i64 fi, .int .i64 n, .int .i64 0, .int .i64 0, .int .i64 0, .slice none 0 0, .slice none 0 0, .slice none 0 0, .slice none 0 0, .slice none 0 0] 48)).alloc (.cells #[.int .u8 13, .int .i64 0, .int .i64 0, .int .i64 fa, .int .i64 fi, .int .i64 n, .int .i64 0, .int .i64 0, .int .i64 0, .slice none 0 0, .slice none 0 0, .slice none 0 0, .slice none 0 0, .slice none 0 0] 48)).drewN m))
  case first => as_aux_lemma =>
    have HO0 := Lib.hid (show s.own fa fi = (decide (s.now < s.til) && (s.ta == fa && s.ti == fi)) from rfl)
    cases hd : decide (s.now < s.til)
    · first | (go_region_with (first | (go_at_call 33; (with_reducible refine (held_no B s _ ((((((h.alloc _).alloc _).alloc _).alloc _).alloc _).drew) hd).mono ?_); rintro e w9 ⟨rfl, m, rfl⟩))) | fail
      all_goals
        go_wp2_with fail
        go_meet
        case rel => exact ⟨by rw [HO0.out, hd]; rfl, _, rfl⟩
    · cases e1 : s.ta == fa <;> cases e2 : s.ti == fi
      all_goals
        first | (go_region_with (first | (go_at_call 33; (with_reducible refine (held_yes B s _ ((((((h.alloc _).alloc _).alloc _).alloc _).alloc _).drew) hd).mono ?_); rintro e w9 ⟨rfl, m, rfl⟩))) | fail
        all_goals
          go_wp2_with fail
          go_meet
          case rel => exact ⟨by rw [HO0.out, hd, e1, e2]; rfl, _, rfl⟩
  case rest =>
    obtain ⟨rfl, m, rfl⟩ := hcut
    have HO := Lib.hid (show s.own fa fi = (decide (s.now < s.til) && (s.ta == fa && s.ti == fi)) from rfl)
    have hR := (((((h.alloc (.cells #[.int .u8 9, .int .i64 fa, .int .i64 fi, .int .i64 ta, .int .i64 ti, .int .i64 n, .int .i64 token, .int .i64 0, .int .i64 0, .slice none 0 0, .slice none 0 0, .slice none 0 0, .slice none 0 0, .slice none 0 0] 48)).alloc (.cells #[.int .u8 0, .int .i64 0, .int .i64 0, .int .i64 0, .int .i64 0, .int .i64 0, .int .i64 0, .int .i64 0, .int .i64 0, .slice none 0 0, .slice none 0 0, .slice none 0 0, .slice none 0 0, .slice none 0 0] 48)).alloc (.cells #[.int .i64 fa, .int .i64 fi] 39)).alloc (.cells #[.int .u8 12, .int .i64 0, .int .i64 0, .int .i64 fa, .int .i64 fi, .int .i64 n, .int .i64 0, .int .i64 0, .int .i64 0, .slice none 0 0, .slice none 0 0, .slice none 0 0, .slice none 0 0, .slice none 0 0] 48)).alloc (.cells #[.int .u8 13, .int .i64 0, .int .i64 0, .int .i64 fa, .int .i64 fi, .int .i64 n, .int .i64 0, .int .i64 0, .int .i64 0, .slice none 0 0, .slice none 0 0, .slice none 0 0, .slice none 0 0, .slice none 0 0] 48))
    by_cases hnt : s.now < s.term
    · have HT := Lib.hid (show s.take ⟨9, fa, fi, ta, ti, n, token⟩ = s.refuse ⟨9, fa, fi, ta, ti, n, token⟩ by simp [St.take, hm, St.acquire, hnt])
      have g : decide (s.now < s.term) = true := by simpa using hnt
      go_wp2_with fail
      go_quiet (fail)
      go_wp2_with fail
      refine bodyPost_ret (v := .tuple #[.agg #[.int .u8 13, .int .i64 0, .int .i64 0, .int .i64 fa, .int .i64 fi, .int .i64 n, .int .i64 0, .int .i64 0, .int .i64 0, .slice none 0 0, .slice none 0 0, .slice none 0 0, .slice none 0 0, .slice none 0 0], .bool true, .int .i64 0]) (by simp [results, Try.results22, go_sem]) rfl ?_
      rw [HT.out]
      refine ⟨rfl, ?_, ?_⟩
      · first | exact (((((h.alloc _).alloc _).alloc _).alloc _).alloc _).drewN _ | exact ((((((h.alloc _).alloc _).alloc _).alloc _).alloc _).drewN _).drewN _ | exact ((((((h.alloc _).alloc _).alloc _).alloc _).alloc _).drewN _).drew | exact (((((((h.alloc _).alloc _).alloc _).alloc _).alloc _).drewN _).drewN _).drew
      · first | exact ((((((Keep.refl B w).alloc _).alloc _).alloc _).alloc _).alloc _).drewN _ | exact (((((((Keep.refl B w).alloc _).alloc _).alloc _).alloc _).alloc _).drewN _).drewN _ | exact (((((((Keep.refl B w).alloc _).alloc _).alloc _).alloc _).alloc _).drewN _).drew | exact ((((((((Keep.refl B w).alloc _).alloc _).alloc _).alloc _).alloc _).drewN _).drewN _).drew
    · have g : decide (s.now < s.term) = false := by simpa using hnt
      cases ho : s.own fa fi
      · cases hd : decide (s.now < s.til)
        · by_cases htk : s.token = 1099511627776
          · have HT := Lib.hid (show s.take ⟨9, fa, fi, ta, ti, n, token⟩ = ⟨s, .zero, false, 40⟩ by
              have htk' : (s.token == 1099511627776) = true := by simpa using htk
              simp only [St.take, hm, St.acquire, g, hd, ho, htk']; rfl)
            go_wp2_with fail
            go_quiet ((go_at_call 33; exact quiet_sum (held_no _ _ _ (hR.drewN _) hd)))
            go_wp2_with fail
            refine bodyPost_ret (v := .tuple #[.agg #[.int .u8 0, .int .i64 0, .int .i64 0, .int .i64 0, .int .i64 0, .int .i64 0, .int .i64 0, .int .i64 0, .int .i64 0, .slice none 0 0, .slice none 0 0, .slice none 0 0, .slice none 0 0, .slice none 0 0], .bool false, .int .i64 40]) (by simp [results, Try.results22, go_sem]) rfl ?_
            rw [HT.out]
            refine ⟨rfl, ?_, ?_⟩
            · first | exact (((((h.alloc _).alloc _).alloc _).alloc _).alloc _).drewN _ | exact ((((((h.alloc _).alloc _).alloc _).alloc _).alloc _).drewN _).drewN _ | exact ((((((h.alloc _).alloc _).alloc _).alloc _).alloc _).drewN _).drew | exact (((((((h.alloc _).alloc _).alloc _).alloc _).alloc _).drewN _).drewN _).drew
            · first | exact ((((((Keep.refl B w).alloc _).alloc _).alloc _).alloc _).alloc _).drewN _ | exact (((((((Keep.refl B w).alloc _).alloc _).alloc _).alloc _).alloc _).drewN _).drewN _ | exact (((((((Keep.refl B w).alloc _).alloc _).alloc _).alloc _).alloc _).drewN _).drew | exact ((((((((Keep.refl B w).alloc _).alloc _).alloc _).alloc _).alloc _).drewN _).drewN _).drew
          · have htk' : (s.token == 1099511627776) = false := by simpa using htk
            have HT := Lib.hid (show s.take ⟨9, fa, fi, ta, ti, n, token⟩ = s.more.grant ⟨9, fa, fi, ta, ti, n, token⟩ by
              simp only [St.take, hm, St.acquire, g, hd, ho, htk']; rfl)
            go_wp2_with fail
            go_quiet ((go_at_call 33; exact quiet_sum (held_no _ _ _ (hR.drewN _) hd)))
            go_wp2_with fail
            go_region
            go_wp2_with fail
            refine bodyPost_ret (v := .tuple #[.agg #[.int .u8 12, .int .i64 0, .int .i64 0, .int .i64 fa, .int .i64 fi, .int .i64 n, .int .i64 (s.token + 1), .int .i64 0, .int .i64 0, .slice none 0 0, .slice none 0 0, .slice none 0 0, .slice none 0 0, .slice none 0 0], .bool true, .int .i64 0]) (by simp [results, Try.results22, go_sem]) rfl ?_
            rw [HT.out]
            refine ⟨rfl, ?_, ?_⟩
            · first | exact (((((((((h.set 2 _ s.more rfl).set 4 _ { s.more with ta := fa } rfl).set 5 _ { s.more with ta := fa, ti := fi } rfl).set 3 _ (s.more.grant ⟨9, fa, fi, ta, ti, n, token⟩).st rfl).alloc _).alloc _).alloc _).alloc _).alloc _).drewN _ | exact ((((((((((h.set 2 _ s.more rfl).set 4 _ { s.more with ta := fa } rfl).set 5 _ { s.more with ta := fa, ti := fi } rfl).set 3 _ (s.more.grant ⟨9, fa, fi, ta, ti, n, token⟩).st rfl).alloc _).alloc _).alloc _).alloc _).alloc _).drewN _).drewN _ | exact ((((((((((h.set 2 _ s.more rfl).set 4 _ { s.more with ta := fa } rfl).set 5 _ { s.more with ta := fa, ti := fi } rfl).set 3 _ (s.more.grant ⟨9, fa, fi, ta, ti, n, token⟩).st rfl).alloc _).alloc _).alloc _).alloc _).alloc _).drewN _).drew | exact (((((((((((h.set 2 _ s.more rfl).set 4 _ { s.more with ta := fa } rfl).set 5 _ { s.more with ta := fa, ti := fi } rfl).set 3 _ (s.more.grant ⟨9, fa, fi, ta, ti, n, token⟩).st rfl).alloc _).alloc _).alloc _).alloc _).alloc _).drewN _).drewN _).drew
            · first | exact ((((((((((Keep.refl B w).setCell (.inl rfl) _).setCell (.inl rfl) _).setCell (.inl rfl) _).setCell (.inl rfl) _).alloc _).alloc _).alloc _).alloc _).alloc _).drewN _ | exact (((((((((((Keep.refl B w).setCell (.inl rfl) _).setCell (.inl rfl) _).setCell (.inl rfl) _).setCell (.inl rfl) _).alloc _).alloc _).alloc _).alloc _).alloc _).drewN _).drewN _ | exact (((((((((((Keep.refl B w).setCell (.inl rfl) _).setCell (.inl rfl) _).setCell (.inl rfl) _).setCell (.inl rfl) _).alloc _).alloc _).alloc _).alloc _).alloc _).drewN _).drew | exact ((((((((((((Keep.refl B w).setCell (.inl rfl) _).setCell (.inl rfl) _).setCell (.inl rfl) _).setCell (.inl rfl) _).alloc _).alloc _).alloc _).alloc _).alloc _).drewN _).drewN _).drew
        · have HT := Lib.hid (show s.take ⟨9, fa, fi, ta, ti, n, token⟩ = s.refuse ⟨9, fa, fi, ta, ti, n, token⟩ by
            have hx : (s.ta == fa && s.ti == fi) = false := by have := HO.out; rw [hd, ho] at this; simpa using this.symm
            simp only [St.take, hm, St.acquire, g, hd, hx]; rfl)
          go_wp2_with fail
          go_quiet ((go_at_call 33; exact quiet_sum (held_yes _ _ _ (hR.drewN _) hd)))
          go_wp2_with fail
          refine bodyPost_ret (v := .tuple #[.agg #[.int .u8 13, .int .i64 0, .int .i64 0, .int .i64 fa, .int .i64 fi, .int .i64 n, .int .i64 0, .int .i64 0, .int .i64 0, .slice none 0 0, .slice none 0 0, .slice none 0 0, .slice none 0 0, .slice none 0 0], .bool true, .int .i64 0]) (by simp [results, Try.results22, go_sem]) rfl ?_
          rw [HT.out]
          refine ⟨rfl, ?_, ?_⟩
          · first | exact (((((h.alloc _).alloc _).alloc _).alloc _).alloc _).drewN _ | exact ((((((h.alloc _).alloc _).alloc _).alloc _).alloc _).drewN _).drewN _ | exact ((((((h.alloc _).alloc _).alloc _).alloc _).alloc _).drewN _).drew | exact (((((((h.alloc _).alloc _).alloc _).alloc _).alloc _).drewN _).drewN _).drew
          · first | exact ((((((Keep.refl B w).alloc _).alloc _).alloc _).alloc _).alloc _).drewN _ | exact (((((((Keep.refl B w).alloc _).alloc _).alloc _).alloc _).alloc _).drewN _).drewN _ | exact (((((((Keep.refl B w).alloc _).alloc _).alloc _).alloc _).alloc _).drewN _).drew | exact ((((((((Keep.refl B w).alloc _).alloc _).alloc _).alloc _).alloc _).drewN _).drewN _).drew
      · have hoe := HO.out
        rw [ho] at hoe
        simp at hoe
        obtain ⟨hd1, rfl, rfl⟩ := hoe
        have hd : decide (s.now < s.til) = true := by simpa using hd1
        have HT := Lib.hid (show s.take ⟨9, s.ta, s.ti, ta, ti, n, token⟩ = s.grant ⟨9, s.ta, s.ti, ta, ti, n, token⟩ by
          simp only [St.take, hm, St.acquire, g, hd, ho]; simp)
        go_wp2_with fail
        go_quiet ((go_at_call 33; exact quiet_sum (held_yes _ _ _ (hR.drewN _) hd)))
        go_wp2_with fail
        go_region
        go_wp2_with fail
        refine bodyPost_ret (v := .tuple #[.agg #[.int .u8 12, .int .i64 0, .int .i64 0, .int .i64 s.ta, .int .i64 s.ti, .int .i64 n, .int .i64 s.token, .int .i64 0, .int .i64 0, .slice none 0 0, .slice none 0 0, .slice none 0 0, .slice none 0 0, .slice none 0 0], .bool true, .int .i64 0]) (by simp [results, Try.results22, go_sem]) rfl ?_
        rw [HT.out]
        refine ⟨rfl, ?_, ?_⟩
        · first | exact ((((((h.set 3 _ { s with til := s.now + s.term } rfl).alloc _).alloc _).alloc _).alloc _).alloc _).drewN _ | exact (((((((h.set 3 _ { s with til := s.now + s.term } rfl).alloc _).alloc _).alloc _).alloc _).alloc _).drewN _).drewN _ | exact (((((((h.set 3 _ { s with til := s.now + s.term } rfl).alloc _).alloc _).alloc _).alloc _).alloc _).drewN _).drew | exact ((((((((h.set 3 _ { s with til := s.now + s.term } rfl).alloc _).alloc _).alloc _).alloc _).alloc _).drewN _).drewN _).drew
        · first | exact (((((((Keep.refl B w).setCell (.inl rfl) _).alloc _).alloc _).alloc _).alloc _).alloc _).drewN _ | exact ((((((((Keep.refl B w).setCell (.inl rfl) _).alloc _).alloc _).alloc _).alloc _).alloc _).drewN _).drewN _ | exact ((((((((Keep.refl B w).setCell (.inl rfl) _).alloc _).alloc _).alloc _).alloc _).alloc _).drewN _).drew | exact (((((((((Keep.refl B w).setCell (.inl rfl) _).alloc _).alloc _).alloc _).alloc _).alloc _).drewN _).drewN _).drew
end Go.Proofs.Ytjjbfmaldhlenaa
