/-
  The document's Take.
-/
import Derived.Test.YtfbmjaelkijmnaaRefW
namespace Go.Proofs.Ytfbmjaelkijmnaa
open Go.RowKit
set_option linter.unusedVariables false
/-- What the document's holder is behind a call. -/
def DocAt (C : Nat) (s : St) (w w' : World) : Prop := ∃ z, Tie s z ∧ Doc C s z w' ∧ Keep C w w'
set_option maxRecDepth 100000 in
set_option maxHeartbeats 2000000 in
theorem rtake_any (C : Nat) (s : St) (z : Int) (f : Fr) (now : Int) (w : World) (h : Doc C s z w) (k : Tie s z) :
    Calls Try.prog 26 #[.pointer (some ⟨C, 0, none⟩), f.val, .int .i64 now] w fun e w' => e = .returned (.bool (s.take f).2) ∧ DocAt C (s.take f).1 w w' := by
  obtain ⟨kind, fa, fi, ta, ti, n, token⟩ := f
  have hlt := h.lt
  have hlt1 : C < w.heap.size + 1 := by omega
  obtain ⟨-, -, -, -, c4, c5, c6, c7, c8, c9, c10⟩ := h.reads
  have f7 := h.free 7
  have f8 := h.free 8
  have f9 := h.free 9
  have f10 := h.free 10
  simp only [Fr.val, Fr.cells]
  cases hw : s.waits
  · have HT := Lib.hid (show s.take ⟨kind, fa, fi, ta, ti, n, token⟩ = (s, false) by simp only [St.take, hw]; rfl)
    go_enter Try.func26, Try.ntmps26
    go_wp2
    go_quiet (fail)
    go_wp2
    go_ret
    exact ⟨ret_b (by rw [HT.out]), by rw [HT.out]; exact ⟨z, k, (h.alloc _).drewN _, ((Keep.refl C w).alloc _).drewN _⟩⟩
  · cases hn : n != s.n
    · by_cases k12 : kind = 12
      · subst k12
        cases htk : decide (0 < token)
        · have HT := Lib.hid (show s.take ⟨12, fa, fi, ta, ti, n, token⟩ = ({ s with waits := false, token := 0, since := 0, refused := s.refused || s.kind == 9 }, true) by simp [St.take, hw, hn, htk])
          cases hk9 : s.kind == 9
          all_goals
            go_enter Try.func26, Try.ntmps26
            go_wp2
            go_quiet (fail)
            go_wp2
            go_ret
            refine ⟨ret_b (by rw [HT.out]), ?_⟩
            rw [HT.out]
            refine ⟨z, ⟨Int.le_refl 0, fun _ => rfl, fun e => absurd rfl e⟩, ?_, ?_⟩
          · exact (((h.set 7 _ { s with waits := false } z rfl).set 8 _ { s with waits := false, token := 0, since := 0, refused := s.refused || s.kind == 9 } z (by simp [rcells, hk9])).alloc _).drewN _
          · exact ((((Keep.refl C w).setCell (.inl rfl) _).setCell (.inl rfl) _).alloc _).drewN _
          · exact ((((h.set 7 _ { s with waits := false } z rfl).set 8 _ { s with waits := false, token := 0, since := 0 } z rfl).set 10 _ { s with waits := false, token := 0, since := 0, refused := s.refused || s.kind == 9 } z (by simp [rcells, hk9])).alloc _).drewN _
          · exact (((((Keep.refl C w).setCell (.inl rfl) _).setCell (.inl rfl) _).setCell (.inl rfl) _).alloc _).drewN _
        · have HT := Lib.hid (show s.take ⟨12, fa, fi, ta, ti, n, token⟩ = ({ s with waits := false, token := token, since := s.asked }, true) by simp [St.take, hw, hn, htk])
          have h0 : 0 < token := by simpa using htk
          have HTIE := Lib.hid (show Tie { s with waits := false, token := token, since := s.asked } s.asked from ⟨by simp only; omega, fun e => by simp only at e; omega, fun _ => rfl⟩)
          clear h0
          go_enter Try.func26, Try.ntmps26
          go_wp2
          go_quiet (fail)
          go_wp2
          go_ret
          refine ⟨ret_b (by rw [HT.out]), ?_⟩
          rw [HT.out]
          refine ⟨s.asked, HTIE.out, ?_, ?_⟩
          · exact ((((h.set 7 _ { s with waits := false } z rfl).set 8 _ { s with waits := false, token := token } z rfl).set 9 _ { s with waits := false, token := token, since := s.asked } s.asked rfl).alloc _).drewN _
          · exact (((((Keep.refl C w).setCell (.inl rfl) _).setCell (.inl rfl) _).setCell (.inl rfl) _).alloc _).drewN _
      · have k12a : (kind == 12) = false := by simpa using k12
        by_cases k13 : kind = 13
        · subst k13
          have HT := Lib.hid (show s.take ⟨13, fa, fi, ta, ti, n, token⟩ = ({ s with waits := false, token := 0, since := 0, refused := s.refused || s.kind == 9 }, true) by simp [St.take, hw, hn])
          cases hk9 : s.kind == 9
          all_goals
            go_enter Try.func26, Try.ntmps26
            go_wp2
            go_quiet (fail)
            go_wp2
            go_ret
            refine ⟨ret_b (by rw [HT.out]), ?_⟩
            rw [HT.out]
            refine ⟨z, ⟨Int.le_refl 0, fun _ => rfl, fun e => absurd rfl e⟩, ?_, ?_⟩
          · exact (((h.set 7 _ { s with waits := false } z rfl).set 8 _ { s with waits := false, token := 0, since := 0, refused := s.refused || s.kind == 9 } z (by simp [rcells, hk9])).alloc _).drewN _
          · exact ((((Keep.refl C w).setCell (.inl rfl) _).setCell (.inl rfl) _).alloc _).drewN _
          · exact ((((h.set 7 _ { s with waits := false } z rfl).set 8 _ { s with waits := false, token := 0, since := 0 } z rfl).set 10 _ { s with waits := false, token := 0, since := 0, refused := s.refused || s.kind == 9 } z (by simp [rcells, hk9])).alloc _).drewN _
          · exact (((((Keep.refl C w).setCell (.inl rfl) _).setCell (.inl rfl) _).setCell (.inl rfl) _).alloc _).drewN _
        · have k13a : (kind == 13) = false := by simpa using k13
          have HT := Lib.hid (show s.take ⟨kind, fa, fi, ta, ti, n, token⟩ = (s, false) by simp [St.take, hw, hn, k12, k13])
          go_enter Try.func26, Try.ntmps26
          go_wp2
          go_quiet (fail)
          go_wp2
          go_ret
          exact ⟨ret_b (by rw [HT.out]), by rw [HT.out]; exact ⟨z, k, (h.alloc _).drewN _, ((Keep.refl C w).alloc _).drewN _⟩⟩
    · have HT := Lib.hid (show s.take ⟨kind, fa, fi, ta, ti, n, token⟩ = (s, false) by simp only [St.take, hw, hn]; rfl)
      go_enter Try.func26, Try.ntmps26
      go_wp2
      go_quiet (fail)
      go_wp2
      go_ret
      exact ⟨ret_b (by rw [HT.out]), by rw [HT.out]; exact ⟨z, k, (h.alloc _).drewN _, ((Keep.refl C w).alloc _).drewN _⟩⟩
end Go.Proofs.Ytfbmjaelkijmnaa
