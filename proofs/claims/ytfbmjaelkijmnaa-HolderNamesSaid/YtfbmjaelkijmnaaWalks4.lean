/-
  The walks of Take, Drop, Copy, and of what a holder tells.
-/
import Derived.Test.YtfbmjaelkijmnaaWalks3
namespace Go.Proofs.Ytfbmjaelkijmnaa
open Go.RowKit
set_option maxRecDepth 100000 in
set_option maxHeartbeats 1000000 in
theorem take_any (B : Nat) (s : St) (f : Fr) (now : Int) (w : World) (h : At B s w) :
    Calls Try.prog 13 #[.pointer (some ⟨B, 0, none⟩), f.val, .int .i64 now] w fun e w' => e = .returned (.bool (s.take f).2) ∧ At B (s.take f).1 w' ∧ Keep B w w' := by
  obtain ⟨kind, fa, fi, ta, ti, n, token⟩ := f
  have hlt := h.lt
  have hlt1 : B < w.heap.size + 1 := by omega
  obtain ⟨-, -, -, -, c4, c5, c6, c7, c8, c9, c10⟩ := h.reads
  have f6 := h.free 6
  have f8 := h.free 8
  have f9 := h.free 9
  have f10 := h.free 10
  simp only [Fr.val, Fr.cells]
  cases hw : s.waits
  · have HT := Lib.hid (show s.take ⟨kind, fa, fi, ta, ti, n, token⟩ = (s, false) by simp only [St.take, hw]; rfl)
    go_enter Try.func13, Try.ntmps13
    go_wp2
    go_quiet (fail)
    go_wp2
    go_ret
    exact ⟨ret_b (by rw [HT.out]), by rw [HT.out]; exact (h.alloc _).drewN _, ((Keep.refl B w).alloc _).drewN _⟩
  · cases hn : n != s.n
    · by_cases k12 : kind = 12
      · subst k12
        cases htk : decide (0 < token)
        · have HT := Lib.hid (show s.take ⟨12, fa, fi, ta, ti, n, token⟩ = ({ s with waits := false, token := 0, since := 0, refused := s.refused || s.kind == 9 }, true) by simp [St.take, hw, hn, htk])
          cases hr : s.refused
          all_goals
            go_enter Try.func13, Try.ntmps13
            go_wp2
            go_quiet (fail)
            go_wp2
            go_ret
            refine ⟨ret_b (by rw [HT.out]), ?_, ?_⟩
          · rw [HT.out]; exact ((((((h.set 6 _ { s with waits := false } rfl).set 8 _ { s with waits := false, token := 0 } rfl).set 9 _ { s with waits := false, token := 0, since := 0 } rfl).set 10 _ { s with waits := false, token := 0, since := 0, refused := s.refused || s.kind == 9 } (by simp [St.cells, hr])).alloc _).drewN _)
          · exact ((((((Keep.refl B w).setCell (.inl rfl) _).setCell (.inl rfl) _).setCell (.inl rfl) _).setCell (.inl rfl) _).alloc _).drewN _
          · rw [HT.out]; exact ((((((h.set 6 _ { s with waits := false } rfl).set 8 _ { s with waits := false, token := 0 } rfl).set 9 _ { s with waits := false, token := 0, since := 0 } rfl).set 10 _ { s with waits := false, token := 0, since := 0, refused := s.refused || s.kind == 9 } (by simp [St.cells, hr])).alloc _).drewN _)
          · exact ((((((Keep.refl B w).setCell (.inl rfl) _).setCell (.inl rfl) _).setCell (.inl rfl) _).setCell (.inl rfl) _).alloc _).drewN _
        · have HT := Lib.hid (show s.take ⟨12, fa, fi, ta, ti, n, token⟩ = ({ s with waits := false, token := token, since := s.asked }, true) by simp [St.take, hw, hn, htk])
          go_enter Try.func13, Try.ntmps13
          go_wp2
          go_quiet (fail)
          go_wp2
          go_region
          go_wp2
          go_ret
          refine ⟨ret_b (by rw [HT.out]), ?_, ?_⟩
          · rw [HT.out]; exact ((((h.set 6 _ { s with waits := false } rfl).set 8 _ { s with waits := false, token := token } rfl).set 9 _ { s with waits := false, token := token, since := s.asked } rfl).alloc _).drewN _
          · exact (((((Keep.refl B w).setCell (.inl rfl) _).setCell (.inl rfl) _).setCell (.inl rfl) _).alloc _).drewN _
      · have k12a : (kind == 12) = false := by simpa using k12
        have k12b : (kind != 12) = true := by simpa using k12
        by_cases k13 : kind = 13
        · subst k13
          have HT := Lib.hid (show s.take ⟨13, fa, fi, ta, ti, n, token⟩ = ({ s with waits := false, token := 0, since := 0, refused := s.refused || s.kind == 9 }, true) by simp [St.take, hw, hn])
          cases hr : s.refused
          all_goals
            go_enter Try.func13, Try.ntmps13
            go_wp2
            go_quiet (fail)
            go_wp2
            go_ret
            refine ⟨ret_b (by rw [HT.out]), ?_, ?_⟩
          · rw [HT.out]; exact ((((((h.set 6 _ { s with waits := false } rfl).set 8 _ { s with waits := false, token := 0 } rfl).set 9 _ { s with waits := false, token := 0, since := 0 } rfl).set 10 _ { s with waits := false, token := 0, since := 0, refused := s.refused || s.kind == 9 } (by simp [St.cells, hr])).alloc _).drewN _)
          · exact ((((((Keep.refl B w).setCell (.inl rfl) _).setCell (.inl rfl) _).setCell (.inl rfl) _).setCell (.inl rfl) _).alloc _).drewN _
          · rw [HT.out]; exact ((((((h.set 6 _ { s with waits := false } rfl).set 8 _ { s with waits := false, token := 0 } rfl).set 9 _ { s with waits := false, token := 0, since := 0 } rfl).set 10 _ { s with waits := false, token := 0, since := 0, refused := s.refused || s.kind == 9 } (by simp [St.cells, hr])).alloc _).drewN _)
          · exact ((((((Keep.refl B w).setCell (.inl rfl) _).setCell (.inl rfl) _).setCell (.inl rfl) _).setCell (.inl rfl) _).alloc _).drewN _
        · have k13b : (kind != 13) = true := by simpa using k13
          have HT := Lib.hid (show s.take ⟨kind, fa, fi, ta, ti, n, token⟩ = (s, false) by simp [St.take, hw, hn, k12, k13])
          go_enter Try.func13, Try.ntmps13
          go_wp2
          go_quiet (fail)
          go_wp2
          go_ret
          exact ⟨ret_b (by rw [HT.out]), by rw [HT.out]; exact (h.alloc _).drewN _, ((Keep.refl B w).alloc _).drewN _⟩
    · have HT := Lib.hid (show s.take ⟨kind, fa, fi, ta, ti, n, token⟩ = (s, false) by simp only [St.take, hw, hn]; rfl)
      go_enter Try.func13, Try.ntmps13
      go_wp2
      go_quiet (fail)
      go_wp2
      go_ret
      exact ⟨ret_b (by rw [HT.out]), by rw [HT.out]; exact (h.alloc _).drewN _, ((Keep.refl B w).alloc _).drewN _⟩
theorem token_any (B : Nat) (s : St) (w : World) (h : At B s w) :
    Calls Try.prog 15 #[.pointer (some ⟨B, 0, none⟩)] w fun e w' => e = .returned (.int .i64 s.token) ∧ w' = w := by
  obtain ⟨-, -, -, -, -, -, -, -, c8, -⟩ := h.reads
  go_enter Try.func15, Try.ntmps15
  go_wp2
  go_ret
  exact ⟨rfl, rfl⟩
theorem refused_any (B : Nat) (s : St) (w : World) (h : At B s w) :
    Calls Try.prog 16 #[.pointer (some ⟨B, 0, none⟩)] w fun e w' => e = .returned (.bool s.refused) ∧ w' = w := by
  obtain ⟨-, -, -, -, -, -, -, -, -, -, c10⟩ := h.reads
  go_enter Try.func16, Try.ntmps16
  go_wp2
  go_ret
  exact ⟨rfl, rfl⟩
theorem waits_any (B : Nat) (s : St) (w : World) (h : At B s w) :
    Calls Try.prog 18 #[.pointer (some ⟨B, 0, none⟩)] w fun e w' => e = .returned (.bool s.waits) ∧ w' = w := by
  obtain ⟨-, -, -, -, -, -, c6, -⟩ := h.reads
  go_enter Try.func18, Try.ntmps18
  go_wp2
  go_ret
  exact ⟨rfl, rfl⟩
set_option maxRecDepth 100000 in
set_option maxHeartbeats 1000000 in
theorem drop_any (B : Nat) (s : St) (now : Int) (w : World) (h : At B s w) :
    Calls Try.prog 19 #[.pointer (some ⟨B, 0, none⟩), .int .i64 now] w fun e w' => e = .returned (.tuple #[s.drop.2.1.val, .bool s.drop.2.2]) ∧ At B s.drop.1 w' ∧ Keep B w w' := by
  have hlt := h.lt
  have hlt1 : B < w.heap.size + 1 := by omega
  obtain ⟨c0, c1, -, -, -, -, c6, -, c8, c9, -⟩ := h.reads
  have f6 := h.free 6
  have f8 := h.free 8
  have f9 := h.free 9
  have hA : ∀ o, At B s.drop.1 ((((w.setCell ⟨B, 8, none⟩ (.int .i64 0)).setCell ⟨B, 9, none⟩ (.int .i64 0)).setCell ⟨B, 6, none⟩ (.bool false)).alloc o) := fun o =>
    (((h.set 8 _ { s with token := 0 } rfl).set 9 _ { s with token := 0, since := 0 } rfl).set 6 _ s.drop.1 rfl).alloc _
  have hK : ∀ o, Keep B w ((((w.setCell ⟨B, 8, none⟩ (.int .i64 0)).setCell ⟨B, 9, none⟩ (.int .i64 0)).setCell ⟨B, 6, none⟩ (.bool false)).alloc o) := fun o =>
    ((((Keep.refl B w).setCell (.inl rfl) _).setCell (.inl rfl) _).setCell (.inl rfl) _).alloc _
  have HA := Lib.hid hA
  have HK := Lib.hid hK
  clear hA hK
  cases hz : s.token == 0
  · have HD := Lib.hid (show s.drop.2 = (⟨11, s.addr, s.inc, 0, 0, 0, s.token⟩, true) by simp [St.drop, hz])
    go_enter Try.func19, Try.ntmps19
    go_wp2
    refine bodyPost_ret (v := .tuple #[Fr.val ⟨11, s.addr, s.inc, 0, 0, 0, s.token⟩, .bool true]) (by simp [results, Try.results19, go_sem, Fr.val, Fr.cells]) rfl ⟨by rw [HD.out], HA.out _, HK.out _⟩
  · have HD := Lib.hid (show s.drop.2 = (.zero, false) by simp [St.drop, hz])
    go_enter Try.func19, Try.ntmps19
    go_wp2
    refine bodyPost_ret (v := .tuple #[Fr.zero.val, .bool false]) (by simp [results, Try.results19, go_sem, Fr.val, Fr.cells, Fr.zero]) rfl ⟨by rw [HD.out], HA.out _, HK.out _⟩
set_option maxRecDepth 100000 in
set_option maxHeartbeats 1000000 in
theorem copy_any (B : Nat) (s : St) (w : World) (h : At B s w) :
    Calls Try.prog 17 #[.pointer (some ⟨B, 0, none⟩)] w fun e w' => ∃ C, e = .returned (.pointer (some ⟨C, 0, none⟩)) ∧ At C s w' ∧ w.heap.size ≤ C ∧ Below w.heap.size w w' := by
  have hlt := h.lt
  obtain ⟨c0, c1, c2, c3, c4, c5, c6, c7, c8, c9, c10⟩ := h.reads
  go_enter Try.func17, Try.ntmps17
  go_wp2
  go_ret
  refine ⟨w.heap.size, rfl, ?_, Nat.le_refl _, (Below.refl _ _).alloc (Nat.le_refl _) _⟩
  exact heap_alloc_new _ _
end Go.Proofs.Ytfbmjaelkijmnaa
