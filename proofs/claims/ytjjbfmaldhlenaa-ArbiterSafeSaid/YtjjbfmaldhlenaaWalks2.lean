/-
  The walks of Start, Holder, own, grant.
-/
import Derived.Test.YtjjbfmaldhlenaaWalks1
namespace Go.Proofs.Ytjjbfmaldhlenaa
open Go.RowKit
theorem heap_new {w : World} {o : Obj} {g : Nat} (h : g = w.heap.size) : (w.alloc o).heap[g]? = some o := by
  subst h; exact heap_alloc_new _ _
set_option maxRecDepth 100000 in
set_option maxHeartbeats 1000000 in
theorem start_any (B : Nat) (s : St) (w : World) (h : At B s w) :
    Calls Try.prog 11 #[.pointer (some ⟨B, 0, none⟩)] w fun e w' => e = .returned (.int .i64 0) ∧ At B s.start w' ∧ Keep B w w' := by
  obtain ⟨c0, c1, c2, c3, c4, c5⟩ := h.reads
  have fz := h.free
  have hA := (((((h.set 0 (.int .i64 s.term) s rfl).set 1 (.int .i64 0) { s with now := 0 } rfl).set 2 (.int .i64 s.token) { s with now := 0 } rfl).set 3 (.int .i64 0) { s with now := 0, ta := 0 } rfl).set 4 (.int .i64 0) { s with now := 0, ta := 0, ti := 0 } rfl).set 5 (.int .i64 0) s.start rfl
  have hK := ((((((Keep.refl B w).setCell (p := ⟨B, 0, none⟩) (.inl rfl) (.int .i64 s.term)).setCell (p := ⟨B, 1, none⟩) (.inl rfl) (.int .i64 0)).setCell (p := ⟨B, 2, none⟩) (.inl rfl) (.int .i64 s.token)).setCell (p := ⟨B, 3, none⟩) (.inl rfl) (.int .i64 0)).setCell (p := ⟨B, 4, none⟩) (.inl rfl) (.int .i64 0)).setCell (p := ⟨B, 5, none⟩) (.inl rfl) (.int .i64 0)
  go_enter Try.func11, Try.ntmps11
  go_wp2
  go_region
  all_goals
    go_wp2
    go_ret
    refine ⟨rfl, (hA.drewN 1 :), (hK.drewN 1 :)⟩
set_option maxRecDepth 100000 in
set_option maxHeartbeats 1000000 in
theorem own_any (B : Nat) (s : St) (a i : Int) (w : World) (h : At B s w) :
    Calls Try.prog 35 #[.pointer (some ⟨B, 0, none⟩), .agg #[.int .i64 a, .int .i64 i]] w fun e w' => e = .returned (.bool (s.own a i)) ∧ Below w.heap.size w w' := by
  have hlt := h.lt
  obtain ⟨-, c1, -, c3, c4, c5⟩ := h.reads
  have hb : ∀ o n, Below w.heap.size w ((w.alloc o).drewN n) := fun o n => below_drewN ((Below.refl _ _).alloc (Nat.le_refl _) _) n
  cases hd : decide (s.now < s.til)
  · have HD := Lib.hid (show s.own a i = false by simp [St.own, hd])
    have HB := Lib.hid hb
    clear hb
    go_enter Try.func35, Try.ntmps35
    go_wp2
    go_quiet (fail)
    go_wp2
    go_ret
    exact ⟨ret_b HD.out.symm, HB.out _ _⟩
  · have HD := Lib.hid (show s.own a i = (s.ta == a && s.ti == i) by simp [St.own, hd])
    have HB := Lib.hid hb
    clear hb
    have hlt : s.now < s.til := by simpa using hd
    cases e1 : s.ta == a <;> cases e2 : s.ti == i
    all_goals
      go_enter Try.func35, Try.ntmps35
      go_wp2
      go_region
      all_goals
        go_wp2
        go_ret
        exact ⟨ret_b (by rw [HD.out, e1, e2]; rfl), HB.out _ 1⟩
set_option maxRecDepth 100000 in
set_option maxHeartbeats 1000000 in
theorem grant_any (B : Nat) (s : St) (f : Fr) (w : World) (h : At B s w) (ok : s.Ok) :
    Calls Try.prog 36 #[.pointer (some ⟨B, 0, none⟩), f.val] w fun e w' => e = .returned (s.grant f).val ∧ At B (s.grant f).st w' ∧ Keep B w w' := by
  have hlt := h.lt
  obtain ⟨c0, c1, c2, c3, c4, c5⟩ := h.reads
  have fz := h.free
  have n1 := ok.n1
  have n2 := ok.n2
  have t1 := ok.t1
  have t2 := ok.t2
  have hA := ((h.set 3 (.int .i64 f.fa) { s with ta := f.fa } rfl).set 4 (.int .i64 f.fi) { s with ta := f.fa, ti := f.fi } rfl).set 5 (.int .i64 (s.now + s.term)) (s.grant f).st rfl
  have hK := (((Keep.refl B w).setCell (p := ⟨B, 3, none⟩) (.inl rfl) (.int .i64 f.fa)).setCell (p := ⟨B, 4, none⟩) (.inl rfl) (.int .i64 f.fi)).setCell (p := ⟨B, 5, none⟩) (.inl rfl) (.int .i64 (s.now + s.term))
  simp only [Fr.val, Fr.cells]
  go_enter Try.func36, Try.ntmps36
  go_wp2
  go_region
  all_goals
    go_wp2
    go_region
    all_goals
      go_wp2
      refine ends_frame _ ⟨12, 0, 0, f.fa, f.fi, f.n, s.token⟩ (w.heap.size + 1) (.bool true) (.int .i64 0) rfl rfl rfl rfl ?_ rfl ⟨rfl, (hA.alloc _).alloc _, ((hK.alloc _).alloc _).drew.drew⟩
      exact heap_new (by simp)
set_option maxRecDepth 100000 in
set_option maxHeartbeats 1000000 in
theorem holder_any (B : Nat) (s : St) (w : World) (h : At B s w) :
    Calls Try.prog 15 #[.pointer (some ⟨B, 0, none⟩)] w fun e w' => e = .returned (.tuple (if s.now < s.til then #[.agg #[.int .i64 s.ta, .int .i64 s.ti], .bool true] else #[.agg #[.int .i64 0, .int .i64 0], .bool false])) ∧ Below w.heap.size w w' := by
  have hlt := h.lt
  obtain ⟨-, c1, -, c3, c4, c5⟩ := h.reads
  have hb : ∀ o n, Below w.heap.size w ((w.alloc o).drewN n) := fun o n => below_drewN ((Below.refl _ _).alloc (Nat.le_refl _) _) n
  cases hd : decide (s.til ≤ s.now)
  · have hd2 : s.now < s.til := by simpa using hd
    rw [if_pos hd2]
    clear hb
    go_enter Try.func15, Try.ntmps15
    go_wp2
    go_quiet (fail)
    go_wp2
    refine bodyPost_ret (v := .tuple #[.agg #[.int .i64 s.ta, .int .i64 s.ti], .bool true]) (by simp [results, Try.results15, go_sem]) rfl ⟨rfl, ?_⟩
    exact below_drewN ((Below.refl _ _).alloc (Nat.le_refl _) _) _
  · have hd2 : s.til ≤ s.now := by simpa using hd
    rw [if_neg (by omega)]
    clear hb
    go_enter Try.func15, Try.ntmps15
    go_wp2
    go_quiet (fail)
    go_wp2
    refine bodyPost_ret (v := .tuple #[.agg #[.int .i64 0, .int .i64 0], .bool false]) (by simp [results, Try.results15, go_sem]) rfl ⟨rfl, ?_⟩
    exact below_drewN ((Below.refl _ _).alloc (Nat.le_refl _) _) _
end Go.Proofs.Ytjjbfmaldhlenaa
