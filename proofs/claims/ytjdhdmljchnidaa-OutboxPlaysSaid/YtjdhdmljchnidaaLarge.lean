/-
  Are steps more than a statement goes over?
-/
import Derived.Test.YtjdhdmljchnidaaInp2
namespace Go.Proofs.Ytjdhdmljchnidaa
open Go.RowKit
set_option linter.unusedVariables false
set_option linter.unusedSimpArgs false
attribute [local go_sem ↓] Go.wp_at_zero Go.wp_at_succ
/-- What the sum is good for. -/
def SizeOk (x : Inp) (w : World) (e : Ending) (w' : World) : Prop := ∃ z : Int, e = .returned (.int .i64 z) ∧ Below w.heap.size w w' ∧ 0 ≤ z ∧ z ≤ 2000000000000000 ∧ (z < 20000 → x.Small)
set_option maxRecDepth 100000 in
set_option maxHeartbeats 4000000 in
theorem size_any (P : Nat) (x : Inp) (w : World) (h : x.Ok P w) (hP : P ≤ w.heap.size) : Calls Try.prog 34 #[x.f.val] w (SizeOk x w) := by
  have hn1 := h.ms.n
  have hn2 := h.fs.n
  have hn3 := h.rs.n
  have hn4 := h.cs.n
  have hn5 := h.ss.n
  have hm1 := Nat.le_trans h.ms.le h.zms
  have hm2 := Nat.le_trans h.fs.le h.zfs
  have hm3 := Nat.le_trans h.rs.le h.zrs
  have hm4 := Nat.le_trans h.cs.le h.zcs
  have hm5 := Nat.le_trans h.ss.le h.zss
  obtain ⟨f, ms, fs, rs, cs, ss⟩ := x
  obtain ⟨k, fa, fi, ta, ti, n, tk, ba, bi, ⟨a1, n1, c1⟩, ⟨a2, n2, c2⟩, ⟨a3, n3, c3⟩, ⟨a4, n4, c4⟩, ⟨a5, n5, c5⟩⟩ := f
  simp only at hn1 hn2 hn3 hn4 hn5 hm1 hm2 hm3 hm4 hm5
  unfold reachBytes at hm1 hm2 hm3 hm4 hm5
  have H := Lib.hid (And.intro h (And.intro hn1 (And.intro hn2 (And.intro hn3 (And.intro hn4 hn5)))))
  clear h hn1 hn2 hn3 hn4 hn5
  simp only [Fr.val, Fr.cells]
  go_enter Try.func34, Try.ntmps34
  go_wp2_with fail
  obtain ⟨q0, q1⟩ := both_new2 w (.cells #[.int .u8 k, .int .i64 fa, .int .i64 fi, .int .i64 ta, .int .i64 ti, .int .i64 n, .int .i64 tk, .int .i64 ba, .int .i64 bi, .slice a1 n1 c1, .slice a2 n2 c2, .slice a3 n3 c3, .slice a4 n4 c4, .slice a5 n5 c5] 38) (.cells #[.slice a1 n1 c1, .slice a2 n2 c2, .slice a3 n3 c3, .slice a4 n4 c4, .slice a5 n5 c5] 36)
  have hb : Below w.heap.size w ((w.alloc (.cells #[.int .u8 k, .int .i64 fa, .int .i64 fi, .int .i64 ta, .int .i64 ti, .int .i64 n, .int .i64 tk, .int .i64 ba, .int .i64 bi, .slice a1 n1 c1, .slice a2 n2 c2, .slice a3 n3 c3, .slice a4 n4 c4, .slice a5 n5 c5] 38)).alloc (.cells #[.slice a1 n1 c1, .slice a2 n2 c2, .slice a3 n3 c3, .slice a4 n4 c4, .slice a5 n5 c5] 36)) := ((Below.refl _ _).alloc (Nat.le_refl _) _).alloc (by simp) _
  generalize ((w.alloc (.cells #[.int .u8 k, .int .i64 fa, .int .i64 fi, .int .i64 ta, .int .i64 ti, .int .i64 n, .int .i64 tk, .int .i64 ba, .int .i64 bi, .slice a1 n1 c1, .slice a2 n2 c2, .slice a3 n3 c3, .slice a4 n4 c4, .slice a5 n5 c5] 38)).alloc (.cells #[.slice a1 n1 c1, .slice a2 n2 c2, .slice a3 n3 c3, .slice a4 n4 c4, .slice a5 n5 c5] 36)) = Y at q0 q1 hb ⊢
  have y2 : Y.cell? ⟨w.heap.size + 1, 2, none⟩ = some (.slice a3 n3 c3) := (cell_of_row _ _ _ _ _ _ q1).trans rfl
  obtain ⟨h, hn1, hn2, hn3, hn4, hn5⟩ := H.out
  have hx := h.below (hb.mono hP)
  have HX := Lib.hid (And.intro hx (And.intro hb (And.intro hn1 (And.intro hn2 (And.intro hn3 (And.intro hn4 hn5))))))
  clear q0 q1 hx hb H h hn1 hn2 hn3 hn4 hn5
  go_loop [4, 5] (fun m i => ∃ (j : Nat) (z : Int), j ≤ n3 ∧ i = .int .i64 j ∧ m = .int .i64 z ∧ 5 + (n1 : Int) + n2 + n4 + n5 + n3 ≤ z ∧ z ≤ 1000000000000000 ∧ Hid (∀ t (h : t < rs.length), t < j → (rs[t].2.length : Int) ≤ z)) (fun _ i => n3 - (intOf i).toNat)
  case atStart => exact ⟨0, _, by omega, rfl, rfl, by omega, by omega, Lib.hid (fun t _ ht => by omega)⟩
  case round =>
    obtain ⟨j, z, hj, rfl, rfl, z0, z1, HS⟩ := hrel
    by_cases hlt : j < n3
    · by_cases hz : z < 100000
      · obtain ⟨hx, hb, hn1, hn2, hn3, hn4, hn5⟩ := HX.out
        have hjr : j < rs.length := by omega
        obtain ⟨b, o, e, -, -, -, -, hc⟩ := hx.rs.cell (j := j) hjr
        obtain ⟨hrn, hrc⟩ := hx.not _ (List.getElem_mem hjr)
        have hl := hrn.n
        have hle := Nat.le_trans hrn.le hrc
        simp only at e
        subst e
        clear hx hb hn1 hn2 hn4 hn5 hrn hrc
        generalize hp : rs[j]'hjr = p at hc hl hle
        have HP := Lib.hid hp
        clear hp hn3
        obtain ⟨⟨ra, ri, rv, ⟨ga, gn, gc⟩⟩, l⟩ := p
        have x3 : Y.cell? ⟨b, o + j * 4 + 3, none⟩ = some (.slice ga gn gc) := by have := hc 3 (by decide); rwa [← Nat.add_assoc] at this
        clear hc
        simp only at hl hle
        unfold reachBytes at hle
        go_wp2_with fail
        go_round
        case rel =>
          refine ⟨j + 1, _, by omega, by go_num, rfl, by omega, by omega, Lib.hid (fun t ht htj => ?_)⟩
          by_cases e : t < j
          · have := HS.out t ht e; omega
          · obtain rfl : t = j := by omega
            rw [HP.out]
            show ((l.length : Nat) : Int) ≤ _
            omega
        case measure => simp [intOf]; omega
      · have g : decide (z < 100000) = false := by simpa using hz
        go_wp2_with fail
        go_ret
        obtain ⟨hx, hb, -⟩ := HX.out
        exact ⟨z, rfl, hb, by omega, by omega, fun h => by omega⟩
    · obtain rfl : j = n3 := by omega
      go_wp2_with fail
      go_ret
      obtain ⟨hx, hb, hn1, hn2, hn3, hn4, hn5⟩ := HX.out
      refine ⟨z, rfl, hb, by omega, by omega, fun h => ⟨?_, ?_, ?_, ?_, ?_, fun p hp => ?_⟩⟩
      · show ms.length ≤ 100000
        omega
      · show fs.length ≤ 100000
        omega
      · show rs.length ≤ 100000
        omega
      · show cs.length ≤ 100000
        omega
      · show ss.length ≤ 100000
        omega
      · obtain ⟨t, ht, e⟩ := List.getElem_of_mem hp
        have ht : t < rs.length := ht
        have e : rs[t] = p := e
        have := HS.out t ht (by omega)
        rw [e] at this
        omega
/-- What the answer is good for. -/
def LargeOk (l : List St) (w : World) (e : Ending) (w' : World) : Prop := ∃ b : Bool, e = .returned (.bool b) ∧ Below w.heap.size w w' ∧ (b = false → l.length ≤ 300 ∧ ∀ s ∈ l, s.x.Small)
set_option maxRecDepth 100000 in
set_option maxHeartbeats 4000000 in
theorem large_any (P : Nat) (s : SL) (l : List St) (w : World) (h : Ss P s l w) (hP : P ≤ w.heap.size) : Calls Try.prog 16 #[s.val] w (LargeOk l w) := by
  obtain ⟨a, n, c⟩ := s
  obtain rfl : n = l.length := h.rd.n
  have hlm : l.length ≤ reachBytes := Nat.le_trans h.rd.le h.c
  unfold reachBytes at hlm
  have H := Lib.hid h
  clear h
  simp only [SL.val]
  go_enter Try.func16, Try.ntmps16
  go_wp2_with fail
  go_loopw [3, 4] (fun m i wr => ∃ (j : Nat) (z : Int), j ≤ l.length ∧ i = .int .i64 j ∧ m = .int .i64 z ∧ Below w.heap.size w wr ∧ 0 ≤ z ∧ z ≤ 20000 + 2000000000000000 ∧ Hid (z < 20000 → ∀ t (h : t < l.length), t < j → l[t].x.Small)) (fun _ i _ => l.length - (intOf i).toNat)
  case atStart => exact ⟨0, 0, by omega, rfl, rfl, Below.refl _ _, by omega, by omega, Lib.hid (fun _ t _ ht => by omega)⟩
  case round =>
    obtain ⟨j, z, hj, rfl, rfl, hb, z0, z1, HS⟩ := hrel
    by_cases hlt : j < l.length
    · by_cases hz : z < 20000
      · have h := H.out.below (hb.mono hP)
        obtain ⟨b, o, e, -, -, -, -, hc⟩ := h.rd.cell hlt
        have hok := h.ok _ (List.getElem_mem hlt)
        simp only at e
        subst e
        generalize hx : l[j] = x at hc hok
        have HX := Lib.hid hx
        clear hx h
        obtain ⟨kd, x⟩ := x
        have x0 : wr.cell? ⟨b, o + j * 15 + 1, none⟩ = some (.int .u8 x.f.kind) := by have := hc 1 (by decide); rwa [← Nat.add_assoc] at this
        have x1 : wr.cell? ⟨b, o + j * 15 + 2, none⟩ = some (.int .i64 x.f.fa) := by have := hc 2 (by decide); rwa [← Nat.add_assoc] at this
        have x2 : wr.cell? ⟨b, o + j * 15 + 3, none⟩ = some (.int .i64 x.f.fi) := by have := hc 3 (by decide); rwa [← Nat.add_assoc] at this
        have x3 : wr.cell? ⟨b, o + j * 15 + 4, none⟩ = some (.int .i64 x.f.ta) := by have := hc 4 (by decide); rwa [← Nat.add_assoc] at this
        have x4 : wr.cell? ⟨b, o + j * 15 + 5, none⟩ = some (.int .i64 x.f.ti) := by have := hc 5 (by decide); rwa [← Nat.add_assoc] at this
        have x5 : wr.cell? ⟨b, o + j * 15 + 6, none⟩ = some (.int .i64 x.f.n) := by have := hc 6 (by decide); rwa [← Nat.add_assoc] at this
        have x6 : wr.cell? ⟨b, o + j * 15 + 7, none⟩ = some (.int .i64 x.f.token) := by have := hc 7 (by decide); rwa [← Nat.add_assoc] at this
        have x7 : wr.cell? ⟨b, o + j * 15 + 8, none⟩ = some (.int .i64 x.f.ba) := by have := hc 8 (by decide); rwa [← Nat.add_assoc] at this
        have x8 : wr.cell? ⟨b, o + j * 15 + 9, none⟩ = some (.int .i64 x.f.bi) := by have := hc 9 (by decide); rwa [← Nat.add_assoc] at this
        have x9 : wr.cell? ⟨b, o + j * 15 + 10, none⟩ = some (.slice x.f.ms.a x.f.ms.n x.f.ms.c) := by have := hc 10 (by decide); rwa [← Nat.add_assoc] at this
        have x10 : wr.cell? ⟨b, o + j * 15 + 11, none⟩ = some (.slice x.f.fs.a x.f.fs.n x.f.fs.c) := by have := hc 11 (by decide); rwa [← Nat.add_assoc] at this
        have x11 : wr.cell? ⟨b, o + j * 15 + 12, none⟩ = some (.slice x.f.rs.a x.f.rs.n x.f.rs.c) := by have := hc 12 (by decide); rwa [← Nat.add_assoc] at this
        have x12 : wr.cell? ⟨b, o + j * 15 + 13, none⟩ = some (.slice x.f.cs.a x.f.cs.n x.f.cs.c) := by have := hc 13 (by decide); rwa [← Nat.add_assoc] at this
        have x13 : wr.cell? ⟨b, o + j * 15 + 14, none⟩ = some (.slice x.f.ss.a x.f.ss.n x.f.ss.c) := by have := hc 14 (by decide); rwa [← Nat.add_assoc] at this
        have HO := Lib.hid hok.x
        clear hok hc
        go_wp2_with fail
        refine (size_any P x wr HO.out (Nat.le_trans hP hb.size)).mono ?_
        rintro e w1 ⟨y, rfl, hb1, y0, y1, hsm⟩
        have HS2 := Lib.hid hsm
        clear hsm
        go_wp2_with fail
        go_roundw
        case rel =>
          refine ⟨j + 1, _, by omega, by go_num, rfl, hb.trans (hb1.mono hb.size), by omega, by omega, Lib.hid (fun hz2 t ht htj => ?_)⟩
          by_cases e : t < j
          · exact HS.out hz t ht e
          · obtain rfl : t = j := by omega
            rw [HX.out]
            exact HS2.out (by omega)
        case measure => simp [intOf]; omega
      · have g : decide (z < 20000) = false := by simpa using hz
        go_wp2_with fail
        go_ret
        exact ⟨true, rfl, hb, fun h => by cases h⟩
    · obtain rfl : j = l.length := by omega
      by_cases hz : z < 20000
      · go_wp2_with fail
        go_ret
        refine ⟨_, rfl, hb, fun h => ?_⟩
        simp at h
        exact ⟨by omega, fun x hx => by
          obtain ⟨t, ht, rfl⟩ := List.getElem_of_mem hx
          exact HS.out hz t ht ht⟩
      · go_wp2_with fail
        go_ret
        refine ⟨true, rfl, hb, fun h => by cases h⟩
end Go.Proofs.Ytjdhdmljchnidaa
