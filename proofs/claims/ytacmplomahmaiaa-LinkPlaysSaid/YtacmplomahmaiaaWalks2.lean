/-
  The walks of Fence and Fenced.
-/
import Derived.Test.YtacmplomahmaiaaWalks1
namespace Go.Proofs.Ytacmplomahmaiaa
open Go.RowKit Go.Maps
attribute [local go_sem ↓] Go.wp_at_zero Go.wp_at_succ
theorem past {w1 : World} (o : Obj) (p : Addr) (h : p.block < w1.heap.size) : ((w1.alloc o).drew.drew).cell? p = w1.cell? p := ((Below.refl _ w1).alloc (Nat.le_refl _) o).cell h
theorem ite_max (a b : Int) : (if a < b then b else a) = max a b := by omega
attribute [local go_sem] ite_max
set_option maxRecDepth 100000 in
set_option maxHeartbeats 1000000 in
theorem fence_any (B M n : Nat) (g : Int → Peer) (a i : Int) (w : World) (h : Lk B M n g w) (hn : n ≤ 1000) (ha : inI64 a) :
    Calls Try.prog 12 #[.pointer (some ⟨B, 0, none⟩), .agg #[.int .i64 a, .int .i64 i]] w fun e w' => e = .returned (.int .i64 (fenceE a i)) ∧ Lk B M (n + 1) (fenceF g a i) w' ∧ Keep M w w' := by
  have hlt := h.lt
  cases hm : mayB a i
  · have HE := Lib.hid (show fenceE a i = 4 ∧ fenceF g a i = g by simp [fenceE, fenceF, hm])
    go_enter Try.func12, Try.ntmps12
    go_wp2_with fail
    refine (may_any a i _).mono ?_
    rintro e w1 ⟨rfl, hb1⟩
    rw [hm]
    go_wp2_with fail
    go_ret
    have hL := (h.alloc _).kept hb1
    refine ⟨ret_i HE.out.1.symm, ?_, ((Keep.refl M w).alloc _).trans (Keep.of_below hb1)⟩
    rw [HE.out.2]
    exact ⟨hL.here, hL.knows.more (by omega), hL.ne⟩
  · have HE := Lib.hid (show fenceE a i = 0 ∧ fenceF g a i = set g a ((g a).fence i) by simp [fenceE, fenceF, hm])
    go_enter Try.func12, Try.ntmps12
    go_wp2_with fail
    refine (may_any a i _).mono ?_
    rintro e w1 ⟨rfl, hb1⟩
    rw [hm]
    have hL := (h.alloc (.cells #[.int .i64 a, .int .i64 i] 23)).kept hb1
    have hK1 := ((Keep.refl M w).alloc (.cells #[.int .i64 a, .int .i64 i] 23)).trans (Keep.of_below hb1)
    have i0 : w1.cell? ⟨w.heap.size, 0, none⟩ = some (.int .i64 a) := (hb1.cell (p := ⟨w.heap.size, 0, none⟩) (by simp)).trans (by simp)
    have i1 : w1.cell? ⟨w.heap.size, 1, none⟩ = some (.int .i64 i) := (hb1.cell (p := ⟨w.heap.size, 1, none⟩) (by simp)).trans (by simp)
    have hz1 : w.heap.size < w1.heap.size := by have := hb1.size; simp at this; omega
    have c1 := hL.cell
    have hl1 := hL.drew.knows.look a ha
    have hl2 := (hL.alloc (.cells #[.int .i64 0, .int .i64 0, .int .i64 0, .int .i64 0] 53)).drew.knows.look a ha
    simp only [Peer.cells] at hl1 hl2
    have hB1 := hL.lt
    have hM1 := hL.knows.lt
    have hp := ((hL.alloc (.cells ((g a).fence i).cells 53)).drew.drew).knows.put (by omega) a ha ((g a).fence i)
    obtain ⟨w2, hr, hk2, hK2⟩ := hp
    have HL2 := Lib.hid (((hL.alloc (.cells ((g a).fence i).cells 53)).drew.drew).turn hk2 hK2)
    have HK2 := Lib.hid (((hK1.alloc (.cells ((g a).fence i).cells 53)).drew.drew).trans hK2)
    have k0 : w2.cell? ⟨B, 0, none⟩ = some (.map (some M)) := (hK2.cell (p := ⟨B, 0, none⟩) (by simp; omega) hL.ne).trans ((past _ _ hB1).trans c1)
    have k1 : w2.cell? ⟨w.heap.size, 0, none⟩ = some (.int .i64 a) := (hK2.cell (p := ⟨w.heap.size, 0, none⟩) (by simp; omega) (by have := h.knows.lt; simp; omega)).trans ((past _ _ hz1).trans i0)
    have k2 : w2.cell? ⟨w1.heap.size, 0, none⟩ = some (.int .i64 (g a).newest) := (hK2.cell (p := ⟨w1.heap.size, 0, none⟩) (by simp) (by simp; omega)).trans (by simp [Peer.fence, Peer.cells])
    have k3 : w2.cell? ⟨w1.heap.size, 1, none⟩ = some (.int .i64 (max (g a).fenced i)) := (hK2.cell (p := ⟨w1.heap.size, 1, none⟩) (by simp) (by simp; omega)).trans (by simp [Peer.fence, Peer.cells])
    have k4 : w2.cell? ⟨w1.heap.size, 2, none⟩ = some (.int .i64 (g a).beat) := (hK2.cell (p := ⟨w1.heap.size, 2, none⟩) (by simp) (by simp; omega)).trans (by simp [Peer.fence, Peer.cells])
    have k5 : w2.cell? ⟨w1.heap.size, 3, none⟩ = some (.int .i64 (g a).reply) := (hK2.cell (p := ⟨w1.heap.size, 3, none⟩) (by simp) (by simp; omega)).trans (by simp [Peer.fence, Peer.cells])
    simp only [Peer.cells, Peer.fence] at hr
    clear hk2 hK2 hK1 hL
    go_upto_region 5 with fail
    go_cut [5] (fun v wx => v = .pointer (some ⟨w1.heap.size, 0, none⟩) ∧ wx = (w1.alloc (.cells #[.int .i64 (g a).newest, .int .i64 (g a).fenced, .int .i64 (g a).beat, .int .i64 (g a).reply] 53)).drew)
    case first =>
      go_region_held3 (fun v => v.cell? ⟨B, 0, none⟩ = some (.map (some M)) ∧ v.cell? ⟨w.heap.size, 0, none⟩ = some (.int .i64 a)) (go_keep) (fail)
      all_goals
        go_wp2_with fail
        go_meet
        case rel => exact ⟨rfl, rfl⟩
    case rest =>
      obtain ⟨rfl, rfl⟩ := hcut
      clear hl1 hl2
      go_wp2_with fail
      go_region_held3 (fun v => v.cell? ⟨B, 0, none⟩ = some (.map (some M)) ∧ v.cell? ⟨w.heap.size, 0, none⟩ = some (.int .i64 a) ∧ v.cell? ⟨w1.heap.size, 0, none⟩ = some (.int .i64 (g a).newest) ∧ v.cell? ⟨w1.heap.size, 1, none⟩ = some (.int .i64 (max (g a).fenced i)) ∧ v.cell? ⟨w1.heap.size, 2, none⟩ = some (.int .i64 (g a).beat) ∧ v.cell? ⟨w1.heap.size, 3, none⟩ = some (.int .i64 (g a).reply)) (go_keep) (fail)
      go_wp2_with fail
      go_ret
      refine ⟨ret_i HE.out.1.symm, ?_, HK2.out⟩
      rw [HE.out.2]
      exact HL2.out
theorem fence_nil (a i : Int) (w : World) : Calls Try.prog 12 #[.pointer none, .agg #[.int .i64 a, .int .i64 i]] w fun e w' => e = .returned (.int .i64 2) ∧ Below w.heap.size w w' := by
  go_enter Try.func12, Try.ntmps12
  go_wp2
  go_ret
  exact ⟨rfl, (Below.refl _ _).alloc (Nat.le_refl _) _⟩
end Go.Proofs.Ytacmplomahmaiaa
