/-
  Bend, Copy.
-/
import Derived.Test.YtialfpmfiapepaaActs
namespace Go.Proofs.Ytialfpmfiapepaa
open Go.RowKit
set_option linter.unusedVariables false
set_option linter.unusedSimpArgs false
attribute [local go_sem ↓] Go.wp_at_zero Go.wp_at_succ
def N.bend (n : N) (k a : Int) (x : BitVec 32) : N := n.put k ((n.get k).bend a x)
def N.bendE (n : N) (k : Int) : Int := if n.has k = true then (if (n.get k).bent = true then 7 else 0) else 5
theorem N.put_out {n : N} {k : Int} (hk : n.has k = false) (u : U) : n.put k u = n := by unfold N.put; rw [hk]; rfl
theorem N.put_get (n : N) (k : Int) : n.put k (n.get k) = n := by
  cases hk : n.has k
  · exact N.put_out hk _
  · obtain ⟨hl, he⟩ := N.get_of hk
    unfold N.put
    rw [if_pos hk, he, List.set_getElem_self]
theorem N.bend_bent {n : N} {k : Int} (h : (n.get k).bent = true) (a : Int) (x : BitVec 32) : n.bend k a x = n := by
  unfold N.bend U.bend
  rw [if_pos h, N.put_get]
/-- What the texts of all frames are bounded by. -/
def N.Small (n : N) : Prop := ∀ u ∈ n.l, u.s.size ≤ 100000
theorem N.Small.get {n : N} (h : n.Small) (k : Int) : (n.get k).s.size ≤ 100000 := by
  cases hk : n.has k
  · rw [not_has hk]; show (0 : Nat) ≤ _; omega
  · obtain ⟨hl, he⟩ := N.get_of hk
    rw [he]; exact h _ (List.getElem_mem hl)
theorem N.Small.push {n : N} (h : n.Small) (u : U) (hu : u.s.size ≤ 100000) : (n.push u).Small := by
  intro f hf
  unfold N.push at hf
  simp only [List.mem_append, List.mem_singleton] at hf
  rcases hf with hf | rfl
  · split at hf
    · exact h _ (List.mem_of_mem_tail hf)
    · exact h _ hf
  · exact hu
theorem N.Small.lose {n : N} (h : n.Small) (k : Int) : (n.lose k).Small := by
  intro f hf
  unfold N.lose at hf
  split at hf
  · exact h _ (List.mem_of_mem_eraseIdx hf)
  · exact h _ hf
theorem N.Small.twice {n : N} (h : n.Small) (k : Int) : (n.twice k).Small := by
  unfold N.twice
  split
  · exact h.push _ (h.get k)
  · exact h
theorem U.bend_size (f : U) (a : Int) (x : BitVec 32) : (f.bend a x).s.size = f.s.size := by
  unfold U.bend
  split
  · rfl
  · show (Ytialfpmfiapepaa.bend f.s.data.toList a x).toArray.size = f.s.data.size
    simp [bend_length]
theorem N.Small.bend {n : N} (h : n.Small) (k a : Int) (x : BitVec 32) : (n.bend k a x).Small := by
  intro f hf
  unfold N.bend N.put at hf
  split at hf
  · rcases List.mem_or_eq_of_mem_set hf with hf | rfl
    · exact h _ hf
    · rw [U.bend_size]; exact h.get k
  · exact h _ hf
theorem three_new (w : World) (a b c : Obj) : (((w.alloc a).alloc b).alloc c).heap[w.heap.size]? = some a ∧ (((w.alloc a).alloc b).alloc c).heap[w.heap.size + 1]? = some b ∧ (((w.alloc a).alloc b).alloc c).heap[w.heap.size + 1 + 1]? = some c := by
  obtain ⟨h1, h2⟩ := two_new w a b
  refine ⟨?_, ?_, ?_⟩
  · rw [Below.heap_alloc _ _ _ (by simp; omega)]; exact h1
  · rw [Below.heap_alloc _ _ _ (by simp)]; exact h2
  · rw [show w.heap.size + 1 + 1 = ((w.alloc a).alloc b).heap.size by simp]; exact heap_alloc_new _ _
set_option maxRecDepth 100000 in
set_option maxHeartbeats 2000000 in
theorem bendn_any (P B : Nat) (v : Value) (n : N) (k a : Int) (x : BitVec 32) (w : World) (h : Nt P B v n w) (hs : n.Small) (ha0 : -9223372036854775808 ≤ a) (ha1 : a ≤ 9223372036854775807) :
    Calls Try.prog 17 #[.pointer (some ⟨B, 0, none⟩), .int .i64 k, .int .i64 a, .int .u32 (u x)] w fun e w' => e = .returned (.int .i64 (n.bendE k)) ∧ Did P B v (n.bend k a x) w w' := by
  have hlt := h.lt
  have hv := h.vlt
  obtain ⟨hA, hX, hQ⟩ := three_new w (.cells #[.int .i64 a] 3) (.cells #[.int .u32 (u x)] 30) (.cells #[.bool false] 4)
  have HN := Lib.hid (And.intro hA (And.intro hX hQ))
  clear hA hX hQ
  cases hk : n.has k
  · have HE := Lib.hid (show n.bendE k = 5 ∧ n.bend k a x = n from ⟨by simp [N.bendE, hk], N.put_out hk _⟩)
    have HH := Lib.hid h
    clear h
    go_enter Try.func17, Try.ntmps17
    go_wp2_with fail
    refine (at_out P B v n k _ _ (((HH.out.alloc _).alloc _).alloc _) hk).mono ?_
    rintro e w1 ⟨rfl, rfl⟩
    clear hk
    go_wp2_with fail
    go_ret
    exact ⟨ret_i (by rw [HE.out.1]), v, by rw [HE.out.2]; exact ((HH.out.alloc _).alloc _).alloc _, (((Turn.refl _ _ _).alloc _).alloc _).alloc _⟩
  · cases hb : (n.get k).bent
    · have HE := Lib.hid (show n.bendE k = 0 by simp [N.bendE, hk, hb])
      have hsz := hs.get k
      have HH := Lib.hid h
      clear h hs
      go_enter Try.func17, Try.ntmps17
      go_wp2_with fail
      refine (at_bend P B v n k a x w.heap.size (w.heap.size + 1 + 1) w.heap.size (w.heap.size + 1) _ (((HH.out.alloc _).alloc _).alloc _) hk hb hsz ha0 ha1 hlt (fun g hg => (hv g hg).2) HN.out.2.2 HN.out.1 HN.out.2.1 (by omega) (by omega) (by omega)).mono ?_
      rintro e w1 ⟨rfl, hQ1, hs1, w0, hb0, hN0, hN1, hT⟩
      have q0 : w1.cell? ⟨w.heap.size + 1 + 1, 0, none⟩ = some (.bool false) := by rw [cell_of_row _ _ _ _ _ _ hQ1]; rfl
      have hbW : Below w.heap.size w w0 := ((((Below.refl _ _).alloc (Nat.le_refl _) _).alloc (by simp) _).alloc (by simp; omega) _).trans hb0
      have HD := Lib.hid (show Did P B v (n.bend k a x) w w1 from ⟨v, hN1, (Turn.of_below hbW).trans hT⟩)
      clear hQ1 hb0 hN0 hN1 hT hbW hk hb hv hsz
      go_wp2_with fail
      go_ret
      exact ⟨ret_i (by rw [HE.out]), HD.out⟩
    · have HE := Lib.hid (show n.bendE k = 7 ∧ n.bend k a x = n from ⟨by simp [N.bendE, hk, hb], N.bend_bent hb a x⟩)
      have HH := Lib.hid h
      clear h hs
      go_enter Try.func17, Try.ntmps17
      go_wp2_with fail
      refine (at_bent P B v n k w.heap.size (w.heap.size + 1 + 1) w.heap.size (w.heap.size + 1) _ (((HH.out.alloc _).alloc _).alloc _) hk hb hlt (fun g hg => (hv g hg).2) HN.out.2.2 (by omega)).mono ?_
      rintro e w1 ⟨rfl, hQ1, hs1, hb0⟩
      have q0 : w1.cell? ⟨w.heap.size + 1 + 1, 0, none⟩ = some (.bool true) := by rw [cell_of_row _ _ _ _ _ _ hQ1]; rfl
      have hbW : Below w.heap.size w w1 := ((((Below.refl _ _).alloc (Nat.le_refl _) _).alloc (by simp) _).alloc (by simp; omega) _).trans hb0
      have HD := Lib.hid (show Did P B v n w w1 from ⟨v, HH.out.kept hbW, Turn.of_below hbW⟩)
      clear hQ1 hb0 hbW hk hb hv
      go_wp2_with fail
      go_ret
      exact ⟨ret_i (by rw [HE.out.1]), by rw [HE.out.2]; exact HD.out⟩
theorem bendn_nil (k a : Int) (x : BitVec 32) (w : World) : Calls Try.prog 17 #[.pointer none, .int .i64 k, .int .i64 a, .int .u32 (u x)] w fun e w' => e = .returned (.int .i64 2) ∧ Below w.heap.size w w' := by
  go_enter Try.func17, Try.ntmps17
  go_wp2_with fail
  refine (at_nil k _ _).mono ?_
  rintro e w1 ⟨rfl, rfl⟩
  go_wp2_with fail
  go_ret
  exact ⟨rfl, (((Below.refl _ _).alloc (Nat.le_refl _) _).alloc (by simp) _).alloc (by simp; omega) _⟩
set_option maxHeartbeats 1000000 in
theorem clone_any (P : Nat) (v : Value) (l : List U) (w : World) (h : w.ownsRow P 65 3 v l.length (rows l)) (hl : l.length ≤ 65536) (hP : P ≤ w.heap.size) :
    Calls Try.prog 34 #[v] w fun e w' => ∃ v', e = .returned v' ∧ w'.ownsRow P 65 3 v' l.length (rows l) ∧ Below w.heap.size w w' ∧ ∀ k, v'.ownBlock = some k → w.heap.size ≤ k := by
  obtain ⟨i0, hi0, hz0, hz1, hz2⟩ := info_parts info65
  have hq := fun (w : World) (a : Option Addr) (n c : Nat) => Lib.run_eql_slice_nil (P := Try.prog) w 60 65 a n c 0 0 Try.underlying60
  rcases h.2 with ⟨rfl, h0⟩ | ⟨g, cap, cur, rfl, hPg, hg, hnc, hcm, hcs, htake⟩
  · go_enter Try.func34, Try.ntmps34
    go_wp2_with fail
    go_ret
    exact ⟨.slice none 0 0, rfl, h, Below.refl _ _, fun k hk => by simp [Value.ownBlock] at hk⟩
  · have hn1 : 0 + l.length ≤ maxLen := by unfold maxLen; omega
    have hn2 : (0 + l.length) * 32 ≤ 140737488355328 := by omega
    have hc := World.ownsRow.cells (h.alloc (.cells #[] 65)) (g := g) rfl
    have hown := World.ownsRow_made (base := w.heap.size) (e := 65) (size := 3) w #[] 0 (Nat.le_refl _) (by decide) rfl
    have HC := Lib.hid hc
    have HO := Lib.hid hown
    clear hc hown
    go_enter Try.func34, Try.ntmps34
    go_wp2_with (first | (at_builtin; (refine wpList_append_own_at _ rfl _ _ 60 rfl w.heap.size 65 i0 _ 3 32 Try.underlying60 hi0 hz0 hz1 hz2 rfl (by decide) (.slice (some ⟨w.heap.size, 0, none⟩) 0 0) 0 [] rfl HO.out ⟨g, 0, none⟩ l.length cap (rows l) rfl (rows_length l) HC.out (rows_one l) hn1 hn2 (by simp) ?_); intro v' w1 hown1 hgrow hnil hat; clear hnil) | fail)
    rw [Nat.zero_add, List.nil_append] at hown1
    have hbW : Below w.heap.size w w1 := ⟨hgrow.os, hgrow.tape, hgrow.output, Nat.le_trans (by simp) hgrow.size, fun k hk => (hgrow.block k (by simp; omega) (by simp [Value.ownBlock]; omega)).trans (Below.heap_alloc _ _ _ hk)⟩
    have HX := Lib.hid (And.intro hown1 (And.intro hbW hat))
    clear hown1 hgrow hat hbW
    go_wp2_with fail
    go_ret
    obtain ⟨hown1, hbW, hat⟩ := HX.out
    refine ⟨v', rfl, ⟨hown1.1, ?_⟩, hbW, fun k hk => (World.ownsRow.lt hown1 k hk).1⟩
    rcases hown1.2 with hn | ⟨g2, cap2, cur2, e2, hb2, rest⟩
    · exact .inl hn
    · exact .inr ⟨g2, cap2, cur2, e2, Nat.le_trans hP hb2, rest⟩
theorem clone_form (P : Nat) (oa : Option Addr) (c : Nat) (l : List U) (w : World) (h : w.ownsRow P 65 3 (.slice oa l.length c) l.length (rows l)) (hl : l.length ≤ 65536) (hP : P ≤ w.heap.size) :
    Calls Try.prog 34 #[.slice oa l.length c] w fun e w' => ∃ ob d, e = .returned (.slice ob l.length d) ∧ w'.ownsRow P 65 3 (.slice ob l.length d) l.length (rows l) ∧ Below w.heap.size w w' ∧ ∀ k, (Value.slice ob l.length d).ownBlock = some k → w.heap.size ≤ k := by
  refine (clone_any P _ l w h hl hP).mono ?_
  rintro e w' ⟨v', rfl, h1, h2, h3⟩
  have : ∃ ob d, v' = .slice ob l.length d := by
    rcases h1.2 with ⟨rfl, e⟩ | ⟨g, cap, cur, rfl, -⟩
    · exact ⟨none, 0, by rw [e]⟩
    · exact ⟨_, cap, rfl⟩
  obtain ⟨ob, d, rfl⟩ := this
  exact ⟨ob, d, rfl, h1, h2, h3⟩
/-- A copy: a net of its own, that lies apart. -/
def Copied (P : Nat) (n : N) (w : World) (e : Ending) (w' : World) : Prop :=
  ∃ C u, e = .returned (.pointer (some ⟨C, 0, none⟩)) ∧ Nt P C u n w' ∧ Below w.heap.size w w' ∧ w.heap.size ≤ C ∧ ∀ k, u.ownBlock = some k → w.heap.size ≤ k
set_option maxRecDepth 100000 in
set_option maxHeartbeats 1000000 in
theorem copy_any (P B : Nat) (v : Value) (n : N) (w : World) (h : Nt P B v n w) :
    Calls Try.prog 19 #[.pointer (some ⟨B, 0, none⟩)] w (Copied P n w) := by
  obtain ⟨c0, c1⟩ := h.reads
  have hlt := h.lt
  have hPw : P ≤ w.heap.size := Nat.le_trans h.pB (by omega)
  have hll : n.l.length ≤ 65536 := by have := h.ok.le; have := h.ok.m2; omega
  obtain ⟨oa, vc, rfl⟩ := h.len_form
  have hrow : w.drew.ownsRow P 65 3 (.slice oa n.l.length vc) n.l.length (rows n.l) := h.row
  have hPd : P ≤ w.drew.heap.size := hPw
  have HH := Lib.hid (And.intro h hPw)
  clear h
  go_enter Try.func19, Try.ntmps19
  go_wp2_with fail
  go_region_held3 (fun x => x.cell? ⟨B, 0, none⟩ = some (.int .i64 n.max) ∧ x.cell? ⟨B, 1, none⟩ = some (.slice oa n.l.length vc)) (go_keep)
    ((go_at_call 34; (with_reducible refine (clone_form P oa vc n.l _ hrow hll hPd).mono ?_); rintro e w1 ⟨ob, d, rfl, hu, hb1, hown⟩; have c0 := (hb1.cell (p := ⟨B, 0, none⟩) hlt).trans c0; have c1 := (hb1.cell (p := ⟨B, 1, none⟩) hlt).trans c1; have HX := Lib.hid (And.intro hu (And.intro hb1 hown)); clear hu hb1 hown))
  go_wp2_with fail
  go_ret
  obtain ⟨hu, hb1, hown⟩ := HX.out
  obtain ⟨h, -⟩ := HH.out
  have hs1 : w.heap.size ≤ w1.heap.size := hb1.size
  have hbW : Below w.heap.size w w1 := ⟨hb1.os, hb1.tape, hb1.output, hb1.size, hb1.block⟩
  refine ⟨w1.heap.size, .slice ob n.l.length d, rfl, ⟨heap_alloc_new _ _, hu.alloc _, fun e => ?_, h.ok, by omega⟩, hbW.alloc hs1 _, hs1, hown⟩
  have := (World.ownsRow.lt hu _ e).2
  omega
theorem copy_nil (w : World) : Calls Try.prog 19 #[.pointer none] w fun e w' => e = .returned (.pointer none) ∧ w' = w := by
  go_enter Try.func19, Try.ntmps19
  go_wp2
  go_ret
  exact ⟨rfl, rfl⟩
/-! ### Nets of the call's own -/
/-- A net of the call's own. -/
structure Hs (B : Nat) (v : Value) (n : N) (W w : World) : Prop where
  nt : Nt W.heap.size B v n w
  small : n.Small
  below : Below W.heap.size W w
section
variable {B C : Nat} {v v' : Value} {n n' m : N} {W w w' : World}
theorem Turn.below {P : Nat} (h : Turn B v v' w w') (hB : P ≤ B) (hv : ∀ k, v.ownBlock = some k → P ≤ k) (hP : P ≤ w.heap.size) : Below P w w' :=
  ⟨h.os, h.tape, h.output, h.size, fun k hk => h.block k (by omega) (by omega) (fun e => by have := hv k e; omega)⟩
theorem Hs.turn (h : Hs B v n W w) (hn : Nt W.heap.size B v' n' w') (hT : Turn B v v' w w') (hs : n'.Small) : Hs B v' n' W w' :=
  ⟨hn, hs, h.below.trans (hT.below h.nt.pB (fun k hk => (h.nt.vlt k hk).1) h.below.size)⟩
theorem Hs.kept (h : Hs B v n W w) (hb : Below w.heap.size w w') : Hs B v n W w' := ⟨h.nt.kept hb, h.small, then_below h.below hb⟩
theorem Hs.alloc (h : Hs B v n W w) (o : Obj) : Hs B v n W (w.alloc o) := h.kept ((Below.refl _ _).alloc (Nat.le_refl _) _)
theorem Hs.drew (h : Hs B v n W w) : Hs B v n W w.drew := ⟨h.nt.drew, h.small, ⟨h.below.os, h.below.tape, h.below.output, h.below.size, h.below.block⟩⟩
theorem Hs.drewN (h : Hs B v n W w) (k : Nat) : Hs B v n W (w.drewN k) := ⟨h.nt.drewN k, h.small, ⟨h.below.os, h.below.tape, h.below.output, h.below.size, h.below.block⟩⟩
/-- What a call makes of it. -/
def Now (B : Nat) (v : Value) (n' : N) (W w w' : World) : Prop := ∃ v', Hs B v' n' W w' ∧ Turn B v v' w w'
theorem Hs.now (h : Hs B v n W w) (hs : n'.Small) (hd : Did W.heap.size B v n' w w') : Now B v n' W w w' := by
  obtain ⟨v', hN, hT⟩ := hd
  exact ⟨v', h.turn hN hT hs, hT⟩
theorem send_of (s : ByteArray) (d : Int) (h : Hs B v n W w) (hs : s.size ≤ 100000) :
    Calls Try.prog 12 #[.pointer (some ⟨B, 0, none⟩), .string s, .int .i64 d] w fun e w' => e = .returned (.bool n.full) ∧ Now B v (n.push ⟨s, d, false⟩) W w w' :=
  (send_any _ B v n s d w h.nt).mono fun e w' ⟨he, hd⟩ => ⟨he, h.now (h.small.push _ hs) hd⟩
theorem give_of (k : Int) (h : Hs B v n W w) :
    Calls Try.prog 13 #[.pointer (some ⟨B, 0, none⟩), .int .i64 k] w fun e w' => e = .returned (.tuple #[.string (n.get k).s, .int .i64 (n.get k).to, .int .i64 (n.noneE k)]) ∧ Now B v (n.lose k) W w w' :=
  (give_any _ B v n k w h.nt).mono fun e w' ⟨he, hd⟩ => ⟨he, h.now (h.small.lose _) hd⟩
theorem lose_of (k : Int) (h : Hs B v n W w) :
    Calls Try.prog 14 #[.pointer (some ⟨B, 0, none⟩), .int .i64 k] w fun e w' => e = .returned (.int .i64 (n.noneE k)) ∧ Now B v (n.lose k) W w w' :=
  (lose_any _ B v n k w h.nt).mono fun e w' ⟨he, hd⟩ => ⟨he, h.now (h.small.lose _) hd⟩
theorem twice_of (k : Int) (h : Hs B v n W w) :
    Calls Try.prog 16 #[.pointer (some ⟨B, 0, none⟩), .int .i64 k] w fun e w' => e = .returned (.int .i64 (n.noneE k)) ∧ Now B v (n.twice k) W w w' :=
  (twice_any _ B v n k w h.nt).mono fun e w' ⟨he, hd⟩ => ⟨he, h.now (h.small.twice _) hd⟩
theorem bend_of (k a : Int) (x : BitVec 32) (h : Hs B v n W w) (ha0 : -9223372036854775808 ≤ a) (ha1 : a ≤ 9223372036854775807) :
    Calls Try.prog 17 #[.pointer (some ⟨B, 0, none⟩), .int .i64 k, .int .i64 a, .int .u32 (u x)] w fun e w' => e = .returned (.int .i64 (n.bendE k)) ∧ Now B v (n.bend k a x) W w w' :=
  (bendn_any _ B v n k a x w h.nt h.small ha0 ha1).mono fun e w' ⟨he, hd⟩ => ⟨he, h.now (h.small.bend _ _ _) hd⟩
theorem at_of (k : Int) (h : Hs B v n W w) :
    Calls Try.prog 15 #[.pointer (some ⟨B, 0, none⟩), .int .i64 k] w fun e w' => e = .returned (.tuple #[.string (n.get k).s, .int .i64 (n.get k).to, .bool (n.has k)]) ∧ Hs B v n W w' ∧ Below w.heap.size w w' :=
  (at_any _ B v n k w h.nt).mono fun e w' ⟨he, hb⟩ => ⟨he, h.kept hb, hb⟩
theorem len_of (h : Hs B v n W w) : Calls Try.prog 11 #[.pointer (some ⟨B, 0, none⟩)] w fun e w' => e = .returned (.int .i64 n.l.length) ∧ w' = w := len_any _ B v n w h.nt
theorem new_of (m : Int) (hb : Below W.heap.size W w) (h1 : 1 ≤ m) (h2 : m ≤ 65536) :
    Calls Try.prog 10 #[.int .i64 m] w fun e w' => e = .returned (.tuple #[.pointer (some ⟨w.heap.size, 0, none⟩), .int .i64 0]) ∧ Hs w.heap.size (.slice none 0 0) ⟨m, []⟩ W w' ∧ Below w.heap.size w w' :=
  (new_yes W.heap.size m w h1 h2 hb.size).mono fun e w' ⟨he, hn, hb'⟩ => ⟨he, ⟨hn, fun u hu => by simp at hu, then_below hb hb'⟩, hb'⟩
end
/-- The helper of the laws: is that the frame at a place? -/
theorem is_at (P B : Nat) (v : Value) (n : N) (k : Int) (s : ByteArray) (d : Int) (w : World) (h : Nt P B v n w) :
    Calls Try.prog 18 #[.pointer (some ⟨B, 0, none⟩), .int .i64 k, .string s, .int .i64 d] w fun e w' => e = .returned (.bool (n.has k && ((n.get k).s.toList == s.toList) && ((n.get k).to == d))) ∧ Below w.heap.size w w' := by
  go_enter Try.func18, Try.ntmps18
  go_wp2_with fail
  refine (at_any P B v n k w h).mono ?_
  rintro e w1 ⟨rfl, hb⟩
  obtain ⟨gs, hgs⟩ : ∃ gs, gs = (n.get k).s := ⟨_, rfl⟩
  obtain ⟨gt, hgt⟩ : ∃ gt, gt = (n.get k).to := ⟨_, rfl⟩
  obtain ⟨gh, hgh⟩ : ∃ gh, gh = n.has k := ⟨_, rfl⟩
  rw [← hgs, ← hgt, ← hgh]
  have HG := Lib.hid (And.intro hgs (And.intro hgt hgh))
  clear hgs hgt hgh
  cases gh
  · go_wp2_with fail
    go_ret
    refine ⟨ret_b ?_, hb⟩
    rw [← HG.out.2.2]; rfl
  · go_wp2_with fail
    all_goals
      go_ret
      refine ⟨ret_b ?_, hb⟩
      rw [← HG.out.2.2, ← HG.out.1, ← HG.out.2.1]
      rename_i hq
      simp [hq]
theorem is_at_yes (P B : Nat) (v : Value) (n : N) (k : Int) (s : ByteArray) (d : Int) (w : World) (h : Nt P B v n w) (h1 : n.has k = true) (h2 : (n.get k).s = s) (h3 : (n.get k).to = d) :
    Calls Try.prog 18 #[.pointer (some ⟨B, 0, none⟩), .int .i64 k, .string s, .int .i64 d] w fun e w' => e = .returned (.bool true) ∧ Below w.heap.size w w' := by
  have := is_at P B v n k s d w h
  rw [h1, h2, h3] at this
  simpa using this
end Go.Proofs.Ytialfpmfiapepaa
