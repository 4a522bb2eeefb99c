/-
  What a step does to a box; lists of frames that a call keeps.
-/
import Derived.Test.YtjdhdmljchnidaaBox
import Derived.Test.YtjdhdmljchnidaaFrames
namespace Go.Proofs.Ytjdhdmljchnidaa
open Go.RowKit
set_option linter.unusedVariables false
set_option linter.unusedSimpArgs false
attribute [local go_sem ↓] Go.wp_at_zero Go.wp_at_succ
/-! ### In plain words -/
def putT (m : Int) (ds : List Dat) (d : Dat) : List Dat := if (ds.length : Int) = m then (match ds.findIdx? Dat.known with | none => ds | some p => ds.eraseIdx p ++ [d]) else ds ++ [d]
def outT (m : Int) (ds : List Dat) (d : Dat) : Dat := if (ds.length : Int) = m then (match ds.findIdx? Dat.known with | none => d | some p => ds.getD p .zero) else .zero
def stepT (m : Int) (ds : List Dat) (s : St) : List Dat := if s.kind = 0 then putT m ds s.x.dat else if s.kind = 1 then ds.tail else []
def runT (m : Int) (ds : List Dat) (l : List St) : List Dat := l.foldl (stepT m) ds
theorem runT_succ (m : Int) (ds : List Dat) (l : List St) (k : Nat) (h : k < l.length) : runT m ds (l.take (k + 1)) = stepT m (runT m ds (l.take k)) l[k] := by
  unfold runT
  rw [List.take_succ_eq_append_getElem h, List.foldl_append]
  rfl
theorem firstX_map (xs : List X) : firstX xs = (xs.map (·.d)).findIdx? Dat.known := by
  unfold firstX
  rw [List.findIdx?_map]
  rfl
theorem Bx.full {P base B : Nat} {xs : List X} {n : N} {w : World} (h : Bx P base xs n.l w) : n.full = decide ((xs.length : Int) = n.max) := by
  unfold N.full
  rw [h.len]
theorem putX_map (m : Int) (xs : List X) (x : X) : (putX (decide ((xs.length : Int) = m)) xs x).map (·.d) = putT m (xs.map (·.d)) x.d := by
  unfold putX putT
  rw [firstX_map]
  simp only [List.length_map, decide_eq_true_eq]
  split
  · cases (xs.map (·.d)).findIdx? Dat.known with
    | none => rfl
    | some p => simp [List.eraseIdx_eq_take_drop_succ, List.map_take, List.map_drop]
  · simp
theorem outX_map (m : Int) (xs : List X) (d : Dat) : outX (decide ((xs.length : Int) = m)) xs d = outT m (xs.map (·.d)) d := by
  unfold outX outT
  rw [firstX_map]
  simp only [List.length_map, decide_eq_true_eq]
  split
  · cases (xs.map (·.d)).findIdx? Dat.known with
    | none => rfl
    | some p => rfl
  · rfl
/-! ### One step -/
def DoD (P B : Nat) (v : Value) (n : N) (xs : List X) (s : St) (w : World) (e : Ending) (w' : World) : Prop :=
  ∃ (v2 : Value) (n' : N) (xs' : List X), e = .returned (.tuple #[]) ∧ Turn B v v2 w w' ∧ Nt P B v2 n' w' ∧ Bx P P xs' n'.l w' ∧ n'.max = n.max ∧ xs'.map (·.d) = stepT n.max (xs.map (·.d)) s
theorem N.put_max (n : N) (f : Fr) : (n.put f).max = n.max := by
  unfold N.put
  split
  · split <;> rfl
  · rfl
set_option maxRecDepth 100000 in
set_option maxHeartbeats 4000000 in
theorem do_any (P B : Nat) (v : Value) (n : N) (xs : List X) (s : St) (w : World) (hN : Nt P B v n w) (hX : Bx P P xs n.l w) (hs : s.x.Ok P w) (hsm : s.x.Small) (hP : P ≤ w.heap.size) :
    Calls Try.prog 28 #[.pointer (some ⟨B, 0, none⟩), .agg #[.int .u8 s.kind, .int .u8 s.x.f.kind, .int .i64 s.x.f.fa, .int .i64 s.x.f.fi, .int .i64 s.x.f.ta, .int .i64 s.x.f.ti, .int .i64 s.x.f.n, .int .i64 s.x.f.token, .int .i64 s.x.f.ba, .int .i64 s.x.f.bi, .slice s.x.f.ms.a s.x.f.ms.n s.x.f.ms.c, .slice s.x.f.fs.a s.x.f.fs.n s.x.f.fs.c, .slice s.x.f.rs.a s.x.f.rs.n s.x.f.rs.c, .slice s.x.f.cs.a s.x.f.cs.n s.x.f.cs.c, .slice s.x.f.ss.a s.x.f.ss.n s.x.f.ss.c]] w (DoD P B v n xs s w) := by
  obtain ⟨k, x⟩ := s
  simp only at hs hsm
  obtain ⟨f, hf⟩ : ∃ f, f = x.f := ⟨_, rfl⟩
  have hD := hs.deep hsm
  have HE : Hid (∀ ds, stepT n.max ds ⟨k, x⟩ = if k = 0 then putT n.max ds x.dat else if k = 1 then ds.tail else []) := Lib.hid (fun _ => rfl)
  simp only
  rw [← hf] at hD ⊢
  generalize x.dat = d at hD HE
  clear hs hsm hf
  have hbA : Below w.heap.size w (w.alloc (.cells #[.int .u8 k, .int .u8 f.kind, .int .i64 f.fa, .int .i64 f.fi, .int .i64 f.ta, .int .i64 f.ti, .int .i64 f.n, .int .i64 f.token, .int .i64 f.ba, .int .i64 f.bi, .slice f.ms.a f.ms.n f.ms.c, .slice f.fs.a f.fs.n f.fs.c, .slice f.rs.a f.rs.n f.rs.c, .slice f.cs.a f.cs.n f.cs.c, .slice f.ss.a f.ss.n f.ss.c] 51)) := (Below.refl _ _).alloc (Nat.le_refl _) _
  have hH := Lib.hid (And.intro (hN.kept hbA) (And.intro (hX.below hbA) (And.intro (hD.below hbA) (And.intro hN hX))))
  have hPA : P ≤ (w.alloc (.cells #[.int .u8 k, .int .u8 f.kind, .int .i64 f.fa, .int .i64 f.fi, .int .i64 f.ta, .int .i64 f.ti, .int .i64 f.n, .int .i64 f.token, .int .i64 f.ba, .int .i64 f.bi, .slice f.ms.a f.ms.n f.ms.c, .slice f.fs.a f.fs.n f.fs.c, .slice f.rs.a f.rs.n f.rs.c, .slice f.cs.a f.cs.n f.cs.c, .slice f.ss.a f.ss.n f.ss.c] 51)).heap.size := Nat.le_trans hP hbA.size
  have HB := Lib.hid hbA
  clear hN hX hD hbA
  by_cases h0 : k = 0
  · subst h0
    go_enter Try.func28, Try.ntmps28
    go_wp2_with fail
    refine (put_deep P B v n xs d f _ hH.out.1 hH.out.2.1 hH.out.2.2.1 hPA).mono ?_
    rintro e w1 ⟨f', v2, a, b, lo2, hi2, rfl, hT, hN, hX, -⟩
    go_wp2_with fail
    go_end0
    refine ⟨v2, n.put f', _, rfl, (Turn.of_below HB.out).trans hT, hN, hX, N.put_max _ _, ?_⟩
    rw [Bx.full (B := B) hH.out.2.1, putX_map, HE.out]
    rfl
  · by_cases h1 : k = 1
    · subst h1
      go_enter Try.func28, Try.ntmps28
      go_wp2_with fail
      refine (take_deep P B v n xs _ hH.out.1 hH.out.2.1).mono ?_
      rintro e w1 ⟨v2, lo2, hi2, rfl, hT, hN, hX, -⟩
      go_wp2_with fail
      go_end0
      refine ⟨v2, n.take, _, rfl, (Turn.of_below HB.out).trans hT, hN, hX, rfl, ?_⟩
      rw [HE.out, List.map_tail]
      rfl
    · go_enter Try.func28, Try.ntmps28
      go_wp2_with fail
      refine (clear_any P B v n _ hH.out.1).mono ?_
      rintro e w1 ⟨rfl, hT, hN⟩
      go_wp2_with fail
      go_end0
      refine ⟨_, _, [], rfl, (Turn.of_below HB.out).trans hT, hN, Bx.nil _ _ _, rfl, ?_⟩
      rw [HE.out, if_neg h0, if_neg h1]
      rfl
/-! ### Lists that are kept -/
/-- The slice v holds the frames out; these read ys. -/
structure Hl (P base : Nat) (v : Value) (out : List Fr) (ys : List X) (w : World) : Prop where
  row : w.ownsRow base 38 14 v out.length (rows out)
  bx : Bx P base ys out w
  pb : P ≤ base
section
variable {P base B C : Nat} {v v' u : Value} {n m : N} {out : List Fr} {ys : List X} {w w' : World}
theorem Hl.below (h : Hl P base v out ys w) (hb : Below w.heap.size w w') : Hl P base v out ys w' :=
  ⟨World.ownsRow.kept h.row (row := none) ⟨hb.os, hb.tape, hb.output, hb.size, fun k hk _ => hb.block k hk⟩ (by cases v.ownBlock <;> simp), h.bx.below hb, h.pb⟩
theorem Hl.turn (h : Hl P base u out ys w) (hT : Turn B v v' w w') (hN : Nt P B v n w) (ha : ∀ g, u.ownBlock = some g → v.ownBlock ≠ some g) : Hl P base u out ys w' := by
  refine ⟨⟨h.row.1, ?_⟩, h.bx.turn hT hN, h.pb⟩
  rcases h.row.2 with hn | ⟨g, cap, cur, rfl, hb, hgg, rest⟩
  · exact .inl hn
  · refine .inr ⟨g, cap, cur, rfl, hb, ?_, rest⟩
    rw [hT.block g (Array.getElem?_eq_some_iff.1 hgg).1 (fun e => by have hh := hN.here; rw [← e, hgg] at hh; simp at hh) (ha g rfl)]
    exact hgg
theorem Hl.away (h : Hl P base u out ys w) (hT : Turn B v v' w w') (ha : ∀ g, u.ownBlock = some g → v.ownBlock ≠ some g) : ∀ g, u.ownBlock = some g → v'.ownBlock ≠ some g := by
  intro g hg e
  rcases hT.own g e with e | e
  · exact ha g hg e
  · have := (World.ownsRow.lt h.row g hg).2; omega
theorem Hl.frs (h : Hl P base v out ys w) : ∃ (s : SL) (lo hi : Nat), v = s.val ∧ Frs P lo hi s out (ys.map (·.d)) w := by
  have hr := h.row
  rw [← elF_rows] at hr
  obtain ⟨a, c, rfl, hR⟩ := rd_of_row (E := elF) (P := P) hr
  refine ⟨⟨a, out.length, c⟩, base, w.heap.size, rfl, hR, by simp [h.bx.len], fun j h1 h2 => ⟨_, _, by simpa using h.bx.at_ j h1 (by simpa using h2)⟩⟩
end
theorem lists_same {P b1 b2 : Nat} {v1 v2 : Value} {o1 o2 : List Fr} {y1 y2 : List X} {w : World} (h1 : Hl P b1 v1 o1 y1 w) (h2 : Hl P b2 v2 o2 y2 w) (hd : y1.map (·.d) = y2.map (·.d)) (hl : y1.length ≤ 100000) :
    Calls Try.prog 18 #[v1, v2] w fun e w' => e = .returned (.bool true) ∧ Below w.heap.size w w' := by
  obtain ⟨s1, lo1, hi1, rfl, f1⟩ := h1.frs
  obtain ⟨s2, lo2, hi2, rfl, f2⟩ := h2.frs
  rw [← hd] at f2
  exact frames_same s1 s2 o1 o2 _ w f1 f2 (by simpa using hl)
theorem all_hl (P B : Nat) (v : Value) (n : N) (xs : List X) (w : World) (h : Nt P B v n w) (hX : Bx P P xs n.l w) (hP : P ≤ w.heap.size) :
    Calls Try.prog 15 #[.pointer (some ⟨B, 0, none⟩)] w fun e w' => ∃ (oa : Option Addr) (cap len : Nat) (out : List Fr) (ys : List X), e = .returned (.slice oa len cap) ∧ Hid (len = xs.length) ∧ Hid (out.length = len) ∧ Hl P w.heap.size (.slice oa len cap) out ys w' ∧ Below w.heap.size w w' ∧ ys.map (·.d) = xs.map (·.d) := by
  refine (all_deep P B v n xs w h hX hP).mono ?_
  rintro e w' ⟨oa, cap, out, ys, rfl, hr, hb, hY, hd⟩
  have hl : out.length = xs.length := by
    have := congrArg List.length hd
    simp only [List.length_map] at this
    rw [hY.len, this]
  exact ⟨oa, cap, out.length, out, ys, rfl, Lib.hid hl, Lib.hid rfl, ⟨hr, hY, hP⟩, hb, hd⟩
end Go.Proofs.Ytjdhdmljchnidaa
