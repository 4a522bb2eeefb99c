/-
  The walk of what copies all that wait, by a contract of own.
-/
import Derived.Test.YtjdhdmljchnidaaPut
namespace Go.Proofs.Ytjdhdmljchnidaa
open Go.RowKit
set_option linter.unusedVariables false
set_option linter.unusedSimpArgs false
attribute [local go_sem ↓] Go.wp_at_zero Go.wp_at_succ
theorem row_tag {base size : Nat} {t : TypeId} {v : Value} {n : Nat} {xs : List Value} {w : World} (h : w.ownsRow base t size v n xs) : ∀ j, v.ownBlock = some j → ∃ cur : Array Value, w.heap[j]? = some (.cells cur t (0, 0)) := by
  intro j hj
  rcases h.2 with ⟨hq, -⟩ | ⟨g, cap, cur, rfl, -, hg, -⟩
  · rw [hq] at hj; cases hj
  · have e : g = j := by simpa [Value.ownBlock] using hj
    subst e
    exact ⟨cur, hg⟩
/-- What the copies of the first k are, till here: v holds them. -/
structure Each (P B : Nat) (v0 : Value) (n : N) (w : World) (I : Nat → List Fr → Value → World → Prop) (J : Nat → List Fr → Value → Fr → World → Prop) : Prop where
  start : I 0 [] (.slice none 0 0) w
  kept : ∀ k out v a b, I k out v a → Below a.heap.size a b → I k out v b
  own : ∀ k out v a, (hk : k < n.l.length) → Below w.heap.size w a → I k out v a → (∀ j, v.ownBlock = some j → w.heap.size ≤ j ∧ j < a.heap.size) → Calls Try.prog 31 #[n.l[k].val] a fun e b => ∃ f' : Fr, e = .returned f'.val ∧ Below a.heap.size a b ∧ J k out v f' b
  more : ∀ k out v v' f' b b', J k out v f' b → (b.alloc (.cells f'.cells 38)).grownBy b' v.ownBlock → (∀ j, v.ownBlock = some j → w.heap.size ≤ j ∧ j < b.heap.size) → (∀ j, v'.ownBlock = some j → v.ownBlock = some j ∨ b.heap.size < j) → (∀ j, v.ownBlock = some j → ∃ cur : Array Value, b.heap[j]? = some (.cells cur 38 (0, 0))) → I (k + 1) (out ++ [f']) v' b'
/-- What comes out. -/
def EachOut (n : N) (w : World) (I : Nat → List Fr → Value → World → Prop) (e : Ending) (w' : World) : Prop :=
  ∃ oa cap out, e = .returned (.slice oa out.length cap) ∧ out.length = n.l.length ∧ w'.ownsRow w.heap.size 38 14 (.slice oa out.length cap) out.length (rows out) ∧ Below w.heap.size w w' ∧ I n.l.length out (.slice oa out.length cap) w'
set_option maxRecDepth 100000 in
set_option maxHeartbeats 4000000 in
theorem each_any (P B : Nat) (oa : Option Addr) (cap : Nat) (n : N) (w : World) (I : Nat → List Fr → Value → World → Prop) (J : Nat → List Fr → Value → Fr → World → Prop) (h : Nt P B (.slice oa n.l.length cap) n w) (hE : Each P B (.slice oa n.l.length cap) n w I J) :
    Calls Try.prog 33 #[.slice oa n.l.length cap, .func (.func 31) #[] #[]] w (EachOut n w I) := by
  obtain ⟨i0, hi0, hz0, hz1, hz2⟩ := info_parts info38
  have hle := h.ok.le
  have hm2 := h.ok.m2
  have H0 := Lib.hid h
  go_enter Try.func33, Try.ntmps33
  go_wp2_with fail
  go_loopw [5, 7, 10] (fun v _ i wr => ∃ (k : Nat) (out : List Fr) (ob : Option Addr) (cb : Nat), k ≤ n.l.length ∧ i = .int .i64 k ∧ v = .slice ob k cb ∧ out.length = k ∧ Nt P B (.slice oa n.l.length cap) n wr ∧ Below w.heap.size w wr ∧ Hid (wr.ownsRow w.heap.size 38 14 (.slice ob k cb) k (rows out)) ∧ Hid (I k out (.slice ob k cb) wr)) (fun _ _ i _ => n.l.length - (intOf i).toNat)
  case atStart => exact ⟨0, [], none, 0, by omega, rfl, rfl, rfl, h, Below.refl _ _, Lib.hid (World.ownsRow_nil _ _ _ _), Lib.hid hE.start⟩
  case round =>
    clear h
    obtain ⟨k, out, ob, cb, hk, rfl, rfl, hok, h, hbel, HR, HI⟩ := hrel
    by_cases hlt : k < n.l.length
    · rcases h.shape with ⟨-, e⟩ | ⟨g, cap', he, -⟩
      · rw [e] at hlt; simp at hlt
      · simp only [Value.slice.injEq] at he
        obtain ⟨rfl, -, rfl⟩ := he
        obtain ⟨x0, x1, x2, x3, x4, x5, x6, x7, x8, x9, x10, x11, x12, x13⟩ := h.at_ k hlt
        have HH := Lib.hid h
        clear h
        obtain ⟨f, hf⟩ : ∃ f, f = n.l[k] := ⟨_, rfl⟩
        rw [← hf] at x0 x1 x2 x3 x4 x5 x6 x7 x8 x9 x10 x11 x12 x13
        have hown := fun a hb hI hv => hE.own k out (.slice ob k cb) a hlt hb hI hv
        rw [← hf] at hown
        clear hf
        obtain ⟨ok, ofa, ofi, ota, oti, ofn, otk, oba, obi, ⟨ga1, gn1, gc1⟩, ⟨ga2, gn2, gc2⟩, ⟨ga3, gn3, gc3⟩, ⟨ga4, gn4, gc4⟩, ⟨ga5, gn5, gc5⟩⟩ := f
        simp only at x0 x1 x2 x3 x4 x5 x6 x7 x8 x9 x10 x11 x12 x13
        simp only [Fr.val, Fr.cells] at hown
        have hbA : Below wr.heap.size wr (wr.alloc (.cells #[.int .u8 ok, .int .i64 ofa, .int .i64 ofi, .int .i64 ota, .int .i64 oti, .int .i64 ofn, .int .i64 otk, .int .i64 oba, .int .i64 obi, .slice ga1 gn1 gc1, .slice ga2 gn2 gc2, .slice ga3 gn3 gc3, .slice ga4 gn4 gc4, .slice ga5 gn5 gc5] 38)) := (Below.refl _ _).alloc (Nat.le_refl _) _
        have HO := Lib.hid (hown (wr.alloc (.cells #[.int .u8 ok, .int .i64 ofa, .int .i64 ofi, .int .i64 ota, .int .i64 oti, .int .i64 ofn, .int .i64 otk, .int .i64 oba, .int .i64 obi, .slice ga1 gn1 gc1, .slice ga2 gn2 gc2, .slice ga3 gn3 gc3, .slice ga4 gn4 gc4, .slice ga5 gn5 gc5] 38)) (hbel.trans (hbA.mono hbel.size)) (hE.kept _ _ _ _ _ HI.out hbA) (fun j hj => ⟨(World.ownsRow.lt HR.out j hj).1, Nat.lt_of_lt_of_le (World.ownsRow.lt HR.out j hj).2 hbA.size⟩))
        clear hown
        go_wp2_with fail
        refine HO.out.mono ?_
        rintro e w1 ⟨f2, rfl, hb, hJ⟩
        simp only [Fr.val, Fr.cells]
        have hb1 := hbA.trans (hb.mono hbA.size)
        have hN1 := HH.out.kept hb1
        have hbel1 := hbel.trans (hb1.mono hbel.size)
        have HJ := Lib.hid hJ
        have hrow : (w1.alloc (.cells #[.int .u8 f2.kind, .int .i64 f2.fa, .int .i64 f2.fi, .int .i64 f2.ta, .int .i64 f2.ti, .int .i64 f2.n, .int .i64 f2.token, .int .i64 f2.ba, .int .i64 f2.bi, .slice f2.ms.a f2.ms.n f2.ms.c, .slice f2.fs.a f2.fs.n f2.fs.c, .slice f2.rs.a f2.rs.n f2.rs.c, .slice f2.cs.a f2.cs.n f2.cs.c, .slice f2.ss.a f2.ss.n f2.ss.c] 38)).ownsRow w.heap.size 38 14 (.slice ob k cb) k (rows out) :=
          World.ownsRow.kept HR.out (row := none) ⟨(hb1.alloc hb1.size _).os, (hb1.alloc hb1.size _).tape, (hb1.alloc hb1.size _).output, (hb1.alloc hb1.size _).size, fun i hi _ => (hb1.alloc hb1.size _).block i hi⟩ (by cases (Value.slice ob k cb).ownBlock <;> simp)
        have hn1 : k + 1 ≤ maxLen := by unfold maxLen; omega
        have hn2 : (k + 1) * 192 ≤ 140737488355328 := by omega
        have hP1 : w.heap.size ≤ (w1.alloc (.cells #[.int .u8 f2.kind, .int .i64 f2.fa, .int .i64 f2.fi, .int .i64 f2.ta, .int .i64 f2.ti, .int .i64 f2.n, .int .i64 f2.token, .int .i64 f2.ba, .int .i64 f2.bi, .slice f2.ms.a f2.ms.n f2.ms.c, .slice f2.fs.a f2.fs.n f2.fs.c, .slice f2.rs.a f2.rs.n f2.rs.c, .slice f2.cs.a f2.cs.n f2.cs.c, .slice f2.ss.a f2.ss.n f2.ss.c] 38)).heap.size := Nat.le_trans hbel1.size (by simp)
        have HROW := Lib.hid hrow
        clear hrow hb hJ hbA x0 x1 x2 x3 x4 x5 x6 x7 x8 x9 x10 x11 x12 x13
        go_wp2_with (first | (at_builtin; (refine wpList_append_lies _ rfl _ _ 45 rfl w.heap.size 38 i0 _ 14 192 Try.underlying45 hi0 hz0 hz1 hz2 rfl (by decide) (.slice ob k cb) k (rows out) rfl HROW.out ⟨w1.heap.size, 0, none⟩ 1 1 [.int .u8 f2.kind, .int .i64 f2.fa, .int .i64 f2.fi, .int .i64 f2.ta, .int .i64 f2.ti, .int .i64 f2.n, .int .i64 f2.token, .int .i64 f2.ba, .int .i64 f2.bi, .slice f2.ms.a f2.ms.n f2.ms.c, .slice f2.fs.a f2.fs.n f2.fs.c, .slice f2.rs.a f2.rs.n f2.rs.c, .slice f2.cs.a f2.cs.n f2.cs.c, .slice f2.ss.a f2.ss.n f2.ss.c] rfl rfl (World.news_of_block (cs := #[.int .u8 f2.kind, .int .i64 f2.fa, .int .i64 f2.fi, .int .i64 f2.ta, .int .i64 f2.ti, .int .i64 f2.n, .int .i64 f2.token, .int .i64 f2.ba, .int .i64 f2.bi, .slice f2.ms.a f2.ms.n f2.ms.c, .slice f2.fs.a f2.fs.n f2.fs.c, .slice f2.rs.a f2.rs.n f2.rs.c, .slice f2.cs.a f2.cs.n f2.cs.c, .slice f2.ss.a f2.ss.n f2.ss.c]) (t := 38) (fr := (0, 0)) (hnb _ _)) f2.one (by decide) hn1 hn2 hP1 (w1.heap.size + 1) (by simp) ?_); intro gg cap3 w3 hown1 hgrow hat hl1) | fail)
        have hvlt := World.ownsRow.lt HROW.out
        have hvlt1 : ∀ j, (Value.slice ob k cb).ownBlock = some j → w.heap.size ≤ j ∧ j < w1.heap.size := fun j hj => ⟨(hvlt j hj).1, Nat.lt_of_lt_of_le (World.ownsRow.lt HR.out j hj).2 hb1.size⟩
        have hI2 := hE.more k out _ (.slice (some ⟨gg, 0, none⟩) (k + 1) cap3) f2 w1 w3 HJ.out hgrow hvlt1 (fun j hj => by
          have e : gg = j := by simpa [Value.ownBlock] using hj
          subst e
          rcases hat with e | e
          · exact .inl e
          · exact .inr (by omega)) (fun j hj => by
          obtain ⟨cur, hc⟩ := row_tag HR.out j hj
          exact ⟨cur, (hb1.block j (World.ownsRow.lt HR.out j hj).2).trans hc⟩)
        have hbel3 : Below w.heap.size w w3 := hbel1.trans ⟨hgrow.os, hgrow.tape, hgrow.output, Nat.le_trans (by simp) hgrow.size, fun i hi => (hgrow.block i (Nat.lt_of_lt_of_le hi hP1) (fun e => by have := (hvlt i e.symm).1; omega)).trans (Below.heap_alloc _ _ _ (Nat.lt_of_lt_of_le hi hbel1.size))⟩
        have hN3 := H0.out.kept hbel3
        have hR3 : Hid (w3.ownsRow w.heap.size 38 14 (.slice (some ⟨gg, 0, none⟩) (k + 1) cap3) (k + 1) (rows (out ++ [f2]))) := Lib.hid (by rw [show rows (out ++ [f2]) = rows out ++ f2.cells.toList by simp [rows_append, rows]]; exact hown1)
        have hI3 := Lib.hid hI2
        have hok3 : (out ++ [f2]).length = k + 1 := by simp [hok]
        clear hown1 hgrow hat hl1 hI2 hvlt hvlt1 hn1 hn2 hP1 hb1 hN1 hbel1
        go_wp2_with fail
        go_roundw
        case rel => exact ⟨k + 1, out ++ [f2], some ⟨gg, 0, none⟩, cap3, by omega, by go_num, rfl, hok3, hN3, hbel3, hR3, hI3⟩
        case measure => simp only [intOf]; omega
    · obtain rfl : k = n.l.length := by omega
      go_wp2_with fail
      go_ret
      exact ⟨ob, cb, out, by rw [hok]; rfl, hok, by rw [hok]; exact HR.out, hbel, by rw [hok]; exact HI.out⟩
end Go.Proofs.Ytjdhdmljchnidaa
