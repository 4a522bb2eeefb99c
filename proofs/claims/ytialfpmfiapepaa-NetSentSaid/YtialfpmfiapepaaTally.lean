/-
  The law's own map: how often each text was sent to each address.
-/
import Derived.Test.YtialfpmfiapepaaOwn
import Derived.Test.YtialfpmfiapepaaCard
import Derived.Maps.Own
import Derived.Maps.OwnSet
import Derived.DeepKeys4
import Derived.WideKeyEntry
namespace Go.Proofs.Ytialfpmfiapepaa
open Go.RowKit Go.Maps
open Go.ChangeMaps (setBlock heap_setBlock_same heap_setBlock_other)
set_option linter.unusedVariables false
set_option linter.unusedSimpArgs false
def inI64 (a : Int) : Prop := -9223372036854775808 ≤ a ∧ a ≤ 9223372036854775807
theorem wf_of {a : Int} (h : inI64 a) : (Lit.int .i64 a).wf = true := by
  obtain ⟨h1, h2⟩ := h
  simp [Lit.wf, IntKind.min, IntKind.max, IntKind.signed, IntKind.bits]; omega
def KL (s : ByteArray) (d : Int) : Lit := .string (keyBytes [.string s.data.toList, .int .i64 d])
theorem keyOf_one {s : ByteArray} {d : Int} (hs : s.size ≤ 100000) (hd : inI64 d) : keyOf Try.prog 36 (.agg #[.string s, .int .i64 d]) = some (KL s d) := by
  have hkt : Try.prog.keyType 36 = true := by kernel_rfl
  have hc : Try.prog.cellsOf 36 = 2 := by kernel_rfl
  have h9 : Try.prog.cellsOf 9 = 1 := by kernel_rfl
  have h3 : Try.prog.cellsOf 3 = 1 := by kernel_rfl
  have hn : ∃ m, Try.prog.types.size = m + 1 := ⟨Try.prog.types.size - 1, by kernel_rfl⟩
  obtain ⟨m, hm⟩ := hn
  have hs' : s.size ≤ maxLen := by unfold maxLen; omega
  unfold keyOf
  simp only [Try.underlying36]
  rw [if_pos (by simp [hkt, Value.formed, Try.underlying36, hc]), hm]
  unfold Program.keyLits
  simp only [Try.underlying36, Value.cells]
  rw [if_pos (by simp [hc])]
  simp [Program.keyLits, Try.underlying9, Try.underlying3, h9, h3, hs', wf_of hd, KL]
theorem law36 : WideMaps.KeyLaw Try.prog 36 := deep_law_laid (m := 5) Try.laidOut (by decide) (of_decide_eq_true (by kernel_rfl)) (by kernel_rfl) (by simp [Try.underlying36])
theorem keyed36 : Keyed Try.prog 36 := Keyed.of_law law36
theorem zero3 (w : World) : (zeroValue 3).run Try.prog w = .ok (.int .i64 0) w := by kernel_rfl
/-- Nothing but the block M has turned. -/
structure Only (M : Nat) (w w' : World) : Prop where
  os : w'.os = w.os
  tape : w'.tape = w.tape
  output : w'.output = w.output
  size : w.heap.size ≤ w'.heap.size
  block : ∀ k, k < w.heap.size → k ≠ M → w'.heap[k]? = w.heap[k]?
theorem Only.cell {M : Nat} {w w' : World} (h : Only M w w') {p : Addr} (hp : p.block < w.heap.size) (hB : p.block ≠ M) : w'.cell? p = w.cell? p :=
  World.cell?_of_block (h.block _ hp hB)
/-- The map of the block M tells f of the texts and addresses; it was written n times at most. -/
def Tally (M n : Nat) (f : ByteArray → Int → Int) (w : World) : Prop := ∃ D : DataW Unit, w.ownsMap Try.prog 36 (plainElem Try.prog 3) M n D ∧ ∀ s d, s.size ≤ 100000 → inI64 d → D.atKey (KL s d) (.lit (.int .i64 0)) = .lit (.int .i64 (f s d))
def setT (f : ByteArray → Int → Int) (s : ByteArray) (d c : Int) : ByteArray → Int → Int := fun s' d' => if s' = s ∧ d' = d then c else f s' d'
section
variable {M n : Nat} {f : ByteArray → Int → Int} {w w' : World}
theorem Tally.lt (h : Tally M n f w) : M < w.heap.size := by obtain ⟨D, h, -⟩ := h; exact h.lt
theorem Tally.same (h : Tally M n f w) (hb : w'.heap[M]? = w.heap[M]?) : Tally M n f w' := by
  obtain ⟨D, ⟨es, clock, h1, h2⟩, h3⟩ := h
  exact ⟨D, ⟨es, clock, hb.trans h1, h2⟩, h3⟩
theorem Tally.made (w : World) : Tally w.heap.size 0 (fun _ _ => 0) (w.alloc (.map #[] 0)) :=
  ⟨_, World.ownsMap_made _ _ _ _, fun _ _ _ _ => rfl⟩
theorem Tally.look (h : Tally M n f w) {s : ByteArray} {d : Int} (hs : s.size ≤ 100000) (hd : inI64 d) : (Instr.lookup 29 (.map (some M)) (.agg #[.string s, .int .i64 d]) false).run Try.prog w = .ok (.int .i64 (f s d)) w := by
  obtain ⟨D, hD, hf⟩ := h
  obtain ⟨c, hr, hat, -⟩ := hD.lookup_int keyed36 Try.underlying29 Try.underlying3 (zero3 w) (keyOf_one hs hd)
  rw [hf s d hs hd] at hat
  simp only [DataW.lit.injEq, Lit.int.injEq, true_and] at hat
  rw [hr, hat]
theorem KL_inj {s s' : ByteArray} {d d' : Int} (hs : s.size ≤ 100000) (hd : inI64 d) (hs' : s'.size ≤ 100000) (hd' : inI64 d') (h : KL s d = KL s' d') : s = s' ∧ d = d' := by
  have h1 := keyOf_one hs hd
  have h2 := keyOf_one hs' hd'
  rw [← h] at h2
  have := keyed36.inj h1 h2
  simpa using this
theorem entry_w1 {es : Array MapEntry} {clock : Nat} (hb : w.heap[M]? = some (.map es clock)) (F : WideElems.Fit Try.prog 36 (plainElem (H := Unit) Try.prog 3) es clock) {key : Value} {kl : Lit} (hkey : keyOf Try.prog 36 key = some kl) {r : Value} {w1 : World}
    (h : (Instr.mapEntry 29 (.map (some M)) key).run Try.prog w = .ok r w1) :
    w1.heap[M]? = w.heap[M]? ∨ ((∀ x ∈ es.toList, x.key ≠ key) ∧ (Instr.mapUpdate 29 (.map (some M)) key (.int .i64 0)).run Try.prog w = .ok () w1) := by
  rcases law36.find w hkey es.toList F.keys with ⟨h1, h2⟩ | ⟨j, e0, h1, h2, h3⟩
  · refine Or.inr ⟨h2, ?_⟩
    have e1 : (Instr.mapEntry 29 (.map (some M)) key).run Try.prog w = .ok (.tuple #[.int .i64 0, goInt clock]) (setBlock w M (.map (es.push ⟨key, .int .i64 0, clock⟩) (clock + 1))) := by
      simp [Instr.mapEntry, run_underlying Try.underlying29, MapKept.run_getObj_map hb, law36.check w false hkey, h1, zero3, MapKept.run_setObj_map _ hb, Result.andThen, setBlock]
    rw [e1] at h
    obtain ⟨-, rfl⟩ : _ ∧ _ := by simpa using h
    simp [Instr.mapUpdate, run_underlying Try.underlying29, MapKept.run_getObj_map hb, law36.check w false hkey, h1, MapKept.run_setObj_map _ hb, Result.andThen, setBlock]
  · refine Or.inl ?_
    have hj : es[j]? = some e0 := by simpa using h2
    have hsame : es.modify j (fun e => { e with key := key }) = es := by
      apply Array.ext'
      rw [Array.toList_modify, ChangeMaps.modify_eq_set _ _ _ _ h2]
      have : ({ e0 with key := key } : MapEntry) = e0 := by rw [← h3]
      rw [this]
      exact WideElems.set_self _ _ _ h2
    have e1 : (Instr.mapEntry 29 (.map (some M)) key).run Try.prog w = .ok (.tuple #[e0.val, goInt e0.born]) (setBlock w M (.map es clock)) := by
      simp [Instr.mapEntry, run_underlying Try.underlying29, MapKept.run_getObj_map hb, law36.check w false hkey, h1, hj, h3, law36.stays w hkey, hsame, MapKept.run_setObj_map _ hb, Result.andThen, setBlock]
    rw [e1] at h
    obtain ⟨-, rfl⟩ : _ ∧ _ := by simpa using h
    exact (heap_setBlock_same hb _).trans hb.symm
theorem setT_get (f : ByteArray → Int → Int) (s : ByteArray) (d : Int) : setT f s d (f s d) = f := by
  funext a b
  unfold setT
  split
  · rename_i h; obtain ⟨rfl, rfl⟩ := h; rfl
  · rfl
theorem Tally.entry (h : Tally M n f w) (hn : n ≤ 1000000) {s : ByteArray} {d : Int} (hs : s.size ≤ 100000) (hd : inI64 d) {r : Value} {w1 : World}
    (hm : (Instr.mapEntry 29 (.map (some M)) (.agg #[.string s, .int .i64 d])).run Try.prog w = .ok r w1) : Tally M (n + 1) f w1 := by
  have h' := h
  obtain ⟨D, hD, hf⟩ := h
  have hkey := keyOf_one hs hd
  obtain ⟨w', hr, h1, -⟩ := hD.update keyed36 Try.underlying29 (by unfold maxLen; omega) hkey (plainElem_int Try.underlying3 (wf_of (a := 0) ⟨by omega, by omega⟩))
  have hmap := hD.isMap
  obtain ⟨es, clock, hb, F, hsz, hDe⟩ := hD
  rcases entry_w1 hb F hkey hm with e | ⟨habs, hu⟩
  · obtain ⟨D', hD', hf'⟩ := h'.same e
    exact ⟨D', hD'.mono (by omega), hf'⟩
  · rw [hr] at hu
    obtain rfl : w' = w1 := by simpa using hu
    have hz : f s d = 0 := by
      rcases fit_look false keyed36 Try.underlying29 (zero3 w) hb F hkey with ⟨-, -, hat⟩ | ⟨e0, y, hin, hk, -⟩
      · have := hf s d hs hd
        rw [hDe, hat] at this
        simp only [DataW.lit.injEq, Lit.int.injEq, true_and] at this
        exact this.symm
      · exact absurd hk (habs _ hin)
    refine ⟨_, h1, fun s' d' hs' hd' => ?_⟩
    by_cases e : s' = s ∧ d' = d
    · obtain ⟨rfl, rfl⟩ := e
      rw [atKey_put_same hmap (keyed36.key hkey), hz]
    · rw [atKey_put_other (fun e' => e (KL_inj hs' hd' hs hd e')), hf s' d' hs' hd']
theorem Tally.put (h : Tally M n f w) (hn : n ≤ 1000000) {s : ByteArray} {d : Int} (hs : s.size ≤ 100000) (hd : inI64 d) (c : Int) (hc : inI64 c) :
    ∃ (v0 : Value) (st : Int) (w1 w2 : World), (Instr.mapEntry 29 (.map (some M)) (.agg #[.string s, .int .i64 d])).run Try.prog w = .ok (.tuple #[v0, .int .i64 st]) w1 ∧
      (Instr.entryStore 29 (.map (some M)) (.int .i64 st) (.int .i64 c)).run Try.prog w1 = .ok () w2 ∧ Tally M (n + 1) (setT f s d c) w2 ∧ Only M w w1 ∧ Only M w w2 := by
  obtain ⟨D, hD, hf⟩ := h
  have hkey := keyOf_one hs hd
  obtain ⟨w', hr, h1, h2⟩ := hD.update keyed36 Try.underlying29 (by unfold maxLen; omega) hkey (plainElem_int Try.underlying3 (wf_of hc))
  have hmap := hD.isMap
  obtain ⟨es, clock, hb, F, -, -⟩ := hD
  obtain ⟨v0, st, es1, clock1, hm, -, hst⟩ := WideElems.entry_then_store law36 Try.underlying29 zero3 hb F hkey
  obtain ⟨es', clock', hr2, hr3⟩ := hst (setBlock w M (.map es1 clock1)) (.int .i64 c) (heap_setBlock_same hb _)
  rw [hr] at hr3
  obtain rfl : w' = setBlock w M (.map es' clock') := by simpa using hr3
  refine ⟨v0, st, _, _, hm, hr2, ?_, ⟨rfl, rfl, rfl, by simp [setBlock], fun k hk hne => heap_setBlock_other hb _ hne⟩, ⟨rfl, rfl, rfl, by simp [setBlock], fun k hk hne => ?_⟩⟩
  · have hT : Tally M (n + 1) (setT f s d c) (setBlock w M (.map es' clock')) := by
      refine ⟨_, h1, fun s' d' hs' hd' => ?_⟩
      by_cases e : s' = s ∧ d' = d
      · obtain ⟨rfl, rfl⟩ := e
        rw [atKey_put_same hmap (keyed36.key hkey)]
        simp [setT]
      · rw [atKey_put_other (fun e' => e (KL_inj hs' hd' hs hd e')), hf s' d' hs' hd']
        simp [setT, e]
    exact hT.same ((heap_setBlock_same (heap_setBlock_same hb _) _).trans (heap_setBlock_same hb _).symm)
  · rw [heap_setBlock_other (heap_setBlock_same hb _) _ hne, heap_setBlock_other hb _ hne]
end
end Go.Proofs.Ytialfpmfiapepaa
