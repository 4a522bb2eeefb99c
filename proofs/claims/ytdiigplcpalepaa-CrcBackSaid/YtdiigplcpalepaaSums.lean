/-
  The walks of the program's sums: the table, and what goes over it.
-/
import Derived.Test.YtdiigplcpalepaaBase
namespace Go.Proofs.Ytdiigplcpalepaa
open Go.RowKit
open Crc

def zeros : Array Value := Array.replicate 256 (.int .u32 0)
theorem zero38 : (Try.prog.info? 38).map (fun i => (i.zero, i.size)) = some (some (.agg zeros), 256) := by kernel_rfl
theorem zero38run (w : World) : (zeroValue 38).run Try.prog w = .ok (.agg zeros) w := (zero_of_info zero38).1 w
attribute [go_sem] zero38run
theorem size38 : (Try.prog.info? 38).map (·.size) = some 256 := (zero_of_info zero38).2
theorem zeros_size : zeros.size = 256 := by simp [zeros]

/-- The cell of number j as the table has it. -/
def entry (j : Nat) : Value := .int .u32 (u (bsteps 8 (BitVec.ofNat 32 j)))
def tab : Array Value := ((List.range 256).map entry).toArray
theorem tab_size : tab.size = 256 := by simp [tab]
theorem tab_of (cs : Array Value) (hs : cs.size = 256) (h : ∀ j, j < 256 → cs[j]? = some (entry j)) : cs = tab := by
  apply Array.ext_getElem?
  intro i
  by_cases hi : i < 256
  · rw [h i hi]; simp [tab, hi]
  · rw [Array.getElem?_eq_none (by omega), Array.getElem?_eq_none (by rw [tab_size]; omega)]
theorem tab_at (j : Nat) (h : j < 256) : tab[j]? = some (entry j) := by simp [tab, h]
theorem tab_one : tab.all (·.oneCell') = true := by
  simp only [Array.all_eq_true]
  intro i hi
  have h := tab_at i (by rw [tab_size] at hi; exact hi)
  rw [Array.getElem?_eq_getElem hi] at h
  rw [Option.some.inj h]; rfl
/-- The table, as far as it is made. -/
structure Tab (k : Nat) (w wr : World) : Prop where
  below : Below w.heap.size w wr
  free : ∃ cs, cs.size = 256 ∧ wr.heap[w.heap.size]? = some (.cells cs 38 (0, 0))
  row : ∃ cs, cs.size = 256 ∧ wr.heap[w.heap.size + 1]? = some (.cells cs 38 (0, 0)) ∧ ∀ j, j < k → cs[j]? = some (entry j)
theorem Tab.start (w : World) : Tab 0 w ((w.alloc (.cells zeros 38)).alloc (.cells zeros 38)) where
  below := ((Below.refl _ _).alloc (Nat.le_refl _) _).alloc (by simp) _
  free := ⟨zeros, zeros_size, heap_alloc2_old _ _ _⟩
  row := ⟨zeros, zeros_size, heap_alloc2_new _ _ _, fun j hj => by omega⟩
theorem Tab.cell {k : Nat} {w wr : World} (h : Tab k w wr) (i : Nat) (hi : i < 256) : ∃ v, wr.cell? ⟨w.heap.size + 1, i, none⟩ = some v := by
  obtain ⟨cs, hs, hb, _⟩ := h.row
  rw [cell_of_row _ _ _ _ _ _ hb]
  exact ⟨cs[i], Array.getElem?_eq_getElem (by omega)⟩
theorem Tab.frozen {k : Nat} {w wr : World} (h : Tab k w wr) (i : Nat) : wr.frozen? ⟨w.heap.size + 1, i, none⟩ = false := by
  obtain ⟨cs, hs, hb, _⟩ := h.row
  exact frozen_of_row _ _ _ _ _ hb
theorem Tab.next {k : Nat} {w wr : World} (h : Tab k w wr) (hk : k < 256) : Tab (k + 1) w (wr.setCell ⟨w.heap.size + 1, k, none⟩ (entry k)) where
  below := h.below.setCell (Nat.le_succ _) _
  free := by
    obtain ⟨cs, hs, hb⟩ := h.free
    exact ⟨cs, hs, by rw [heap_setCell_other _ _ _ _ (by simp)]; exact hb⟩
  row := by
    obtain ⟨cs, hs, hb, hc⟩ := h.row
    refine ⟨_, ?_, heap_setCell_same _ _ _ _ _ _ hb, ?_⟩
    · simp [hs]
    · intro j hj
      rw [Array.getElem?_setIfInBounds]
      by_cases e : k = j
      · subst e; simp [hs, hk]
      · rw [if_neg e]; exact hc j (by omega)

/-- A whole table laid into a block of the call's own. -/
theorem lay_row (w wr : World) (g : Nat) (c0 cs : Array Value) (t : TypeId) (hb : wr.heap[g]? = some (.cells c0 t (0, 0))) (hs : c0.size = cs.size) (h1 : cs.all (·.oneCell') = true)
    (hbel : Below w.heap.size w wr) (hg : w.heap.size ≤ g) :
    ∃ w2, (storeCells ⟨g, 0, none⟩ cs.toList).run Try.prog wr = .ok () w2 ∧ w2.heap[g]? = some (.cells cs t (0, 0)) ∧ Below w.heap.size w w2 := by
  have h := run_storeCells_at Try.prog g 0 t cs.toList 0 c0 wr hb (by simp; omega) (fun v hv => Array.all_eq_true_iff_forall_mem.1 h1 v (by simpa using hv))
  refine ⟨_, h, ?_, ?_⟩
  · rw [setRow_heap _ _ _ _ _ _ hb]
    congr 2
    apply Array.ext'
    simp [hs]
  · exact hbel.trans ⟨rfl, rfl, rfl, by simp, fun k hk => setRow_other _ _ _ _ (by omega)⟩
theorem ends_cell {fn : Func} (R : Ending → World → Prop) {a : Act} {w : World} {p : Tmp} {cs : Array Value} {g : Nat} (hr : fn.results = #[.cell p 38]) (hp : a.tmps.getD p undef = .pointer (some ⟨g, 0, none⟩))
    (hs : cs.size = 256) (hb : w.heap[g]? = some (.cells cs 38 (0, 0))) (hd : a.defers = []) (h : R (.returned (.agg cs)) w) : bodyPost Try.prog fn R .ret a w :=
  bodyPost_ret (results_cell_row hr _ _ g 38 cs (0, 0) _ hp hb Try.underlying38 rfl (by rw [hs]; exact size38)) hd h

set_option maxRecDepth 100000 in
set_option maxHeartbeats 400000 in
theorem table_any (w : World) :
    Calls Try.prog 19 #[] w fun e w' => e = .returned (.agg tab) ∧ Below w.heap.size w w' := by
  go_enter Try.func19, Try.ntmps19
  go_wp2_with fail
  go_loopw [2, 4] (fun x i wr => ∃ k : Nat, k ≤ 256 ∧ i = .int .i64 k ∧ Tab k w wr) (fun _ i _ => 256 - (intOf i).toNat)
  case atStart => exact ⟨0, by omega, rfl, Tab.start w⟩
  case round =>
    obtain ⟨k, hk, rfl, ht⟩ := hrel
    by_cases hlt : k < 256
    · obtain ⟨v, hv⟩ := ht.cell k hlt
      have hfz := ht.frozen k
      have hu := u_ofNat k hlt
      go_wp2
      go_loop [3, 9] (fun x i => ∃ j : Nat, j ≤ 8 ∧ i = .int .i64 j ∧ x = .int .u32 (u (bsteps j (BitVec.ofNat 32 k)))) (fun _ i => 8 - (intOf i).toNat)
      case atStart => exact ⟨0, by omega, rfl, by rw [bsteps, hu]⟩
      case round =>
        obtain ⟨j, hj, rfl, rfl⟩ := hrel
        have HZ := Lib.hid (bsteps_succ j (BitVec.ofNat 32 k))
        by_cases hl8 : j < 8
        · generalize hz : bsteps j (BitVec.ofNat 32 k) = z at HZ
          clear hz
          have h0 := u_lo z
          have h1 := u_hi z
          have hh := u_half z
          clear hu
          go_wp2
          · have hodd : (u z % 2 == 1) = true := by assumption
            have e := bstep_odd z hodd
            go_round
            case rel => exact ⟨j + 1, by omega, by go_num, val_u (by rw [HZ.out]; first | exact e | (rw [u_half]; exact e) | (rw [u_half, bits_poly]; exact e))⟩
            case measure => simp [intOf]; omega
          · have hodd : (u z % 2 == 1) = false := by assumption
            have e := bstep_not z hodd
            go_round
            case rel => exact ⟨j + 1, by omega, by go_num, val_u (by rw [HZ.out]; first | exact e | (rw [u_half]; exact e) | (rw [u_half, bits_poly]; exact e))⟩
            case measure => simp [intOf]; omega
        · have h8 : j = 8 := by omega
          subst h8
          clear HZ hu
          go_wp2
          go_roundw
          case rel => exact ⟨k + 1, by omega, by go_num, ht.next hlt⟩
          case measure => simp [intOf]; omega
    · obtain ⟨cs, hs, hb, hc⟩ := ht.row
      have h256 : k = 256 := by omega
      subst h256
      have := tab_of cs hs hc
      subst this
      obtain ⟨c0, hs0, hb0⟩ := ht.free
      have hbel := ht.below
      obtain ⟨w2, hst, hb2, hbel2⟩ := lay_row w wr w.heap.size c0 tab 38 hb0 (by rw [hs0, tab_size]) tab_one hbel (Nat.le_refl _)
      clear ht hc
      go_wp2_with (first | (refine wpList_load_row rfl _ _ rfl _ rfl _ _ _ _ hb Try.underlying38 rfl (by rw [tab_size]; exact size38) ?_))
      exact ends_cell _ rfl rfl tab_size hb2 rfl ⟨rfl, hbel2⟩

set_option maxRecDepth 100000 in
set_option maxHeartbeats 400000 in
theorem over_any (x : BitVec 32) (s : ByteArray) (b : Nat) (w : World) (hb : w.cell? ⟨b, 0, none⟩ = some (.string s)) (hlt : b < w.heap.size) (hs : s.size ≤ 100000) :
    Calls Try.prog 17 #[.int .u32 (u x), .slice (some ⟨b, 0, none⟩) 1 1] w fun e w' => e = .returned (.int .u32 (u (over x s.data.toList))) ∧ Below w.heap.size w w' := by
  go_enter Try.func17, Try.ntmps17
  go_wp2_with fail
  refine (table_any w).mono ?_
  rintro e w1 ⟨rfl, hb1⟩
  have hc : w1.cell? ⟨b, 0, none⟩ = some (.string s) := by rw [hb1.cell (p := ⟨b, 0, none⟩) hlt]; exact hb
  have hsz := hb1.size
  obtain ⟨w2, hst, hb2, hbel⟩ := lay_row w (w1.alloc (.cells zeros 38)) w1.heap.size zeros tab 38 (heap_alloc_new _ _) (by rw [zeros_size, tab_size]) tab_one (hb1.alloc hsz _) hsz
  have hc2 : w2.cell? ⟨b, 0, none⟩ = some (.string s) := by rw [hbel.cell (p := ⟨b, 0, none⟩) hlt]; exact hb
  have hts := tab_size
  have hR : ∀ j, j < 256 → w2.cell? ⟨w1.heap.size, j, none⟩ = some (entry j) := fun j hj => by
    rw [cell_of_row _ _ _ _ _ _ hb2]; exact tab_at j hj
  have HR := Lib.hid hR
  clear hR hb hc hb1 hb2
  go_wp2
  clear hst hts
  go_loop [0, 12] (fun y i => (i = .int .i64 0 ∧ y = .int .u32 (u x)) ∨ (i = .int .i64 1 ∧ y = .int .u32 (u (over x s.data.toList)))) (fun _ i => 1 - (intOf i).toNat)
  case atStart => exact .inl ⟨rfl, rfl⟩
  case round =>
    rcases hrel with ⟨rfl, rfl⟩ | ⟨rfl, rfl⟩
    · go_wp2
      go_loop [0, 18] (fun y i => ∃ k : Nat, k ≤ s.size ∧ i = .int .i64 k ∧ y = .int .u32 (u (over x (s.data.toList.take k)))) (fun _ i => s.size - (intOf i).toNat)
      case atStart => exact ⟨0, by omega, rfl, rfl⟩
      case round =>
        obtain ⟨k, hk, rfl, rfl⟩ := hrel
        by_cases hlt : k < s.size
        · have HS := Lib.hid (over_snoc x s k hlt)
          generalize hy : over x (s.data.toList.take k) = y at HS
          clear hy
          have HU := Lib.hid (upd_ix y s[k])
          have h0 := u_lo y
          have h1 := u_hi y
          have hh := u_byte y
          have hix := ix_lt y s[k]
          have hcell := HR.out (ix y s[k]) hix
          unfold entry at hcell
          go_wp2
          go_round
          case rel => exact ⟨k + 1, by omega, by go_num, val_u (by rw [HS.out, HU.out])⟩
          case measure => simp [intOf]; omega
        · go_wp2
          go_round
          case rel => exact .inr ⟨rfl, val_u (by rw [show k = s.size by omega, over_all])⟩
          case measure => simp [intOf]
    · go_wp2
      go_ret
      exact ⟨rfl, hbel⟩

theorem sum_any (s : ByteArray) (w : World) (hs : s.size ≤ 100000) :
    Calls Try.prog 11 #[.string s] w fun e w' => e = .returned (.int .u32 (u (sum s.data.toList))) ∧ Below w.heap.size w w' := by
  go_enter Try.func11, Try.ntmps11
  go_wp2_with fail
  have h := over_any (~~~0) s w.heap.size (w.alloc (.cells #[.string s] 9)) (by simp) (by simp) hs
  have e0 : u (~~~0) = 4294967295 := by decide
  rw [e0] at h
  refine h.mono ?_
  rintro e w' ⟨rfl, hb⟩
  have hb2 : Below w.heap.size w w' := ((Below.refl _ _).alloc (Nat.le_refl _) _).trans (hb.mono (by simp))
  clear hb h
  go_wp2
  go_ret
  exact ⟨rfl, hb2⟩
theorem add_any (x : BitVec 32) (s : ByteArray) (w : World) (hs : s.size ≤ 100000) :
    Calls Try.prog 13 #[.int .u32 (u x), .string s] w fun e w' => e = .returned (.int .u32 (u (add x s.data.toList))) ∧ Below w.heap.size w w' := by
  go_enter Try.func13, Try.ntmps13
  go_wp2_with fail
  have h := over_any (~~~x) s w.heap.size (w.alloc (.cells #[.string s] 9)) (by simp) (by simp) hs
  refine h.mono ?_
  rintro e w' ⟨rfl, hb⟩
  have hb2 : Below w.heap.size w w' := ((Below.refl _ _).alloc (Nat.le_refl _) _).trans (hb.mono (by simp))
  clear hb h
  go_wp2
  go_ret
  exact ⟨rfl, hb2⟩
end Go.Proofs.Ytdiigplcpalepaa
