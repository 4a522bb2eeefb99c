/-
  The walk of the law CrcTogether.
-/
import Derived.Test.YtdiigplcpalepaaBent
import Derived.Deep.RegionHeld3
namespace Go.Proofs.Ytdiigplcpalepaa
open Go.RowKit
open Crc

theorem info5 : (Try.prog.info? 5).map (fun i => (i.zero, i.size, i.bytes)) = some (some (.int .u8 0), 1, 1) := by kernel_rfl
theorem bits_xor8 (x y : UInt8) : bits .xor .u8 (x.toNat : Int) (y.toNat : Int) = ((x.toNat ^^^ y.toNat : Nat) : Int) := u8_xor_nat _ _ x.toNat_lt y.toNat_lt
theorem bits_xor8c (x y z : UInt8) : bits .xor .u8 ((x.toNat ^^^ y.toNat : Nat) : Int) (z.toNat : Int) = ((x.toNat ^^^ y.toNat ^^^ z.toNat : Nat) : Int) :=
  u8_xor_nat _ _ (by rw [← UInt8.toNat_xor]; exact (x ^^^ y).toNat_lt) z.toNat_lt
attribute [go_sem] bits_xor8 bits_xor8c

theorem Bytes.zeros (n : Nat) (w : World) : Bytes w.heap.size (List.replicate n 0) w (w.alloc (.cells (madeCells #[.int .u8 0] n) 5)) where
  below := (Below.refl _ _).alloc (Nat.le_refl _) _
  cell := fun j hj => by
    simp only [List.length_replicate] at hj
    rw [World.cell?_alloc_new]
    simp [madeCells, hj, Nat.mod_one]
  free := fun j hj => by
    have := heap_alloc_new w (.cells (madeCells #[.int .u8 0] n) 5)
    exact frozen_of_row _ _ _ _ _ this
/-- A callee that makes memory of its own leaves the row as it is. -/
theorem Bytes.under {l : List UInt8} {w v v' : World} (h : Bytes w.heap.size l w v) (hb : Below v.heap.size v v') : Bytes w.heap.size l w v' where
  below := then_below h.below hb
  cell := fun j hj => by
    have := h.cell j hj
    rw [hb.cell (p := ⟨w.heap.size, j, none⟩) (World.block_lt_of_cell? v _ this)]; exact this
  free := fun j hj => by
    have := h.cell j hj
    rw [hb.frozen (p := ⟨w.heap.size, j, none⟩) (World.block_lt_of_cell? v _ this)]; exact h.free j hj
/-- The texts put together, as far as they are. -/
structure Put (a b c : ByteArray) (n k B : Nat) (w wr : World) : Prop where
  has : ∃ l : List UInt8, l.length = n ∧ Bytes B l w wr ∧ ∀ (j : Nat) (ha : j < a.size) (hb : j < b.size) (hc : j < c.size), j < k → j < n → l[j]? = some (a[j] ^^^ b[j] ^^^ c[j])
theorem Put.start (a b c : ByteArray) (n : Nat) (w : World) : Put a b c n 0 w.heap.size w (w.alloc (.cells (madeCells #[.int .u8 0] n) 5)) :=
  ⟨_, by simp, Bytes.zeros n w, fun j _ _ _ h _ => by omega⟩
theorem Put.cell {a b c : ByteArray} {n k B : Nat} {w wr : World} (h : Put a b c n k B w wr) (hk : k < n) : ∃ v, wr.cell? ⟨B, k, none⟩ = some v := by
  obtain ⟨l, hl, hB, _⟩ := h.has
  exact ⟨_, hB.cell k (by omega)⟩
theorem Put.free {a b c : ByteArray} {n k B : Nat} {w wr : World} (h : Put a b c n k B w wr) (hk : k < n) : wr.frozen? ⟨B, k, none⟩ = false := by
  obtain ⟨l, hl, hB, _⟩ := h.has
  exact hB.free k (by omega)
theorem Put.next {a b c : ByteArray} {n k B : Nat} {w wr : World} (h : Put a b c n k B w wr) (hk : k < n) (ha : k < a.size) (hb : k < b.size) (hc : k < c.size) :
    Put a b c n (k + 1) B w (wr.setCell ⟨B, k, none⟩ (.int .u8 ((a[k].toNat ^^^ b[k].toNat ^^^ c[k].toNat : Nat) : Int))).drew := by
  obtain ⟨l, hl, hB, hj⟩ := h.has
  refine ⟨l.set k (a[k] ^^^ b[k] ^^^ c[k]), by simp [hl], ?_, ?_⟩
  · rw [← UInt8.toNat_xor, ← UInt8.toNat_xor]
    exact (hB.set _ _ (by omega)).drew
  · intro j ja jb jc h1 h2
    by_cases e : k = j
    · subst e; simp [hl, hk]
    · rw [List.getElem?_set_ne e]; exact hj j ja jb jc (by omega) h2
theorem Put.all {a b c : ByteArray} {n B : Nat} {w wr : World} (h : Put a b c n n B w wr) (ha : n ≤ a.size) (hb : n ≤ b.size) (hc : n ≤ c.size) :
    ∃ l : List UInt8, l.length = n ∧ Bytes B l w wr ∧ sum (a.data.toList.take n) ^^^ sum (b.data.toList.take n) ^^^ sum (c.data.toList.take n) = sum l := by
  obtain ⟨l, hl, hB, hj⟩ := h.has
  refine ⟨l, hl, hB, ?_⟩
  rw [together]
  · congr 1
    apply List.ext_getElem
    · simp; omega
    · intro j h1 h2
      have := hj j (by omega) (by omega) (by omega) (by omega) (by omega)
      rw [List.getElem?_eq_getElem h2] at this
      rw [Option.some.inj this]
      simp
      rfl
  · simp; omega
  · simp; omega

set_option maxRecDepth 100000 in
set_option maxHeartbeats 400000 in
theorem together_walk (a b c : ByteArray) (w : World) (ha : a.size ≤ 140737488351232) (hb : b.size ≤ 140737488351232) (hc : c.size ≤ 140737488351232) :
    Calls Try.prog 3 #[.string a, .string b, .string c] w fun e w' => e = .returned (.bool true) ∧ Below w.heap.size w w' := by
  obtain ⟨i0, hi, hz0, hz1, hz2⟩ := info_parts info5
  by_cases hlen : a.size + b.size + c.size ≤ 20000
  · obtain ⟨n, hn⟩ : ∃ n, (a.size = n ∧ n ≤ b.size ∧ n ≤ c.size) ∨ (b.size = n ∧ n < a.size ∧ n ≤ c.size) ∨ (c.size = n ∧ n < a.size ∧ n < b.size) := by
      by_cases h1 : a.size ≤ b.size ∧ a.size ≤ c.size
      · exact ⟨a.size, .inl ⟨rfl, h1⟩⟩
      · by_cases h2 : b.size ≤ c.size
        · exact ⟨b.size, .inr (.inl ⟨rfl, by omega, h2⟩)⟩
        · exact ⟨c.size, .inr (.inr ⟨rfl, by omega, by omega⟩)⟩
    have hmk : n ≤ 20000 → ∀ v : World, (Instr.makeSlice 23 (.int .i64 (n : Int)) (.int .i64 (n : Int))).run Try.prog v =
        .ok (.slice (some ⟨v.heap.size, 0, none⟩) n n) (v.alloc (.cells (madeCells #[.int .u8 0] n) 5)) := fun hn v => by
      have h := run_make (P := Try.prog) v 23 5 i0 (.int .u8 0) Try.underlying23 hi hz0 .i64 .i64 (n : Int) (n : Int) (by omega) (Int.le_refl _) (by rw [hz2]; omega) (by omega)
      simpa [hz1, Value.cells] using h
    have hna : n ≤ a.size := by omega
    have hnb : n ≤ b.size := by omega
    have hnc : n ≤ c.size := by omega
    have hmk := hmk (by omega)
    clear hi hz0 hz1 hz2
    rcases hn with ⟨e, _, _⟩ | ⟨e, _, _⟩ | ⟨e, _, _⟩
    all_goals
      go_enter Try.func3, Try.ntmps3
      go_wp2_with fail
      refine (works_any _).mono ?_
      rintro e w0 ⟨rfl, hb0⟩
      go_wp2_with fail
      clear hmk
      have E := Lib.hid e
      clear e
      go_loopw [9] (fun i wr => ∃ k : Nat, k ≤ n ∧ i = .int .i64 k ∧ Put a b c n k w0.heap.size w0 wr) (fun i _ => n - (intOf i).toNat)
      case atStart => exact ⟨0, by omega, rfl, Put.start a b c n w0⟩
      case round =>
        obtain ⟨k, hk, rfl, hp⟩ := hrel
        by_cases hlt : k < n
        · have hka : k < a.size := by omega
          have hkb : k < b.size := by omega
          have hkc : k < c.size := by omega
          obtain ⟨v, hcell⟩ := hp.cell hlt
          have hfree := hp.free hlt
          have hnx := hp.next hlt hka hkb hkc
          have HN := Lib.hid hnx
          clear hnx hp
          go_wp2
          go_region
          go_wp2
          go_roundw
          case rel => exact ⟨k + 1, by omega, by go_num, HN.out⟩
          case measure => simp [intOf]; omega
        · have hkn : k = n := by omega
          subst hkn
          obtain ⟨l, hl, hB, hsum⟩ := hp.all hna hnb hnc
          have hback := hB.back k k hl.symm
          have hbl := hB.below
          have hll : (⟨l.toArray⟩ : ByteArray).size ≤ 100000 := by
            show l.toArray.size ≤ _
            simp; omega
          have hs1 : (a.extract 0 k).size ≤ 100000 := by simp only [ByteArray.size_extract]; omega
          have hs2 : (b.extract 0 k).size ≤ 100000 := by simp only [ByteArray.size_extract]; omega
          have hs3 : (c.extract 0 k).size ≤ 100000 := by simp only [ByteArray.size_extract]; omega
          have HS := Lib.hid hsum
          have hBd := hB.drew
          have hkd := hBd.back k k hl.symm
          have HL := Lib.hid hl
          clear hsum hp hl hB hback
          go_wp2
          go_region_held3 (fun v => (convert 23 9 (.slice (some ⟨w0.heap.size, 0, none⟩) k k)).run Try.prog v = .ok (.string ⟨l.toArray⟩) v ∧ Bytes w0.heap.size l w0 v)
            (first | exact ⟨hkd, hBd⟩ | exact ⟨hk9, hB9⟩)
            (first | (go_at_call 11; go_split_ands; refine (sum_any _ _ (by assumption)).mono ?_; rintro e w9 ⟨rfl, hb9⟩; have hB9 := Bytes.under (by assumption) hb9; have hk9 := hB9.back k k HL.out.symm; clear hb9))
          go_wp2
          go_ret
          refine ⟨?_, then_below hb0 hB9.below⟩
          rw [HS.out]
          simp
  · go_enter Try.func3, Try.ntmps3
    go_wp2_with fail
    refine (works_any _).mono ?_
    rintro e w0 ⟨rfl, hb0⟩
    go_wp2_with fail
    refine (works_any _).mono ?_
    rintro e w1 ⟨rfl, hb1⟩
    have hb1 := then_below hb0 hb1
    clear hb0
    go_wp2_with fail
    go_ret
    exact ⟨rfl, hb1⟩
end Go.Proofs.Ytdiigplcpalepaa
