/- Walks: dyads read out of their words, the exact number made odd. -/
import Derived.Test.YtfcddnccmdjhfaaDoorPrt
import Derived.Test.YtfcddnccmdjhfaaDoorDyp
namespace Go.Proofs.YtfcddnccmdjhfaaDoor
open Go.RowKit

/-- A block known whole, with its type, none of its cells frozen. -/
def BlkT (w : World) (b t : Nat) (cs : Array Value) : Prop := w.heap[b]? = some (.cells cs t (0, 0))

theorem BlkT.lt {w : World} {b t : Nat} {cs : Array Value} (h : BlkT w b t cs) : b < w.heap.size := (Array.getElem?_eq_some_iff.1 h).1
theorem BlkT.cell {w : World} {b t : Nat} {cs : Array Value} (h : BlkT w b t cs) (i : Nat) : w.cell? ⟨b, i, none⟩ = cs[i]? := by
  unfold BlkT at h; simp [World.cell?, h]
theorem BlkT.frozen {w : World} {b t : Nat} {cs : Array Value} (h : BlkT w b t cs) (i : Nat) : w.frozen? ⟨b, i, none⟩ = false := by
  unfold BlkT at h; simp [World.frozen?, h]
theorem BlkT.elem {w : World} {b t : Nat} {cs : Array Value} (h : BlkT w b t cs) : Elem w b t := ⟨cs, (0, 0), h⟩
theorem BlkT.of_block {w w' : World} {b t : Nat} {cs : Array Value} (h : BlkT w b t cs) (e : w'.heap[b]? = w.heap[b]?) : BlkT w' b t cs := e.trans h
theorem BlkT.below {w w' : World} {b t : Nat} {cs : Array Value} (h : BlkT w b t cs) (hb : Below w.heap.size w w') : BlkT w' b t cs := h.of_block (hb.block b h.lt)
theorem BlkT.new (w : World) (cs : Array Value) (t : Nat) : BlkT (w.alloc (.cells cs t)) w.heap.size t cs := by show (w.heap.push _)[w.heap.size]? = _; simp
theorem BlkT.alloc {w : World} {b t : Nat} {cs : Array Value} (h : BlkT w b t cs) (o : _root_.Go.Obj) : BlkT (w.alloc o) b t cs := h.below (Below.alloc_self _ _)
theorem BlkT.set {w : World} {b t i : Nat} {cs : Array Value} (h : BlkT w b t cs) (v : Value) : BlkT (w.setCell ⟨b, i, none⟩ v) b t (cs.setIfInBounds i v) := by
  show (w.heap.modify b _)[b]? = _
  rw [Array.getElem?_modify, if_pos rfl, h]; rfl
theorem BlkT.setOther {w : World} {b c t i : Nat} {cs : Array Value} (h : BlkT w b t cs) (hne : b ≠ c) (v : Value) : BlkT (w.setCell ⟨c, i, none⟩ v) b t cs := h.of_block (Below.heap_setCell _ _ _ _ hne)
theorem BlkT.mod {w w' : World} {b c o t : Nat} {cs : Array Value} (h : BlkT w b t cs) (hm : Mod c o w w') (hne : b ≠ c) : BlkT w' b t cs := h.of_block (hm.block b h.lt hne)
theorem BlkT.cells2 {w : World} {b t : Nat} {x y : Value} (h : BlkT w b t #[x, y]) :
    w.cell? ⟨b, 0, none⟩ = some x ∧ w.cell? ⟨b, 1, none⟩ = some y ∧ w.frozen? ⟨b, 0, none⟩ = false ∧ w.frozen? ⟨b, 1, none⟩ = false :=
  ⟨h.cell 0, h.cell 1, h.frozen 0, h.frozen 1⟩
theorem BlkT.cells3 {w : World} {b t : Nat} {x y z : Value} (h : BlkT w b t #[x, y, z]) :
    w.cell? ⟨b, 0, none⟩ = some x ∧ w.cell? ⟨b, 1, none⟩ = some y ∧ w.cell? ⟨b, 2, none⟩ = some z ∧ w.frozen? ⟨b, 0, none⟩ = false ∧ w.frozen? ⟨b, 1, none⟩ = false ∧ w.frozen? ⟨b, 2, none⟩ = false :=
  ⟨h.cell 0, h.cell 1, h.cell 2, h.frozen 0, h.frozen 1, h.frozen 2⟩

theorem objT_exact : ObjT 51 := by intro k; cases k <;> decide
theorem objT_dyad : ObjT 25 := by intro k; cases k <;> decide

theorem IntK.setOther {k : IntKind} {s b c p t i : Nat} {z : Int} {w : World} {cs : Array Value} (hz : IntK k s w c p z) (hb : BlkT w b t cs) (hT : ObjT t) (hne : c ≠ b) (v : Value) : IntK k s (w.setCell ⟨b, i, none⟩ v) c p z :=
  hz.mod (Mod.set (b := b) (o := i) w (.inl rfl) v) (.inl hne) ⟨t, hb.elem, hT⟩

theorem Raw.setOther {k : IntKind} {s b t i n N : Nat} {x : Value} {w : World} {cs : Array Value} (hz : Raw k s w x n N) (hb : BlkT w b t cs) (hT : ObjT t) (v : Value) : Raw k s (w.setCell ⟨b, i, none⟩ v) x n N :=
  hz.mod (Mod.set (b := b) (o := i) w (.inl rfl) v) ⟨t, hb.elem, hT⟩

/-- The value of an exact number: where z lies, and e. -/
def ExV (b : Nat) (e : Int) : Value := .agg #[.pointer (some ⟨b, 0, none⟩), .int .i64 e]

/-- The call hands an exact number back whose whole part is new. -/
def ExNew (z e : Int) (w : World) (en : Ending) (w' : World) : Prop :=
  ∃ b, en = .returned (ExV b e) ∧ w.heap.size ≤ b ∧ IntAt w' b 0 z ∧ Below w.heap.size w w'

theorem Raw.nil (k : IntKind) (s : Nat) (w : World) : Raw k s w (.slice none 0 0) 0 0 :=
  ⟨none, 0, rfl, Nat.le_refl _, by simp, by omega, fun h => absurd h (by omega)⟩

theorem IntK.zero {k : IntKind} {s : Nat} (w : World) (t : Nat) (ht : ObjT t) : IntK k s (w.alloc (.cells #[.bool false, .slice none 0 0] t)) w.heap.size 0 0 := by
  refine ⟨Spot.new w t ht, by rw [World.cell?_alloc_new]; rfl, .slice none 0 0, by rw [World.cell?_alloc_new]; rfl, ?_⟩
  have e : ln s (0 : Int).natAbs = 0 := ln_zero s
  rw [e]
  exact Raw.nil k s _

theorem or_shift {q d : Nat} (h : d < 2 ^ 32) : q * 2 ^ 32 ||| d = q * 2 ^ 32 + d := by
  rw [Nat.mul_comm, Nat.two_pow_add_eq_or_of_lt h]

theorem div_digit (N j : Nat) : N / 2 ^ (32 * (j + 1)) * 2 ^ 32 + dg 32 N j = N / 2 ^ (32 * j) := by
  rw [div_succ 32 N j]; omega

theorem take_or (N j : Nat) : ((((N / 2 ^ (32 * (j + 1)) : Nat) : Int) * 2 ^ 32).natAbs ||| ((dg 32 N j : Nat) : Int).natAbs : Nat) = N / 2 ^ (32 * j) := by
  have e : (((N / 2 ^ (32 * (j + 1)) : Nat) : Int) * 2 ^ 32) = ((N / 2 ^ (32 * (j + 1)) * 2 ^ 32 : Nat) : Int) := by simp
  rw [e, Int.natAbs_natCast, Int.natAbs_natCast, or_shift (dg_lt 32 N j), div_digit]

theorem ln_of_lt {s n N : Nat} (hs : 0 < s) (h : N < 2 ^ (s * n)) : ln s N ≤ n := (ln_le_iff hs).2 h

theorem ln64_div {N n : Nat} (h : N < 2 ^ (32 * n)) (k : Nat) : ln 64 (N / 2 ^ k) ≤ n :=
  ln_of_lt (by decide) (Nat.lt_of_le_of_lt (Nat.div_le_self _ _) (Nat.lt_of_lt_of_le h (Nat.pow_le_pow_right (by decide) (by omega))))

theorem ln64_shl {N n : Nat} (h : N < 2 ^ (32 * n)) (k : Nat) : ln 64 (((N / 2 ^ k : Nat) : Int) * 2 ^ 32).natAbs ≤ n + 1 := by
  rw [show (((N / 2 ^ k : Nat) : Int) * 2 ^ 32) = ((N / 2 ^ k * 2 ^ 32 : Nat) : Int) from by simp, Int.natAbs_natCast]
  refine ln_of_lt (by decide) ?_
  have h1 : N / 2 ^ k < 2 ^ (32 * n) := Nat.lt_of_le_of_lt (Nat.div_le_self _ _) h
  have h2 := Nat.mul_lt_mul_of_pos_right h1 (Nat.two_pow_pos 32)
  rw [← Nat.pow_add] at h2
  exact Nat.lt_of_lt_of_le h2 (Nat.pow_le_pow_right (by decide) (by omega))

/-- What take has done when k words are still to come. -/
def TakeRel (N b0 k : Nat) (bx : Array Value) (w0 wr : World) : Prop :=
  IntAt wr b0 0 (N / 2 ^ (32 * k) : Nat) ∧ BlkT wr w0.heap.size 25 bx ∧ BlkT wr (w0.heap.size + 1) 51 #[.pointer none, .int .i64 0] ∧ Below w0.heap.size w0 wr ∧ b0 = w0.heap.size + 1 + 1

theorem TakeRel.lsh {N b0 k : Nat} {bx : Array Value} {w0 wr w1 : World} (h : TakeRel N b0 k bx w0 wr) (hm : Mod b0 0 wr w1) :
    BlkT w1 w0.heap.size 25 bx ∧ BlkT w1 (w0.heap.size + 1) 51 #[.pointer none, .int .i64 0] ∧ Below w0.heap.size w0 w1 := by
  obtain ⟨h1, h2, h3, h4, rfl⟩ := h
  exact ⟨h2.mod hm (by omega), h3.mod hm (by omega), hm.below h4 (by omega) h4.size⟩

theorem Spot.of {k : IntKind} {s b o : Nat} {z : Int} {w : World} (h : IntK k s w b o z) : Spot w b o := h.1

theorem TakeRel.start (neg : Bool) (sl : Value) (e : Int) (n N : Nat) (w : World) (hN : N < 2 ^ (32 * n)) :
    TakeRel N (w.heap.size + 1 + 1) n #[.bool neg, sl, .int .i64 e] w (((w.alloc (.cells #[.bool neg, sl, .int .i64 e] 25)).alloc (.cells #[.pointer none, .int .i64 0] 51)).alloc (.cells #[.bool false, .slice none 0 0] 60)) := by
  refine ⟨?_, ((BlkT.new w _ _).alloc _).alloc _, ?_, (((Below.refl _ _).alloc (Nat.le_refl _) _).alloc (by simp) _).alloc (by simp; omega) _, rfl⟩
  · rw [Nat.div_eq_of_lt hN]
    have := IntK.zero (k := .u64) (s := 64) ((w.alloc (.cells #[.bool neg, sl, .int .i64 e] 25)).alloc (.cells #[.pointer none, .int .i64 0] 51)) 60 objT_int
    simpa using this
  · have := (BlkT.new (w.alloc (.cells #[.bool neg, sl, .int .i64 e] 25)) #[.pointer none, .int .i64 0] 51).alloc (.cells #[.bool false, .slice none 0 0] 60)
    simpa using this

set_option maxRecDepth 100000 in
set_option maxHeartbeats 800000 in
theorem take_any (neg : Bool) (e : Int) (sl : Value) (n N : Nat) (w : World) (h : Raw .u32 32 w sl n N) (hn : n ≤ 1073741824) :
    Calls Tryd.prog 31 #[.agg #[.bool neg, sl, .int .i64 e]] w (ExNew (if neg then -(N : Int) else N) e w) := by
  have HR := Lib.hid h
  obtain ⟨ao, cap, rfl, hcap, hN, -, hc⟩ := h
  have HN := Lib.hid hN
  have HC := Lib.hid hc
  have HR0 := Lib.hid (TakeRel.start neg (.slice ao n cap) e n N w hN)
  obtain ⟨z, hz⟩ : ∃ z, (if neg then -(N : Int) else N) = z := ⟨_, rfl⟩
  rw [hz]
  have HF := Lib.hid hz
  clear hN hc hz
  go_enter Tryd.func31, Tryd.ntmps31
  go_wp2
  go_loopw [4] (fun i wr => ∃ (k : Nat) (j : Int), k ≤ n ∧ i = .int .i64 j ∧ j + 1 = k ∧ Hid (TakeRel N (w.heap.size + 1 + 1) k #[.bool neg, .slice ao n cap, .int .i64 e] w wr))
    (fun i _ => (intOf i + 1).toNat)
  case atStart => exact ⟨n, _, Nat.le_refl _, rfl, by omega, HR0⟩
  case round =>
    obtain ⟨k, j, hk, rfl, hj, HT⟩ := hrel
    obtain ⟨q0, q1, q2, q3, q4, q5⟩ := HT.out.2.1.cells3
    by_cases h0 : k = 0
    · subst h0
      obtain rfl : j = -1 := by omega
      obtain ⟨r0, r1, r2, r3⟩ := HT.out.2.2.1.cells2
      cases neg
      · have HE : Hid (((N / 2 ^ (32 * 0) : Nat) : Int) = z) := Lib.hid (by rw [← HF.out]; simp)
        go_wp2
        refine bodyPost_ret (v := ExV (w.heap.size + 1 + 1) e) (by simp [results, Tryd.results31, go_sem, r0, r1, ExV]) rfl ⟨_, rfl, by omega, ?_, ?_⟩
        · rw [← HE.out]
          exact (HT.out.1.setOther HT.out.2.2.1 objT_exact (by omega) _).setOther (HT.out.2.2.1.set _) objT_exact (by omega) _
        · exact (HT.out.2.2.2.1.setCell (by simp) _).setCell (by simp) _
      · have HE : Hid (-((N / 2 ^ (32 * 0) : Nat) : Int) = z) := Lib.hid (by rw [← HF.out]; simp)
        go_wp2_with fail
        refine (Neg_any _ 0 _ 0 _ _ HT.out.1.1 HT.out.1 ?_).mono ?_
        · exact Nat.le_trans (ln64_div HN.out _) (by omega)
        rintro e2 w2 ⟨rfl, hi2, hm2⟩
        rw [HE.out] at hi2
        have HT2 := Lib.hid (HT.out.lsh hm2)
        have HI2 := Lib.hid hi2
        obtain ⟨q0, q1, q2, q3, q4, q5⟩ := HT2.out.1.cells3
        obtain ⟨r0, r1, r2, r3⟩ := HT2.out.2.1.cells2
        clear hi2 hm2
        go_wp2
        refine bodyPost_ret (v := ExV (w.heap.size + 1 + 1) e) (by simp [results, Tryd.results31, go_sem, r0, r1, ExV]) rfl ⟨_, rfl, by omega, ?_, ?_⟩
        · exact (HI2.out.setOther HT2.out.2.1 objT_exact (by omega) _).setOther (HT2.out.2.1.set _) objT_exact (by omega) _
        · exact (HT2.out.2.2.setCell (by simp) _).setCell (by simp) _
    · obtain ⟨i, rfl⟩ : ∃ i, k = i + 1 := ⟨k - 1, by omega⟩
      obtain rfl : j = (i : Int) := by omega
      obtain ⟨b1, off, rfl, hb1, -, hcc⟩ := HC.out (by omega)
      have HCC := Lib.hid (hcc i (by omega))
      have HB1 := Lib.hid hb1
      clear h0 hj hcc hb1
      go_wp2_with fail
      refine (Lsh_any _ 0 _ 0 32 _ _ HT.out.1.1 HT.out.1 ?_ (by omega)).mono ?_
      · exact Nat.le_trans (ln64_div HN.out _) (by omega)
      rintro e2 w2 ⟨rfl, hi2, hm2⟩
      have HT2 := Lib.hid (HT.out.lsh hm2)
      have HI2 := Lib.hid hi2
      clear q0 q1 q2 q3 q4 q5 hi2 hm2
      obtain ⟨q0, q1, q2, q3, q4, q5⟩ := HT2.out.1.cells3
      have hcell := (HT2.out.2.2.cell (p := ⟨b1, off + i, none⟩) HB1.out).trans HCC.out
      have hd := dg_lt 32 N i
      generalize hdd : dg 32 N i = d at *
      have HD := Lib.hid hdd
      clear hdd
      go_wp2_with fail
      refine (NewInt_any d _ (by omega) (by omega)).mono ?_
      rintro e3 w3 ⟨b3, rfl, hb3, hi3, hB3⟩
      have HB3 := Lib.hid hB3
      have HI3 := Lib.hid hi3
      have HI23 := Lib.hid (HI2.out.below hB3)
      have hb32 : w2.heap.size ≤ b3 := hb3
      clear hb3 hi3 hB3
      go_wp2_with fail
      refine (Or_any _ 0 _ 0 _ 0 _ _ _ HI23.out.1 HI23.out HI3.out ?_ ?_).mono ?_
      · exact Nat.le_trans (ln64_shl HN.out _) (by omega)
      · exact Nat.le_trans (ln_of_lt (s := 64) (n := 1) (by decide) (by rw [Int.natAbs_natCast]; omega)) (by omega)
      rintro e4 w4 ⟨rfl, hi4, hm4⟩
      have HT4 : Hid (TakeRel N (w.heap.size + 1 + 1) i #[.bool neg, .slice (some ⟨b1, off, none⟩) n cap, .int .i64 e] w w4) := by
        refine Lib.hid ⟨?_, (HT2.out.1.below HB3.out).mod hm4 (by omega), (HT2.out.2.1.below HB3.out).mod hm4 (by omega), ?_, rfl⟩
        · rw [← HD.out, take_or] at hi4; exact hi4
        · exact hm4.below (HT2.out.2.2.trans (HB3.out.mono HT2.out.2.2.size)) (by omega) (HT2.out.2.2.trans (HB3.out.mono HT2.out.2.2.size)).size
      clear hi4 hm4 hd
      go_wp2_with fail
      go_roundw
      case rel => exact ⟨i, _, by omega, rfl, by omega, HT4⟩
      case measure => simp [intOf]

end Go.Proofs.YtfcddnccmdjhfaaDoor
