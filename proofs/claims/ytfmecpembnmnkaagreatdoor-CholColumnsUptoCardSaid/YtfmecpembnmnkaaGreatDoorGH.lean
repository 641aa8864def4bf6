/- Exact numbers z * 2^e and their one way to be written: plain laws, no program. -/
import Derived.Test.YtfmecpembnmnkaaGreatDoorGA
import Derived.Test.YtfmecpembnmnkaaGreatDoorGG
import Derived.Test.YtfmecpembnmnkaaGreatDoorGC
namespace Go.Proofs.YtfmecpembnmnkaaGreatDoor
section
def hvZ (z : Int) : Int := z / 2 ^ tzb z.natAbs
def hvE (z e : Int) : Int := e + tzb z.natAbs
theorem natAbs_two_pow (k : Nat) : ((2 : Int) ^ k).natAbs = 2 ^ k := by rw [Int.natAbs_pow]; rfl
theorem two_pow_ne (k : Nat) : (2 : Int) ^ k ≠ 0 := by
 have := Int.pow_pos (n := (2 : Int)) (m := k) (by decide); omega
theorem tzb_zero : tzb 0 = 0 := rfl
theorem hv_odd {z : Int} (h : z ≠ 0) : ∃ m : Int, hvZ z = 2 * m + 1 ∧ z = hvZ z * 2 ^ tzb z.natAbs := by
 obtain ⟨m, hm⟩ := tzb_spec (N := z.natAbs) (by omega)
 unfold hvZ
 generalize tzb z.natAbs = t at *
 by_cases hz : 0 ≤ z
 ·have e : z = (2 * (m : Int) + 1) * 2 ^ t := by
   have h1 : (z.natAbs : Int) = ((2 ^ t * (2 * m + 1) : Nat) : Int) := by rw [← hm]
   rw [Int.natAbs_of_nonneg hz] at h1
   rw [h1, Int.natCast_mul, Int.natCast_pow, Int.mul_comm]; rfl
  refine ⟨m, ?_, ?_⟩
  ·rw [e, Int.mul_ediv_cancel _ (two_pow_ne t)]
  ·conv => rhs; rw [e, Int.mul_ediv_cancel _ (two_pow_ne t)]
   exact e
 ·have e : z = (2 * (-(m : Int) - 1) + 1) * 2 ^ t := by
   have h1 : (z.natAbs : Int) = ((2 ^ t * (2 * m + 1) : Nat) : Int) := by rw [← hm]
   have h2 : z = -(z.natAbs : Int) := by omega
   rw [h2, h1, Int.natCast_mul, Int.natCast_pow]
   have : (2 * (-(m : Int) - 1) + 1) = -(2 * (m : Int) + 1) := by omega
   rw [this, Int.neg_mul, Int.mul_comm]; rfl
  refine ⟨-(m : Int) - 1, ?_, ?_⟩
  ·rw [e, Int.mul_ediv_cancel _ (two_pow_ne t)]
  ·conv => rhs; rw [e, Int.mul_ediv_cancel _ (two_pow_ne t)]
   exact e
theorem hvZ_zero : hvZ 0 = 0 := by decide
theorem hv_eq {z : Int} : z = hvZ z * 2 ^ tzb z.natAbs := by
 by_cases h : z = 0
 ·subst h; decide
 ·obtain ⟨m, -, h2⟩ := hv_odd h; exact h2
theorem hvZ_mod {z : Int} (h : z ≠ 0) : hvZ z % 2 = 1 := by
 obtain ⟨m, h1, -⟩ := hv_odd h; omega
theorem hvZ_ne {z : Int} (h : z ≠ 0) : hvZ z ≠ 0 := by
 have := hvZ_mod h; omega
theorem tzb_odd {z : Int} (h : z % 2 = 1) : tzb z.natAbs = 0 := by
 refine tzb_eq (a := 0) (m := z.natAbs / 2) ?_
 omega
theorem hvZ_of_odd {z : Int} (h : z % 2 = 1) : hvZ z = z := by unfold hvZ; rw [tzb_odd h]; simp
theorem hvE_of_odd {z e : Int} (h : z % 2 = 1) : hvE z e = e := by unfold hvE; rw [tzb_odd h]; simp
theorem hvZ_natAbs {z : Int} : (hvZ z).natAbs = z.natAbs / 2 ^ tzb z.natAbs := by
 have h1 := congrArg Int.natAbs (hv_eq (z := z))
 rw [Int.natAbs_mul, natAbs_two_pow] at h1
 rw [show z.natAbs / 2 ^ tzb z.natAbs = ((hvZ z).natAbs * 2 ^ tzb z.natAbs) / 2 ^ tzb z.natAbs from by rw [← h1], Nat.mul_div_cancel _ (Nat.two_pow_pos _)]
theorem hvZ_natAbs_le {z : Int} : (hvZ z).natAbs ≤ z.natAbs := by rw [hvZ_natAbs]; exact Nat.div_le_self _ _
def sc (M : Int) (z e : Int) : Int := z * 2 ^ (e + M).toNat
theorem sc_zero (M e : Int) : sc M 0 e = 0 := by unfold sc; simp
theorem sc_eq_zero {M z e : Int} : sc M z e = 0 ↔ z = 0 := by
 unfold sc; rw [Int.mul_eq_zero]
 exact ⟨fun h => h.resolve_right (two_pow_ne _), fun h => .inl h⟩
theorem sc_hv {M z e : Int} (h : 0 ≤ e + M) : sc M (hvZ z) (hvE z e) = sc M z e := by
 unfold sc hvE
 conv => rhs; rw [hv_eq (z := z)]
 rw [Int.mul_assoc, ← Int.pow_add]
 congr 2; omega
def Nrm (z e : Int) : Prop := (z = 0 ∧ e = 0) ∨ z % 2 = 1
def nrE (z e : Int) : Int := if z = 0 then 0 else hvE z e
theorem nrm_hv (z e : Int) : Nrm (hvZ z) (nrE z e) := by
 by_cases h : z = 0
 ·subst h; exact .inl ⟨hvZ_zero, by unfold nrE; rw [if_pos rfl]⟩
 ·exact .inr (hvZ_mod h)
theorem sc_nr {M z e : Int} (h : 0 ≤ e + M) : sc M (hvZ z) (nrE z e) = sc M z e := by
 unfold nrE
 by_cases h0 : z = 0
 ·subst h0; rw [hvZ_zero, sc_zero, sc_zero]
 ·rw [if_neg h0]; exact sc_hv h
theorem nrE_ge {M z e : Int} (hM : 0 ≤ M) (h : 0 ≤ e + M) : 0 ≤ nrE z e + M := by
 unfold nrE hvE; split <;> omega
def plZ (z e y f : Int) : Int := if z = 0 then y else if y = 0 then z else z * 2 ^ (e - min e f).toNat + y * 2 ^ (f - min e f).toNat
def plE (z e y f : Int) : Int := if z = 0 then f else if y = 0 then e else min e f
theorem sc_pl {M z e y f : Int} (h1 : 0 ≤ e + M) (h2 : 0 ≤ f + M) : sc M (plZ z e y f) (plE z e y f) = sc M z e + sc M y f := by
 unfold plZ plE
 by_cases hz : z = 0
 ·rw [if_pos hz, if_pos hz, hz, sc_zero, Int.zero_add]
 ·by_cases hy : y = 0
  ·rw [if_neg hz, if_neg hz, if_pos hy, if_pos hy, hy, sc_zero, Int.add_zero]
  ·rw [if_neg hz, if_neg hz, if_neg hy, if_neg hy]
   unfold sc
   rw [Int.add_mul, Int.mul_assoc, Int.mul_assoc, ← Int.pow_add, ← Int.pow_add]
   congr 3 <;> omega
theorem plE_ge {M z e y f : Int} (h1 : 0 ≤ e + M) (h2 : 0 ≤ f + M) : 0 ≤ plE z e y f + M := by
 unfold plE; split
 ·exact h2
 ·split <;> omega
theorem sc_mul {M z e y f : Int} (h1 : 0 ≤ e + M) (h2 : 0 ≤ f + M) : sc (M + M) (z * y) (e + f) = sc M z e * sc M y f := by
 unfold sc
 rw [show (e + f + (M + M)).toNat = (e + M).toNat + (f + M).toNat from by omega, Int.pow_add]
 simp only [Int.mul_assoc, Int.mul_left_comm]
theorem sc_neg {M z e : Int} : sc M (-z) e = -sc M z e := by unfold sc; rw [Int.neg_mul]
theorem natAbs_sc {M z e : Int} : (sc M z e).natAbs = z.natAbs * 2 ^ (e + M).toNat := by unfold sc; rw [Int.natAbs_mul, natAbs_two_pow]
theorem bl_mul_two_pow (N k : Nat) : bl (N * 2 ^ k) ≤ bl N + k := by
 refine bl_le_of_lt ?_
 rw [Nat.pow_add]
 exact Nat.mul_lt_mul_of_pos_right (lt_bl N) (Nat.two_pow_pos k)
theorem bl_add (a b : Nat) : bl (a + b) ≤ max (bl a) (bl b) + 1 := by
 refine bl_le_of_lt ?_
 have h1 : a < 2 ^ max (bl a) (bl b) := Nat.lt_of_lt_of_le (lt_bl a) (Nat.pow_le_pow_right (by decide) (Nat.le_max_left _ _))
 have h2 : b < 2 ^ max (bl a) (bl b) := Nat.lt_of_lt_of_le (lt_bl b) (Nat.pow_le_pow_right (by decide) (Nat.le_max_right _ _))
 rw [Nat.pow_succ]; omega
theorem bl_mul (a b : Nat) : bl (a * b) ≤ bl a + bl b := by
 refine bl_le_of_lt ?_
 rw [Nat.pow_add]
 exact Nat.mul_lt_mul'' (lt_bl a) (lt_bl b)
theorem ln_le_bl (s N : Nat) (hs : 0 < s) : ln s N ≤ bl N := by
 rw [ln_le_iff hs]
 refine Nat.lt_of_lt_of_le (lt_bl N) (Nat.pow_le_pow_right (by decide) ?_)
 exact Nat.le_mul_of_pos_left _ hs
theorem bl_plZ {z e y f : Int} : bl (plZ z e y f).natAbs ≤ bl z.natAbs + bl y.natAbs + (e - f).natAbs + 1 := by
 unfold plZ
 split
 ·omega
 ·split
  ·omega
  ·refine Nat.le_trans (bl_mono (Int.natAbs_add_le _ _)) ?_
   rw [Int.natAbs_mul, Int.natAbs_mul, natAbs_two_pow, natAbs_two_pow]
   have h1 := bl_add (z.natAbs * 2 ^ (e - min e f).toNat) (y.natAbs * 2 ^ (f - min e f).toNat)
   have h2 := bl_mul_two_pow z.natAbs (e - min e f).toNat
   have h3 := bl_mul_two_pow y.natAbs (f - min e f).toNat
   omega
end
section
open Go.RowKit
def BlkT (w : World) (b t : Nat) (cs : Array Value) : Prop := w.heap[b]? = some (.cells cs t (0, 0))
theorem BlkT.lt {w : World} {b t : Nat} {cs : Array Value} (h : BlkT w b t cs) : b < w.heap.size := (Array.getElem?_eq_some_iff.1 h).1
theorem BlkT.cell {w : World} {b t : Nat} {cs : Array Value} (h : BlkT w b t cs) (i : Nat) : w.cell? ⟨b, i, none⟩ = cs[i]? := by
 unfold BlkT at h; simp [World.cell?, h]
theorem BlkT.frozen {w : World} {b t : Nat} {cs : Array Value} (h : BlkT w b t cs) (i : Nat) : w.frozen? ⟨b, i, none⟩ = false := by
 unfold BlkT at h; simp [World.frozen?, h]
theorem BlkT.elem {w : World} {b t : Nat} {cs : Array Value} (h : BlkT w b t cs) : Elem w b t := ⟨cs, (0, 0), h⟩
theorem BlkT.of_block {w w' : World} {b t : Nat} {cs : Array Value} (h : BlkT w b t cs) (e : w'.heap[b]? = w.heap[b]?) : BlkT w' b t cs := e.trans h
theorem BlkT.below {w w' : World} {b t : Nat} {cs : Array Value} (h : BlkT w b t cs) (hb : Below w.heap.size w w') : BlkT w' b t cs := h.of_block (hb.block b h.lt)
theorem BlkT.new (w : World) (cs : Array Value) (t : Nat) : BlkT (w.alloc (.cells cs t)) w.heap.size t cs := by show (w.heap.push _)[w.heap.size]? = _; simp
theorem BlkT.alloc {w : World} {b t : Nat} {cs : Array Value} (h : BlkT w b t cs) (o : _root_.Go.Obj) : BlkT (w.alloc o) b t cs := h.below (Below.alloc_self _ _)
theorem BlkT.set {w : World} {b t i : Nat} {cs : Array Value} (h : BlkT w b t cs) (v : Value) : BlkT (w.setCell ⟨b, i, none⟩ v) b t (cs.setIfInBounds i v) := by
 show (w.heap.modify b _)[b]? = _
 rw [Array.getElem?_modify, if_pos rfl, h]; rfl
theorem BlkT.setOther {w : World} {b c t i : Nat} {cs : Array Value} (h : BlkT w b t cs) (hne : b ≠ c) (v : Value) : BlkT (w.setCell ⟨c, i, none⟩ v) b t cs := h.of_block (Below.heap_setCell _ _ _ _ hne)
theorem BlkT.mod {w w' : World} {b c o t : Nat} {cs : Array Value} (h : BlkT w b t cs) (hm : Mod c o w w') (hne : b ≠ c) : BlkT w' b t cs := h.of_block (hm.block b h.lt hne)
theorem BlkT.cells2 {w : World} {b t : Nat} {x y : Value} (h : BlkT w b t #[x, y]) :
  w.cell? ⟨b, 0, none⟩ = some x ∧ w.cell? ⟨b, 1, none⟩ = some y ∧ w.frozen? ⟨b, 0, none⟩ = false ∧ w.frozen? ⟨b, 1, none⟩ = false :=
 ⟨h.cell 0, h.cell 1, h.frozen 0, h.frozen 1⟩
theorem BlkT.cells3 {w : World} {b t : Nat} {x y z : Value} (h : BlkT w b t #[x, y, z]) :
  w.cell? ⟨b, 0, none⟩ = some x ∧ w.cell? ⟨b, 1, none⟩ = some y ∧ w.cell? ⟨b, 2, none⟩ = some z ∧ w.frozen? ⟨b, 0, none⟩ = false ∧ w.frozen? ⟨b, 1, none⟩ = false ∧ w.frozen? ⟨b, 2, none⟩ = false :=
 ⟨h.cell 0, h.cell 1, h.cell 2, h.frozen 0, h.frozen 1, h.frozen 2⟩
theorem objT_exact : ObjT 199 := by intro k; cases k <;> decide
theorem objT_dyad : ObjT 167 := by intro k; cases k <;> decide
theorem IntK.setOther {k : IntKind} {s b c p t i : Nat} {z : Int} {w : World} {cs : Array Value} (hz : IntK k s w c p z) (hb : BlkT w b t cs) (hT : ObjT t) (hne : c ≠ b) (v : Value) : IntK k s (w.setCell ⟨b, i, none⟩ v) c p z :=
 hz.mod (Mod.set (b := b) (o := i) w (.inl rfl) v) (.inl hne) ⟨t, hb.elem, hT⟩
theorem Raw.setOther {k : IntKind} {s b t i n N : Nat} {x : Value} {w : World} {cs : Array Value} (hz : Raw k s w x n N) (hb : BlkT w b t cs) (hT : ObjT t) (v : Value) : Raw k s (w.setCell ⟨b, i, none⟩ v) x n N :=
 hz.mod (Mod.set (b := b) (o := i) w (.inl rfl) v) ⟨t, hb.elem, hT⟩
def ExV (b : Nat) (e : Int) : Value := .agg #[.pointer (some ⟨b, 0, none⟩), .int .i64 e]
def ExNew (z e : Int) (w : World) (en : Ending) (w' : World) : Prop :=
 ∃ b, en = .returned (ExV b e) ∧ w.heap.size ≤ b ∧ IntAt w' b 0 z ∧ Below w.heap.size w w'
theorem Raw.nil (k : IntKind) (s : Nat) (w : World) : Raw k s w (.slice none 0 0) 0 0 :=
 ⟨none, 0, rfl, Nat.le_refl _, by simp, by omega, fun h => absurd h (by omega)⟩
theorem IntK.zero {k : IntKind} {s : Nat} (w : World) (t : Nat) (ht : ObjT t) : IntK k s (w.alloc (.cells #[.bool false, .slice none 0 0] t)) w.heap.size 0 0 := by
 refine ⟨Spot.new w t ht, by rw [World.cell?_alloc_new]; rfl, .slice none 0 0, by rw [World.cell?_alloc_new]; rfl, ?_⟩
 have e : ln s (0 : Int).natAbs = 0 := ln_zero s
 rw [e]
 exact Raw.nil k s _
theorem or_shift {q d : Nat} (h : d < 2 ^ 32) : q * 2 ^ 32 ||| d = q * 2 ^ 32 + d := by
 rw [Nat.mul_comm, Nat.two_pow_add_eq_or_of_lt h]
theorem div_digit (N j : Nat) : N / 2 ^ (32 * (j + 1)) * 2 ^ 32 + dg 32 N j = N / 2 ^ (32 * j) := by
 rw [div_succ 32 N j]; omega
theorem take_or (N j : Nat) : ((((N / 2 ^ (32 * (j + 1)) : Nat) : Int) * 2 ^ 32).natAbs ||| ((dg 32 N j : Nat) : Int).natAbs : Nat) = N / 2 ^ (32 * j) := by
 have e : (((N / 2 ^ (32 * (j + 1)) : Nat) : Int) * 2 ^ 32) = ((N / 2 ^ (32 * (j + 1)) * 2 ^ 32 : Nat) : Int) := by simp
 rw [e, Int.natAbs_natCast, Int.natAbs_natCast, or_shift (dg_lt 32 N j), div_digit]
theorem ln_of_lt {s n N : Nat} (hs : 0 < s) (h : N < 2 ^ (s * n)) : ln s N ≤ n := (ln_le_iff hs).2 h
theorem ln64_div {N n : Nat} (h : N < 2 ^ (32 * n)) (k : Nat) : ln 64 (N / 2 ^ k) ≤ n :=
 ln_of_lt (by decide) (Nat.lt_of_le_of_lt (Nat.div_le_self _ _) (Nat.lt_of_lt_of_le h (Nat.pow_le_pow_right (by decide) (by omega))))
theorem ln64_shl {N n : Nat} (h : N < 2 ^ (32 * n)) (k : Nat) : ln 64 (((N / 2 ^ k : Nat) : Int) * 2 ^ 32).natAbs ≤ n + 1 := by
 rw [show (((N / 2 ^ k : Nat) : Int) * 2 ^ 32) = ((N / 2 ^ k * 2 ^ 32 : Nat) : Int) from by simp, Int.natAbs_natCast]
 refine ln_of_lt (by decide) ?_
 have h1 : N / 2 ^ k < 2 ^ (32 * n) := Nat.lt_of_le_of_lt (Nat.div_le_self _ _) h
 have h2 := Nat.mul_lt_mul_of_pos_right h1 (Nat.two_pow_pos 32)
 rw [← Nat.pow_add] at h2
 exact Nat.lt_of_lt_of_le h2 (Nat.pow_le_pow_right (by decide) (by omega))
def TakeRel (N b0 k : Nat) (bx : Array Value) (w0 wr : World) : Prop :=
 IntAt wr b0 0 (N / 2 ^ (32 * k) : Nat) ∧ BlkT wr w0.heap.size 167 bx ∧ BlkT wr (w0.heap.size + 1) 199 #[.pointer none, .int .i64 0] ∧ Below w0.heap.size w0 wr ∧ b0 = w0.heap.size + 1 + 1
theorem TakeRel.lsh {N b0 k : Nat} {bx : Array Value} {w0 wr w1 : World} (h : TakeRel N b0 k bx w0 wr) (hm : Mod b0 0 wr w1) :
  BlkT w1 w0.heap.size 167 bx ∧ BlkT w1 (w0.heap.size + 1) 199 #[.pointer none, .int .i64 0] ∧ Below w0.heap.size w0 w1 := by
 obtain ⟨h1, h2, h3, h4, rfl⟩ := h
 exact ⟨h2.mod hm (by omega), h3.mod hm (by omega), hm.below h4 (by omega) h4.size⟩
theorem TakeRel.start (neg : Bool) (sl : Value) (e : Int) (n N : Nat) (w : World) (hN : N < 2 ^ (32 * n)) :
  TakeRel N (w.heap.size + 1 + 1) n #[.bool neg, sl, .int .i64 e] w (((w.alloc (.cells #[.bool neg, sl, .int .i64 e] 167)).alloc (.cells #[.pointer none, .int .i64 0] 199)).alloc (.cells #[.bool false, .slice none 0 0] 220)) := by
 refine ⟨?_, ((BlkT.new w _ _).alloc _).alloc _, ?_, (((Below.refl _ _).alloc (Nat.le_refl _) _).alloc (by simp) _).alloc (by simp; omega) _, rfl⟩
 ·rw [Nat.div_eq_of_lt hN]
  have := IntK.zero (k := .u64) (s := 64) ((w.alloc (.cells #[.bool neg, sl, .int .i64 e] 167)).alloc (.cells #[.pointer none, .int .i64 0] 199)) 220 objT_int
  simpa using this
 ·have := (BlkT.new (w.alloc (.cells #[.bool neg, sl, .int .i64 e] 167)) #[.pointer none, .int .i64 0] 199).alloc (.cells #[.bool false, .slice none 0 0] 220)
  simpa using this
set_option maxRecDepth 100000 in
set_option maxHeartbeats 800000 in
theorem take_any (neg : Bool) (e : Int) (sl : Value) (n N : Nat) (w : World) (h : Raw .u32 32 w sl n N) (hn : n ≤ 1073741824) :
  Calls Tryz.prog 214 #[.agg #[.bool neg, sl, .int .i64 e]] w (ExNew (if neg then -(N : Int) else N) e w) := by
 have HR := Lib.hid h
 obtain ⟨ao, cap, rfl, hcap, hN, -, hc⟩ := h
 have HN := Lib.hid hN
 have HC := Lib.hid hc
 have HR0 := Lib.hid (TakeRel.start neg (.slice ao n cap) e n N w hN)
 obtain ⟨z, hz⟩ : ∃ z, (if neg then -(N : Int) else N) = z := ⟨_, rfl⟩
 rw [hz]
 have HF := Lib.hid hz
 clear hN hc hz
 go_enter Tryz.func214, Tryz.ntmps214
 go_wp2
 go_loopw [4] (fun i wr => ∃ (k : Nat) (j : Int), k ≤ n ∧ i = .int .i64 j ∧ j + 1 = k ∧ Hid (TakeRel N (w.heap.size + 1 + 1) k #[.bool neg, .slice ao n cap, .int .i64 e] w wr))
  (fun i _ => (intOf i + 1).toNat)
 case atStart => exact ⟨n, _, Nat.le_refl _, rfl, by omega, HR0⟩
 case round =>
  obtain ⟨k, j, hk, rfl, hj, HT⟩ := hrel
  obtain ⟨q0, q1, q2, q3, q4, q5⟩ := HT.out.2.1.cells3
  by_cases h0 : k = 0
  ·subst h0
   obtain rfl : j = -1 := by omega
   obtain ⟨r0, r1, r2, r3⟩ := HT.out.2.2.1.cells2
   cases neg
   ·have HE : Hid (((N / 2 ^ (32 * 0) : Nat) : Int) = z) := Lib.hid (by rw [← HF.out]; simp)
    go_wp2
    refine bodyPost_ret (v := ExV (w.heap.size + 1 + 1) e) (by simp [results, Tryz.results214, go_sem, r0, r1, ExV]) rfl ⟨_, rfl, by omega, ?_, ?_⟩
    ·rw [← HE.out]
     exact (HT.out.1.setOther HT.out.2.2.1 objT_exact (by omega) _).setOther (HT.out.2.2.1.set _) objT_exact (by omega) _
    ·exact (HT.out.2.2.2.1.setCell (by simp) _).setCell (by simp) _
   ·have HE : Hid (-((N / 2 ^ (32 * 0) : Nat) : Int) = z) := Lib.hid (by rw [← HF.out]; simp)
    go_wp2_with fail
    refine (Neg_any _ 0 _ 0 _ _ HT.out.1.1 HT.out.1 ?_).mono ?_
    ·exact Nat.le_trans (ln64_div HN.out _) (by omega)
    rintro e2 w2 ⟨rfl, hi2, hm2⟩
    rw [HE.out] at hi2
    have HT2 := Lib.hid (HT.out.lsh hm2)
    have HI2 := Lib.hid hi2
    obtain ⟨q0, q1, q2, q3, q4, q5⟩ := HT2.out.1.cells3
    obtain ⟨r0, r1, r2, r3⟩ := HT2.out.2.1.cells2
    clear hi2 hm2
    go_wp2
    refine bodyPost_ret (v := ExV (w.heap.size + 1 + 1) e) (by simp [results, Tryz.results214, go_sem, r0, r1, ExV]) rfl ⟨_, rfl, by omega, ?_, ?_⟩
    ·exact (HI2.out.setOther HT2.out.2.1 objT_exact (by omega) _).setOther (HT2.out.2.1.set _) objT_exact (by omega) _
    ·exact (HT2.out.2.2.setCell (by simp) _).setCell (by simp) _
  ·obtain ⟨i, rfl⟩ : ∃ i, k = i + 1 := ⟨k - 1, by omega⟩
   obtain rfl : j = (i : Int) := by omega
   obtain ⟨b1, off, rfl, hb1, -, hcc⟩ := HC.out (by omega)
   have HCC := Lib.hid (hcc i (by omega))
   have HB1 := Lib.hid hb1
   clear h0 hj hcc hb1
   go_wp2_with fail
   refine (Lsh_any _ 0 _ 0 32 _ _ HT.out.1.1 HT.out.1 ?_ (by omega)).mono ?_
   ·exact Nat.le_trans (ln64_div HN.out _) (by omega)
   rintro e2 w2 ⟨rfl, hi2, hm2⟩
   have HT2 := Lib.hid (HT.out.lsh hm2)
   have HI2 := Lib.hid hi2
   clear q0 q1 q2 q3 q4 q5 hi2 hm2
   obtain ⟨q0, q1, q2, q3, q4, q5⟩ := HT2.out.1.cells3
   have hcell := (HT2.out.2.2.cell (p := ⟨b1, off + i, none⟩) HB1.out).trans HCC.out
   have hd := dg_lt 32 N i
   generalize hdd : dg 32 N i = d at *
   have HD := Lib.hid hdd
   clear hdd
   go_wp2_with fail
   refine (NewInt_any d _ (by omega) (by omega)).mono ?_
   rintro e3 w3 ⟨b3, rfl, hb3, hi3, hB3⟩
   have HB3 := Lib.hid hB3
   have HI3 := Lib.hid hi3
   have HI23 := Lib.hid (HI2.out.below hB3)
   have hb32 : w2.heap.size ≤ b3 := hb3
   clear hb3 hi3 hB3
   go_wp2_with fail
   refine (Or_any _ 0 _ 0 _ 0 _ _ _ HI23.out.1 HI23.out HI3.out ?_ ?_).mono ?_
   ·exact Nat.le_trans (ln64_shl HN.out _) (by omega)
   ·exact Nat.le_trans (ln_of_lt (s := 64) (n := 1) (by decide) (by rw [Int.natAbs_natCast]; omega)) (by omega)
   rintro e4 w4 ⟨rfl, hi4, hm4⟩
   have HT4 : Hid (TakeRel N (w.heap.size + 1 + 1) i #[.bool neg, .slice (some ⟨b1, off, none⟩) n cap, .int .i64 e] w w4) := by
    refine Lib.hid ⟨?_, (HT2.out.1.below HB3.out).mod hm4 (by omega), (HT2.out.2.1.below HB3.out).mod hm4 (by omega), ?_, rfl⟩
    ·rw [← HD.out, take_or] at hi4; exact hi4
    ·exact hm4.below (HT2.out.2.2.trans (HB3.out.mono HT2.out.2.2.size)) (by omega) (HT2.out.2.2.trans (HB3.out.mono HT2.out.2.2.size)).size
   clear hi4 hm4 hd
   go_wp2_with fail
   go_roundw
   case rel => exact ⟨i, _, by omega, rfl, by omega, HT4⟩
   case measure => simp [intOf]
end
section
open Go.RowKit
structure Own2 (w0 wr : World) (rb rt : Nat) (rcs : Array Value) (ib : Nat) (y : Int) : Prop where
 int : IntAt wr ib 0 y
 res : BlkT wr rb rt rcs
 objT : ObjT rt
 below : Below w0.heap.size w0 wr
 ne : rb ≠ ib
 rge : w0.heap.size ≤ rb
 ige : w0.heap.size ≤ ib
theorem Own2.puts {w0 wr w2 : World} {rb rt ib : Nat} {rcs : Array Value} {y x : Int} (h : Own2 w0 wr rb rt rcs ib y) (hi : IntAt w2 ib 0 x) (hm : Mod ib 0 wr w2) : Own2 w0 w2 rb rt rcs ib x :=
 ⟨hi, h.res.mod hm h.ne, h.objT, hm.below h.below h.ige h.below.size, h.ne, h.rge, h.ige⟩
theorem Own2.store2 {w0 wr : World} {rb rt ib : Nat} {rcs : Array Value} {y : Int} (h : Own2 w0 wr rb rt rcs ib y) (x0 x1 : Value) :
  IntAt ((wr.setCell ⟨rb, 0, none⟩ x0).setCell ⟨rb, 1, none⟩ x1) ib 0 y ∧ Below w0.heap.size w0 ((wr.setCell ⟨rb, 0, none⟩ x0).setCell ⟨rb, 1, none⟩ x1) :=
 ⟨(h.int.setOther h.res h.objT h.ne.symm _).setOther (h.res.set _) h.objT h.ne.symm _, (h.below.setCell h.rge _).setCell h.rge _⟩
theorem drew_below (w : World) : Below w.heap.size w w.drew := (Below.refl _ _).drew
theorem hv_hv (y f : Int) : hvZ (hvZ y) = hvZ y ∧ hvE (hvZ y) (hvE y f) = hvE y f := by
 by_cases h : y = 0
 ·subst h; exact ⟨by decide, by rw [hvZ_zero]; unfold hvE; simp [tzb_zero]⟩
 ·have h1 := hvZ_mod h
  exact ⟨hvZ_of_odd h1, hvE_of_odd h1⟩
theorem bit0 (y : Int) : (y.natAbs / 2 ^ 0 % 2 : Nat) = if y % 2 = 1 then 1 else 0 := by
 rw [Nat.pow_zero, Nat.div_one]; split <;> omega
theorem tzb_pos {y : Int} (h0 : y ≠ 0) (h : ¬ y % 2 = 1) : 0 < tzb y.natAbs := by
 rcases Nat.eq_zero_or_pos (tzb y.natAbs) with h1 | h1
 ·obtain ⟨m, hm⟩ := tzb_spec (N := y.natAbs) (by omega)
  rw [h1] at hm; omega
 ·exact h1
theorem ln_of_bl {N B : Nat} (h : bl N ≤ B) : ln 64 N ≤ B := Nat.le_trans (ln_le_bl 64 N (by decide)) h
def HalfRel (z e : Int) (ib : Nat) (w0 wr : World) (y f : Int) : Prop :=
 hvZ y = hvZ z ∧ hvE y f = hvE z e ∧ y.natAbs ≤ z.natAbs ∧ Own2 w0 wr (w0.heap.size + 1) 199 #[.pointer none, .int .i64 0] ib y
theorem Tab64.below {w w' : World} (h : Tab64 w) (hs : 1 < w.heap.size) (hb : Below w.heap.size w w') : Tab64 w' :=
 fun j hj => (hb.cell (p := ⟨_, j, none⟩) hs).trans (h j hj)
theorem sign_ne {y : Int} (h : y ≠ 0) : (y.sign != 0) = true := by
 rcases Int.lt_trichotomy y 0 with h1 | h1 | h1
 ·rw [Int.sign_eq_neg_one_of_neg h1]; rfl
 ·exact absurd h1 h
 ·rw [Int.sign_eq_one_of_pos h1]; rfl
set_option maxRecDepth 100000 in
set_option maxHeartbeats 800000 in
theorem halve_any (b : Nat) (z e : Int) (w : World) (hx : IntAt w b 0 z) (hl : bl z.natAbs ≤ 68719476736) (h1 : -4611686018427387904 ≤ e) (h2 : e ≤ 1099511627776) (hT : Tab64 w) (hTs : 1 < w.heap.size) :
  Calls Tryz.prog 250 #[ExV b e] w (ExNew (hvZ z) (hvE z e) w) := by
 have HX := Lib.hid hx
 have HL := Lib.hid hl
 have HT := Lib.hid hT
 have HTs := Lib.hid hTs
 have HEB : Hid (hvE z e ≤ e + 68719476736) := Lib.hid (by unfold hvE; have := tzb_le (N := z.natAbs); omega)
 clear hx hl hT hTs
 unfold ExV
 go_enter Tryz.func250, Tryz.ntmps250
 go_wp2
 refine wp_region_plan (fun w' : World => w'.cell? ⟨w.heap.size, 0, none⟩ = some (.pointer (some ⟨b, 0, none⟩)) ∧ w'.cell? ⟨w.heap.size, 1, none⟩ = some (.int .i64 e)) 7 [(1, true), (2, true), (4, true), (5, true), (0, false), (3, false), (6, true)] (by kernel_rfl) (by kernel_rfl) ?_
 generalize hW : ((w.alloc (.cells #[.pointer (some ⟨b, 0, none⟩), .int .i64 e] 199)).alloc (.cells #[.pointer none, .int .i64 0] 199)).drew = W
 have HW : Hid (BlkT W w.heap.size 199 #[.pointer (some ⟨b, 0, none⟩), .int .i64 e] ∧ BlkT W (w.heap.size + 1) 199 #[.pointer none, .int .i64 0] ∧ Below w.heap.size w W) := by
  subst hW
  refine Lib.hid ⟨((BlkT.new w _ _).alloc _).below (drew_below _), ?_, (((Below.refl _ _).alloc (Nat.le_refl _) _).alloc (by simp) _).drew⟩
  have := (BlkT.new (w.alloc (.cells #[.pointer (some ⟨b, 0, none⟩), .int .i64 e] 199)) #[.pointer none, .int .i64 0] 199).below (drew_below _)
  simpa using this
 have hS : (fun w' : World => w'.cell? ⟨w.heap.size, 0, none⟩ = some (.pointer (some ⟨b, 0, none⟩)) ∧ w'.cell? ⟨w.heap.size, 1, none⟩ = some (.int .i64 e)) W := ⟨HW.out.1.cell 0, HW.out.1.cell 1⟩
 clear hW
 repeat (refine wpPlan_take (v := ?_) rfl (fun _ _ _ h => h) rfl (fun w' hSw => ?_) hS ?_; rotate_left; focus (go_simp; with_reducible rfl); try simp only [Act.put, setL])
 refine wpPlan_run rfl fun K' hK => ?_
 go_simp
 have HW1 : Hid (BlkT (W.alloc (.cells #[.bool false, .slice none 0 0] 220)) w.heap.size 199 #[.pointer (some ⟨b, 0, none⟩), .int .i64 e]) := Lib.hid (HW.out.1.alloc _)
 refine hK _ _ ⟨HW1.out.cell 0, HW1.out.cell 1⟩ ?_
 clear hK K' hS
 have HO : Hid (Own2 w (W.alloc (.cells #[.bool false, .slice none 0 0] 220)) (w.heap.size + 1) 199 #[.pointer none, .int .i64 0] W.heap.size 0) :=
  Lib.hid ⟨IntK.zero W _ objT_int, HW.out.2.1.alloc _, objT_exact, HW.out.2.2.alloc HW.out.2.2.size _, by have := HW.out.2.1.lt; omega, by omega, HW.out.2.2.size⟩
 refine wpPlan_run rfl fun K' hK => ?_
 go_simp
 refine (Set_any _ 0 _ 0 z _ HO.out.int.1 ((HX.out.below HW.out.2.2).below (Below.alloc_self _ _)) (ln_of_bl HL.out)).mono ?_
 rintro e1 w1 ⟨rfl, hi1, hm1⟩
 have HO1 := Lib.hid (HO.out.puts hi1 hm1)
 have HW2 := Lib.hid (HW1.out.mod hm1 (by have := HW.out.1.lt; omega))
 refine hK _ _ ⟨HW2.out.cell 0, HW2.out.cell 1⟩ ?_
 have hS : (fun w' : World => w'.cell? ⟨w.heap.size, 0, none⟩ = some (.pointer (some ⟨b, 0, none⟩)) ∧ w'.cell? ⟨w.heap.size, 1, none⟩ = some (.int .i64 e)) w1 := ⟨HW2.out.cell 0, HW2.out.cell 1⟩
 clear hK K' hi1 hm1
 repeat (refine wpPlan_take (v := ?_) rfl (fun _ _ _ h => h) rfl (fun w' hSw => ?_) hS ?_; rotate_left; focus (go_simp; with_reducible rfl); try simp only [Act.put, setL])
 clear hS
 refine wpPlan_nil ?_
 simp only [drL]
 generalize W.heap.size = ib at HO1
 go_wp2
 clear HW HW1 HO HW2
 have HR1 : Hid (HalfRel z e ib w w1 z e) := Lib.hid ⟨rfl, rfl, Nat.le_refl _, HO1.out⟩
 go_loopw [4] (fun i wr => ∃ (y f : Int), i = .int .i64 f ∧ f ≤ hvE z e ∧ e ≤ f ∧ Hid (HalfRel z e ib w wr y f))
  (fun i _ => (hvE z e - intOf i).toNat)
 case atStart => exact ⟨z, e, rfl, by unfold hvE; omega, Int.le_refl _, HR1⟩
 case round =>
  obtain ⟨y, f, rfl, hfE, hef, HR⟩ := hrel
  obtain ⟨r0, r1, r2, r3⟩ := HR.out.2.2.2.res.cells2
  have HLy : Hid (bl y.natAbs ≤ 68719476736) := Lib.hid (Nat.le_trans (bl_mono HR.out.2.2.1) HL.out)
  have HEB2 := HEB.out
  by_cases h0 : y = 0
  ·have HS0 : Hid (y.sign = 0) := Lib.hid (by subst h0; rfl)
   have HE : Hid (ExV ib f = ExV ib (hvE z e) ∧ hvZ z = y) := by
    refine Lib.hid ⟨?_, by rw [← HR.out.1, h0]; exact hvZ_zero⟩
    rw [← HR.out.2.1, h0]; unfold hvE; simp [tzb_zero]
   clear h0
   go_wp2_with fail
   refine (Sign_any _ 0 y _ HR.out.2.2.2.int).mono ?_
   rintro e2 w2 ⟨rfl, rfl⟩
   rw [HS0.out]
   go_wp2
   refine bodyPost_ret (v := ExV ib f) (by simp [results, Tryz.results250, go_sem, r0, r1, ExV]) rfl ⟨ib, by rw [HE.out.1], HR.out.2.2.2.ige, ?_, ?_⟩
   ·rw [HE.out.2]; exact (HR.out.2.2.2.store2 _ _).1
   ·exact (HR.out.2.2.2.store2 _ _).2
  ·obtain ⟨sg, HS, hsg⟩ : ∃ sg, Hid (y.sign = sg) ∧ (sg != 0) = true := ⟨_, Lib.hid rfl, sign_ne h0⟩
   by_cases hodd : y % 2 = 1
   ·have HB : Hid ((y.natAbs / 2 ^ 0 % 2 : Nat) = 1) := Lib.hid (by rw [bit0, if_pos hodd])
    have HE : Hid (ExV ib f = ExV ib (hvE z e) ∧ hvZ z = y) := by
     refine Lib.hid ⟨?_, by rw [← HR.out.1]; exact hvZ_of_odd hodd⟩
     rw [← HR.out.2.1, hvE_of_odd hodd]
    clear h0 hodd
    go_wp2_with fail
    refine (Sign_any _ 0 y _ HR.out.2.2.2.int).mono ?_
    rintro e2 w2 ⟨rfl, rfl⟩
    rw [HS.out]
    go_wp2_with fail
    refine (Bit_any _ 0 0 y _ HR.out.2.2.2.int (by omega)).mono ?_
    rintro e2 w2 ⟨rfl, rfl⟩
    rw [HB.out]
    go_wp2
    refine bodyPost_ret (v := ExV ib f) (by simp [results, Tryz.results250, go_sem, r0, r1, ExV]) rfl ⟨ib, by rw [HE.out.1], HR.out.2.2.2.ige, ?_, ?_⟩
    ·rw [HE.out.2]; exact (HR.out.2.2.2.store2 _ _).1
    ·exact (HR.out.2.2.2.store2 _ _).2
   ·have HB : Hid ((y.natAbs / 2 ^ 0 % 2 : Nat) = 0) := Lib.hid (by rw [bit0, if_neg hodd])
    have htp := tzb_pos h0 hodd
    have HfE : Hid (f + tzb y.natAbs = hvE z e) := Lib.hid (by rw [← HR.out.2.1]; rfl)
    have HT2 := Lib.hid (HT.out.below HTs.out HR.out.2.2.2.below)
    have ht3 : tzb y.natAbs ≤ 68719476736 := Nat.le_trans (tzb_le (N := y.natAbs)) HLy.out
    generalize htz : tzb y.natAbs = t at *
    have HTZ := Lib.hid htz
    have ht2 : f + t ≤ 1168231104512 := by have := HfE.out; omega
    clear h0 hodd htz
    go_wp2_with fail
    refine (Sign_any _ 0 y _ HR.out.2.2.2.int).mono ?_
    rintro e2 w2 ⟨rfl, rfl⟩
    rw [HS.out]
    go_wp2_with fail
    refine (Bit_any _ 0 0 y _ HR.out.2.2.2.int (by omega)).mono ?_
    rintro e2 w2 ⟨rfl, rfl⟩
    rw [HB.out]
    go_wp2_with fail
    refine (TrailingZeroBits_any _ 0 y _ HR.out.2.2.2.int HT2.out (ln_of_bl HLy.out)).mono ?_
    rintro e2 w2 ⟨rfl, rfl⟩
    rw [HTZ.out]
    go_wp2_with fail
    refine (Rsh_any _ 0 _ 0 t y _ HR.out.2.2.2.int.1 HR.out.2.2.2.int (ln_of_bl HLy.out) (by omega)).mono ?_
    rintro e2 w2 ⟨rfl, hi2, hm2⟩
    have HR2 : Hid (HalfRel z e ib w w2 (hvZ y) (f + t)) := by
     have h3 : y / 2 ^ t = hvZ y := by rw [← HTZ.out]; rfl
     have h4 : hvE y f = f + t := by rw [← HTZ.out]; rfl
     rw [h3] at hi2
     refine Lib.hid ⟨by rw [(hv_hv y f).1]; exact HR.out.1, by rw [← h4, (hv_hv y f).2]; exact HR.out.2.1, Nat.le_trans hvZ_natAbs_le HR.out.2.2.1, HR.out.2.2.2.puts hi2 hm2⟩
    clear hi2 hm2
    go_wp2
    go_roundw
    case rel => exact ⟨hvZ y, f + t, rfl, by rw [HfE.out]; exact Int.le_refl _, by omega, HR2⟩
    case measure => simp [intOf]; have := HfE.out; omega
end
section
open Go.RowKit
def ExAny (z e : Int) (w : World) (en : Ending) (w' : World) : Prop :=
 ∃ b, en = .returned (ExV b e) ∧ IntAt w' b 0 z ∧ Below w.heap.size w w'
theorem IntK.zero1 {k : IntKind} {s : Nat} (w : World) (o : _root_.Go.Obj) (t : Nat) (ht : ObjT t) : IntK k s ((w.alloc o).alloc (.cells #[.bool false, .slice none 0 0] t)) (w.heap.size + 1) 0 0 := by
 have := IntK.zero (k := k) (s := s) (w.alloc o) t ht
 simpa using this
theorem BlkT.new1 (w : World) (o : _root_.Go.Obj) (cs : Array Value) (t : Nat) : BlkT ((w.alloc o).alloc (.cells cs t)) (w.heap.size + 1) t cs := by
 have := BlkT.new (w.alloc o) cs t
 simpa using this
theorem BlkT.new2 (w : World) (o p : _root_.Go.Obj) (cs : Array Value) (t : Nat) : BlkT (((w.alloc o).alloc p).alloc (.cells cs t)) (w.heap.size + 1 + 1) t cs := by
 have := BlkT.new1 (w.alloc o) p cs t
 simpa using this
theorem BlkT.new3 (w : World) (o p q : _root_.Go.Obj) (cs : Array Value) (t : Nat) : BlkT ((((w.alloc o).alloc p).alloc q).alloc (.cells cs t)) (w.heap.size + 1 + 1 + 1) t cs := by
 have := BlkT.new2 (w.alloc o) p q cs t
 simpa using this
theorem below1 (w : World) (o : _root_.Go.Obj) : Below w.heap.size w (w.alloc o) := (Below.refl _ _).alloc (Nat.le_refl _) _
theorem below2 (w : World) (o p : _root_.Go.Obj) : Below w.heap.size w ((w.alloc o).alloc p) := (below1 w o).alloc (by simp) _
theorem below3 (w : World) (o p q : _root_.Go.Obj) : Below w.heap.size w (((w.alloc o).alloc p).alloc q) := (below2 w o p).alloc (by simp; omega) _
theorem Lsh_at (b o c p : Nat) (n : Nat) (m : Int) (X : Int) (w : World) (hz : Spot w b o) (hx : IntAt w c p X) (hl : ln 64 X.natAbs ≤ 68719476736) (hn : n ≤ 1099511627776) (hm : m = n) :
  Calls Tryz.prog 246 #[.pointer (some ⟨b, o, none⟩), .pointer (some ⟨c, p, none⟩), .int .u64 m] w (Puts .u64 64 b o (X * 2 ^ n) w) := by
 subst hm; exact Lsh_any b o c p n X w hz hx hl hn
theorem Rsh_at (b o c p : Nat) (n : Nat) (m : Int) (X : Int) (w : World) (hz : Spot w b o) (hx : IntAt w c p X) (hl : ln 64 X.natAbs ≤ 68719476736) (hn : n ≤ 1099511627776) (hm : m = n) :
  Calls Tryz.prog 252 #[.pointer (some ⟨b, o, none⟩), .pointer (some ⟨c, p, none⟩), .int .u64 m] w (Puts .u64 64 b o (X / 2 ^ n) w) := by
 subst hm; exact Rsh_any b o c p n X w hz hx hl hn
set_option maxRecDepth 100000 in
set_option maxHeartbeats 400000 in
theorem at_any (b : Nat) (z e f : Int) (w : World) (hx : IntAt w b 0 z) (hl : bl z.natAbs ≤ 68719476736) (h1 : -274877906944 ≤ f) (h2 : f ≤ e) (h3 : e ≤ 274877906944) :
  Calls Tryz.prog 245 #[ExV b e, .int .i64 f] w (News .u64 64 (z * 2 ^ (e - f).toNat) w) := by
 have HX := Lib.hid hx
 have HL := Lib.hid hl
 have HN : Hid (e - f = ((e - f).toNat : Int)) := Lib.hid (by omega)
 have HN2 : Hid ((e - f).toNat ≤ 1099511627776) := Lib.hid (by omega)
 generalize (e - f).toNat = n at *
 clear hx hl
 unfold ExV
 have HZ := Lib.hid (IntK.zero1 (k := .u64) (s := 64) w (.cells #[.pointer (some ⟨b, 0, none⟩), .int .i64 e] 199) _ objT_int)
 go_enter Tryz.func245, Tryz.ntmps245
 go_wp2_with fail
 refine (Lsh_at _ 0 _ 0 n _ z _ HZ.out.1 (HX.out.below (below2 _ _ _)) (ln_of_bl HL.out) HN2.out HN.out).mono ?_
 rintro e2 w2 ⟨rfl, hi2, hm2⟩
 have HI := Lib.hid hi2
 have HB := Lib.hid (hm2.below (below2 _ _ _) (by omega) (below2 _ _ _).size)
 clear hi2 hm2
 go_wp2
 go_ret
 exact ⟨_, rfl, by simp, HI.out, HB.out⟩
set_option maxRecDepth 100000 in
set_option maxHeartbeats 800000 in
theorem plus_zero (b c : Nat) (e y f : Int) (w : World) (hx : IntAt w b 0 0) (hy : IntAt w c 0 y) :
  Calls Tryz.prog 210 #[ExV b e, ExV c f] w (ExAny y f w) := by
 have HX := Lib.hid hx
 have HY := Lib.hid hy
 have hcy := hy.1.1
 clear hx hy
 unfold ExV
 have HS0 : Hid ((0 : Int).sign = 0) := Lib.hid rfl
 go_enter Tryz.func210, Tryz.ntmps210
 go_wp2_with fail
 refine (Sign_any _ 0 0 _ (HX.out.below (below3 _ _ _ _))).mono ?_
 rintro e2 w2 ⟨rfl, rfl⟩
 rw [HS0.out]
 go_wp2
 refine bodyPost_ret (v := ExV c f) (by simp [results, Tryz.results210, go_sem, ExV]) rfl ⟨c, rfl, HY.out.below (below3 _ _ _ _), below3 _ _ _ _⟩
set_option maxRecDepth 100000 in
set_option maxHeartbeats 800000 in
theorem plus_zero2 (b c : Nat) (z e f : Int) (w : World) (hx : IntAt w b 0 z) (hy : IntAt w c 0 0) (h0 : z ≠ 0) :
  Calls Tryz.prog 210 #[ExV b e, ExV c f] w (ExAny z e w) := by
 have HX := Lib.hid hx
 have HY := Lib.hid hy
 obtain ⟨sg, HS, hsg⟩ : ∃ sg, Hid (z.sign = sg) ∧ (sg == 0) = false := ⟨_, Lib.hid rfl, by have := sign_ne h0; simpa using this⟩
 clear hx hy h0
 unfold ExV
 have HS0 : Hid ((0 : Int).sign = 0) := Lib.hid rfl
 go_enter Tryz.func210, Tryz.ntmps210
 go_wp2_with fail
 refine (Sign_any _ 0 z _ (HX.out.below (below3 _ _ _ _))).mono ?_
 rintro e2 w2 ⟨rfl, rfl⟩
 rw [HS.out]
 go_wp2_with fail
 refine (Sign_any _ 0 0 _ (HY.out.below (below3 _ _ _ _))).mono ?_
 rintro e2 w2 ⟨rfl, rfl⟩
 rw [HS0.out]
 go_wp2
 refine bodyPost_ret (v := ExV b e) (by simp [results, Tryz.results210, go_sem, ExV]) rfl ⟨b, rfl, HX.out.below (below3 _ _ _ _), below3 _ _ _ _⟩
theorem bl_shl (z : Int) (k : Nat) : bl (z * 2 ^ k).natAbs ≤ bl z.natAbs + k := by
 rw [Int.natAbs_mul, natAbs_two_pow]; exact bl_mul_two_pow _ _
def Box2 (s : Nat) (w0 W : World) (b c : Nat) (e f : Int) : Prop :=
 BlkT W s 199 #[.pointer (some ⟨b, 0, none⟩), .int .i64 e] ∧ BlkT W (s + 1) 199 #[.pointer (some ⟨c, 0, none⟩), .int .i64 f] ∧ BlkT W (s + 1 + 1) 199 #[.pointer none, .int .i64 0] ∧ Below w0.heap.size w0 W
theorem Box2.cells {s : Nat} {w0 W : World} {b c : Nat} {e f : Int} (h : Box2 s w0 W b c e f) :
  w0.heap.size ≤ W.heap.size ∧ (W.cell? ⟨s, 0, none⟩ = some (.pointer (some ⟨b, 0, none⟩)) ∧ W.cell? ⟨s, 1, none⟩ = some (.int .i64 e)) ∧ W.cell? ⟨s + 1, 0, none⟩ = some (.pointer (some ⟨c, 0, none⟩)) ∧ W.cell? ⟨s + 1, 1, none⟩ = some (.int .i64 f) :=
 ⟨h.2.2.2.size, ⟨h.1.cell 0, h.1.cell 1⟩, h.2.1.cell 0, h.2.1.cell 1⟩
theorem Box2.later {s : Nat} {w0 W V : World} {b c : Nat} {e f : Int} (h : Box2 s w0 W b c e f) (hb : Below W.heap.size W V) : Box2 s w0 V b c e f :=
 ⟨h.1.below hb, h.2.1.below hb, h.2.2.1.below hb, h.2.2.2.trans (hb.mono h.2.2.2.size)⟩
theorem Box2.mod {s ib : Nat} {w0 W V : World} {b c : Nat} {e f : Int} (h : Box2 s w0 W b c e f) (hm : Mod ib 0 W V) (hs : s + 1 + 1 < ib) (h0 : w0.heap.size ≤ ib) : Box2 s w0 V b c e f :=
 ⟨h.1.mod hm (by omega), h.2.1.mod hm (by omega), h.2.2.1.mod hm (by omega), hm.below h.2.2.2 h0 h.2.2.2.size⟩
theorem Box2.start (w : World) (b c : Nat) (e f : Int) : Box2 w.heap.size w (((w.alloc (.cells #[.pointer (some ⟨b, 0, none⟩), .int .i64 e] 199)).alloc (.cells #[.pointer (some ⟨c, 0, none⟩), .int .i64 f] 199)).alloc (.cells #[.pointer none, .int .i64 0] 199)).drew b c e f :=
 ⟨(((BlkT.new w _ _).alloc _).alloc _).below (drew_below _), ((BlkT.new1 w _ _ _).alloc _).below (drew_below _), (BlkT.new2 w _ _ _ _).below (drew_below _), (below3 _ _ _ _).drew⟩
set_option maxRecDepth 100000 in
set_option maxHeartbeats 800000 in
theorem plus_both (b c : Nat) (z e y f g : Int) (w : World) (hx : IntAt w b 0 z) (hy : IntAt w c 0 y) (hz : z ≠ 0) (h0 : y ≠ 0) (hg : min e f = g)
  (hl : bl z.natAbs ≤ 34359738368) (hl2 : bl y.natAbs ≤ 34359738368) (he1 : -8589934592 ≤ e) (he2 : e ≤ 8589934592) (hf1 : -8589934592 ≤ f) (hf2 : f ≤ 8589934592) :
  Calls Tryz.prog 210 #[ExV b e, ExV c f] w (ExAny (z * 2 ^ (e - g).toNat + y * 2 ^ (f - g).toNat) g w) := by
 have HX := Lib.hid hx
 have HY := Lib.hid hy
 obtain ⟨sg, HS, hsg⟩ : ∃ sg, Hid (z.sign = sg) ∧ (sg == 0) = false := ⟨_, Lib.hid rfl, by have := sign_ne hz; simpa using this⟩
 obtain ⟨sh, HS2, hsh⟩ : ∃ sg, Hid (y.sign = sg) ∧ (sg == 0) = false := ⟨_, Lib.hid rfl, by have := sign_ne h0; simpa using this⟩
 have HL := Lib.hid hl
 have HL2 := Lib.hid hl2
 have hg1 : g ≤ e := by omega
 have hg2 : g ≤ f := by omega
 have hg3 : -8589934592 ≤ g := by omega
 clear hx hy h0 hz hl hl2
 unfold ExV
 go_enter Tryz.func210, Tryz.ntmps210
 go_wp2_with fail
 refine (Sign_any _ 0 z _ (HX.out.below (below3 _ _ _ _))).mono ?_
 rintro e2 w2 ⟨rfl, rfl⟩
 rw [HS.out]
 go_wp2_with fail
 refine (Sign_any _ 0 y _ (HY.out.below (below3 _ _ _ _))).mono ?_
 rintro e2 w2 ⟨rfl, rfl⟩
 rw [HS2.out]
 go_wp2
 refine wp_region_pl (fun w' : World => (w'.cell? ⟨w.heap.size, 0, none⟩ = some (.pointer (some ⟨b, 0, none⟩)) ∧ w'.cell? ⟨w.heap.size, 1, none⟩ = some (.int .i64 e)) ∧ w'.cell? ⟨w.heap.size + 1, 0, none⟩ = some (.pointer (some ⟨c, 0, none⟩)) ∧ w'.cell? ⟨w.heap.size + 1, 1, none⟩ = some (.int .i64 f)) 10 (.take 1 (.take 2 (.take 4 (.take 5 (.take 8 (.fork 0 (.run 3 (.run 6 (.run 7 (.take 9 .nil)))) 3 (.fork 0 (.run 6 (.run 7 (.take 9 .nil))) 6 (.run 0 (.run 7 (.take 9 .nil)))))))))) (by kernel_rfl) (by kernel_rfl) ?_
 generalize hW : (((w.alloc (.cells #[.pointer (some ⟨b, 0, none⟩), .int .i64 e] 199)).alloc (.cells #[.pointer (some ⟨c, 0, none⟩), .int .i64 f] 199)).alloc (.cells #[.pointer none, .int .i64 0] 199)).drew = W0
 have HW : Hid (Box2 w.heap.size w W0 b c e f) := by subst hW; exact Lib.hid (Box2.start w b c e f)
 have hS : (fun w' : World => (w'.cell? ⟨w.heap.size, 0, none⟩ = some (.pointer (some ⟨b, 0, none⟩)) ∧ w'.cell? ⟨w.heap.size, 1, none⟩ = some (.int .i64 e)) ∧ w'.cell? ⟨w.heap.size + 1, 0, none⟩ = some (.pointer (some ⟨c, 0, none⟩)) ∧ w'.cell? ⟨w.heap.size + 1, 1, none⟩ = some (.int .i64 f)) W0 := HW.out.cells.2
 clear hW
 repeat (refine wpPl_take (v := ?_) rfl (fun _ _ _ h => h) rfl (fun w' hSw => ?_) hS ?_; rotate_left; focus (go_simp; with_reducible rfl); try simp only [Act.put, setL])
 clear hS
 refine wpPl_fork ?_ ?_
 ·as_aux_lemma =>
   refine wpPl_run rfl fun K' hK => ?_
   go_simp
   have HV := Lib.hid (HW.out.later (Below.alloc_self W0 (.cells #[.bool false, .slice none 0 0] 220)))
   refine hK _ _ HV.out.cells.2 ?_
   clear hK K'
   have HZ := Lib.hid (IntK.zero (k := .u64) (s := 64) W0 _ objT_int)
   have HI := Lib.hid (HW.out.2.2.1.lt)
   have HI0 := Lib.hid (HW.out.2.2.2.size)
   clear HW
   generalize hWn : W0.alloc (.cells #[.bool false, .slice none 0 0] 220) = W1 at *
   generalize W0.heap.size = ib at *
   clear hWn
   have HW := HV
   clear HV
   refine wpPl_run rfl fun K' hK => ?_
   go_simp
   refine (at_any b z e g _ (HX.out.below HW.out.2.2.2) (Nat.le_trans HL.out (by omega)) (by omega) hg1 (by omega)).mono ?_
   rintro e1 W2 ⟨p1, rfl, hp1, hi1, hb1⟩
   have HV := Lib.hid (HW.out.later hb1)
   refine hK _ _ HV.out.cells.2 ?_
   clear hK K' HW hp1
   have HP1 := Lib.hid hi1
   replace HZ := Lib.hid (HZ.out.below hb1)
   clear hi1 hb1
   have HW := HV
   clear HV
   refine wpPl_run rfl fun K' hK => ?_
   go_simp
   refine (at_any c y f g _ (HY.out.below HW.out.2.2.2) (Nat.le_trans HL2.out (by omega)) (by omega) hg2 (by omega)).mono ?_
   rintro e1 W3 ⟨p2, rfl, hp2, hi1, hb1⟩
   have HV := Lib.hid (HW.out.later hb1)
   refine hK _ _ HV.out.cells.2 ?_
   clear hK K' HW hp2
   have HP2 := Lib.hid hi1
   replace HZ := Lib.hid (HZ.out.below hb1)
   replace HP1 := Lib.hid (HP1.out.below hb1)
   clear hi1 hb1
   have HW := HV
   clear HV
   refine wpPl_run rfl fun K' hK => ?_
   go_simp
   refine (Add_any ib 0 p1 0 p2 0 _ _ _ HZ.out.1 HP1.out HP2.out ?_ ?_).mono ?_
   ·exact ln_of_bl (Nat.le_trans (bl_shl _ _) (by have := HL.out; omega))
   ·exact ln_of_bl (Nat.le_trans (bl_shl _ _) (by have := HL2.out; omega))
   rintro e1 wf ⟨rfl, hi3, hm3⟩
   have HO : Hid (Own2 w wf (w.heap.size + 1 + 1) 199 #[.pointer none, .int .i64 0] ib (z * 2 ^ (e - g).toNat + y * 2 ^ (f - g).toNat)) := by
    have h4 := HW.out.mod hm3 HI.out HI0.out
    exact Lib.hid ⟨hi3, h4.2.2.1, objT_exact, h4.2.2.2, by have := HI.out; omega, by omega, HI0.out⟩
   have HC3 := (HW.out.mod hm3 HI.out HI0.out).cells.2
   have hS : (fun w' : World => (w'.cell? ⟨w.heap.size, 0, none⟩ = some (.pointer (some ⟨b, 0, none⟩)) ∧ w'.cell? ⟨w.heap.size, 1, none⟩ = some (.int .i64 e)) ∧ w'.cell? ⟨w.heap.size + 1, 0, none⟩ = some (.pointer (some ⟨c, 0, none⟩)) ∧ w'.cell? ⟨w.heap.size + 1, 1, none⟩ = some (.int .i64 f)) wf := HC3
   refine hK _ _ HC3 ?_
   clear hK K' hi3 hm3 HC3
   repeat (refine wpPl_take (v := ?_) rfl (fun _ _ _ h => h) rfl (fun w' hSw => ?_) hS ?_; rotate_left; focus (go_simp; with_reducible rfl); try simp only [Act.put, setL])
   clear hS
   refine wpPl_nil ?_
   simp only [drL]
   obtain ⟨r0, r1, r2, r3⟩ := HO.out.res.cells2
   generalize z * 2 ^ (e - g).toNat + y * 2 ^ (f - g).toNat = R at *
   clear HW HZ HP1 HP2
   go_wp2
   refine bodyPost_ret (v := ExV ib g) (by simp [results, Tryz.results210, go_sem, ExV, r0, r1]) rfl ⟨ib, rfl, (HO.out.store2 _ _).1, (HO.out.store2 _ _).2⟩
 ·refine wpPl_run rfl fun K' hK => ?_
  go_simp
  refine (at_any b z e g _ (HX.out.below HW.out.2.2.2) (Nat.le_trans HL.out (by omega)) (by omega) hg1 (by omega)).mono ?_
  rintro e1 W1 ⟨p1, rfl, hp1, hi1, hb1⟩
  have HV := Lib.hid (HW.out.later hb1)
  refine hK _ _ HV.out.cells.2 ?_
  clear hK K' HW hp1
  have HP1 := Lib.hid hi1
  clear hi1 hb1
  have HW := HV
  clear HV
  refine wpPl_fork ?_ ?_
  ·as_aux_lemma =>
    refine wpPl_run rfl fun K' hK => ?_
    go_simp
    have HV := Lib.hid (HW.out.later (Below.alloc_self W1 (.cells #[.bool false, .slice none 0 0] 220)))
    refine hK _ _ HV.out.cells.2 ?_
    clear hK K'
    have HZ := Lib.hid (IntK.zero (k := .u64) (s := 64) W1 _ objT_int)
    have HI := Lib.hid (HW.out.2.2.1.lt)
    have HI0 := Lib.hid (HW.out.2.2.2.size)
    replace HP1 := Lib.hid (HP1.out.below (Below.alloc_self W1 (.cells #[.bool false, .slice none 0 0] 220)))
    clear HW
    generalize hWn : W1.alloc (.cells #[.bool false, .slice none 0 0] 220) = W2 at *
    generalize W1.heap.size = ib at *
    clear hWn
    have HW := HV
    clear HV
    refine wpPl_run rfl fun K' hK => ?_
    go_simp
    refine (at_any c y f g _ (HY.out.below HW.out.2.2.2) (Nat.le_trans HL2.out (by omega)) (by omega) hg2 (by omega)).mono ?_
    rintro e1 W3 ⟨p2, rfl, hp2, hi1, hb1⟩
    have HV := Lib.hid (HW.out.later hb1)
    refine hK _ _ HV.out.cells.2 ?_
    clear hK K' HW hp2
    have HP2 := Lib.hid hi1
    replace HP1 := Lib.hid (HP1.out.below hb1)
    replace HZ := Lib.hid (HZ.out.below hb1)
    clear hi1 hb1
    have HW := HV
    clear HV
    refine wpPl_run rfl fun K' hK => ?_
    go_simp
    refine (Add_any ib 0 p1 0 p2 0 _ _ _ HZ.out.1 HP1.out HP2.out ?_ ?_).mono ?_
    ·exact ln_of_bl (Nat.le_trans (bl_shl _ _) (by have := HL.out; omega))
    ·exact ln_of_bl (Nat.le_trans (bl_shl _ _) (by have := HL2.out; omega))
    rintro e1 wf ⟨rfl, hi3, hm3⟩
    have HO : Hid (Own2 w wf (w.heap.size + 1 + 1) 199 #[.pointer none, .int .i64 0] ib (z * 2 ^ (e - g).toNat + y * 2 ^ (f - g).toNat)) := by
     have h4 := HW.out.mod hm3 HI.out HI0.out
     exact Lib.hid ⟨hi3, h4.2.2.1, objT_exact, h4.2.2.2, by have := HI.out; omega, by omega, HI0.out⟩
    have HC3 := (HW.out.mod hm3 HI.out HI0.out).cells.2
    have hS : (fun w' : World => (w'.cell? ⟨w.heap.size, 0, none⟩ = some (.pointer (some ⟨b, 0, none⟩)) ∧ w'.cell? ⟨w.heap.size, 1, none⟩ = some (.int .i64 e)) ∧ w'.cell? ⟨w.heap.size + 1, 0, none⟩ = some (.pointer (some ⟨c, 0, none⟩)) ∧ w'.cell? ⟨w.heap.size + 1, 1, none⟩ = some (.int .i64 f)) wf := HC3
    refine hK _ _ HC3 ?_
    clear hK K' hi3 hm3 HC3
    repeat (refine wpPl_take (v := ?_) rfl (fun _ _ _ h => h) rfl (fun w' hSw => ?_) hS ?_; rotate_left; focus (go_simp; with_reducible rfl); try simp only [Act.put, setL])
    clear hS
    refine wpPl_nil ?_
    simp only [drL]
    obtain ⟨r0, r1, r2, r3⟩ := HO.out.res.cells2
    generalize z * 2 ^ (e - g).toNat + y * 2 ^ (f - g).toNat = R at *
    clear HW HZ HP1 HP2
    go_wp2
    refine bodyPost_ret (v := ExV ib g) (by simp [results, Tryz.results210, go_sem, ExV, r0, r1]) rfl ⟨ib, rfl, (HO.out.store2 _ _).1, (HO.out.store2 _ _).2⟩
  ·as_aux_lemma =>
    refine wpPl_run rfl fun K' hK => ?_
    go_simp
    refine (at_any c y f g _ (HY.out.below HW.out.2.2.2) (Nat.le_trans HL2.out (by omega)) (by omega) hg2 (by omega)).mono ?_
    rintro e1 W2 ⟨p2, rfl, hp2, hi1, hb1⟩
    have HV := Lib.hid (HW.out.later hb1)
    refine hK _ _ HV.out.cells.2 ?_
    clear hK K' HW hp2
    have HP2 := Lib.hid hi1
    replace HP1 := Lib.hid (HP1.out.below hb1)
    clear hi1 hb1
    have HW := HV
    clear HV
    refine wpPl_run rfl fun K' hK => ?_
    go_simp
    have HV := Lib.hid (HW.out.later (Below.alloc_self W2 (.cells #[.bool false, .slice none 0 0] 220)))
    refine hK _ _ HV.out.cells.2 ?_
    clear hK K'
    have HZ := Lib.hid (IntK.zero (k := .u64) (s := 64) W2 _ objT_int)
    have HI := Lib.hid (HW.out.2.2.1.lt)
    have HI0 := Lib.hid (HW.out.2.2.2.size)
    replace HP1 := Lib.hid (HP1.out.below (Below.alloc_self W2 (.cells #[.bool false, .slice none 0 0] 220)))
    replace HP2 := Lib.hid (HP2.out.below (Below.alloc_self W2 (.cells #[.bool false, .slice none 0 0] 220)))
    clear HW
    generalize hWn : W2.alloc (.cells #[.bool false, .slice none 0 0] 220) = W3 at *
    generalize W2.heap.size = ib at *
    clear hWn
    have HW := HV
    clear HV
    refine wpPl_run rfl fun K' hK => ?_
    go_simp
    refine (Add_any ib 0 p1 0 p2 0 _ _ _ HZ.out.1 HP1.out HP2.out ?_ ?_).mono ?_
    ·exact ln_of_bl (Nat.le_trans (bl_shl _ _) (by have := HL.out; omega))
    ·exact ln_of_bl (Nat.le_trans (bl_shl _ _) (by have := HL2.out; omega))
    rintro e1 wf ⟨rfl, hi3, hm3⟩
    have HO : Hid (Own2 w wf (w.heap.size + 1 + 1) 199 #[.pointer none, .int .i64 0] ib (z * 2 ^ (e - g).toNat + y * 2 ^ (f - g).toNat)) := by
     have h4 := HW.out.mod hm3 HI.out HI0.out
     exact Lib.hid ⟨hi3, h4.2.2.1, objT_exact, h4.2.2.2, by have := HI.out; omega, by omega, HI0.out⟩
    have HC3 := (HW.out.mod hm3 HI.out HI0.out).cells.2
    have hS : (fun w' : World => (w'.cell? ⟨w.heap.size, 0, none⟩ = some (.pointer (some ⟨b, 0, none⟩)) ∧ w'.cell? ⟨w.heap.size, 1, none⟩ = some (.int .i64 e)) ∧ w'.cell? ⟨w.heap.size + 1, 0, none⟩ = some (.pointer (some ⟨c, 0, none⟩)) ∧ w'.cell? ⟨w.heap.size + 1, 1, none⟩ = some (.int .i64 f)) wf := HC3
    refine hK _ _ HC3 ?_
    clear hK K' hi3 hm3 HC3
    repeat (refine wpPl_take (v := ?_) rfl (fun _ _ _ h => h) rfl (fun w' hSw => ?_) hS ?_; rotate_left; focus (go_simp; with_reducible rfl); try simp only [Act.put, setL])
    clear hS
    refine wpPl_nil ?_
    simp only [drL]
    obtain ⟨r0, r1, r2, r3⟩ := HO.out.res.cells2
    generalize z * 2 ^ (e - g).toNat + y * 2 ^ (f - g).toNat = R at *
    clear HW HZ HP1 HP2
    go_wp2
    refine bodyPost_ret (v := ExV ib g) (by simp [results, Tryz.results210, go_sem, ExV, r0, r1]) rfl ⟨ib, rfl, (HO.out.store2 _ _).1, (HO.out.store2 _ _).2⟩
theorem dyplus_any (b c : Nat) (z e y f : Int) (w : World) (hx : IntAt w b 0 z) (hy : IntAt w c 0 y)
  (hl : bl z.natAbs ≤ 34359738368) (hl2 : bl y.natAbs ≤ 34359738368) (he1 : -8589934592 ≤ e) (he2 : e ≤ 8589934592) (hf1 : -8589934592 ≤ f) (hf2 : f ≤ 8589934592) :
  Calls Tryz.prog 210 #[ExV b e, ExV c f] w (ExAny (plZ z e y f) (plE z e y f) w) := by
 unfold plZ plE
 by_cases hz : z = 0
 ·subst hz; rw [if_pos rfl, if_pos rfl]; exact plus_zero b c e y f w hx hy
 ·rw [if_neg hz, if_neg hz]
  by_cases h0 : y = 0
  ·subst h0; rw [if_pos rfl, if_pos rfl]; exact plus_zero2 b c z e f w hx hy hz
  ·rw [if_neg h0, if_neg h0]; exact plus_both b c z e y f _ w hx hy hz h0 rfl hl hl2 he1 he2 hf1 hf2
end
section
open Go.RowKit
set_option maxRecDepth 100000 in
set_option maxHeartbeats 800000 in
theorem dytimes_any (b c : Nat) (z e y f : Int) (w : World) (hx : IntAt w b 0 z) (hy : IntAt w c 0 y)
  (hl : bl z.natAbs ≤ 34359738368) (hl2 : bl y.natAbs ≤ 34359738368) (he1 : -8589934592 ≤ e) (he2 : e ≤ 8589934592) (hf1 : -8589934592 ≤ f) (hf2 : f ≤ 8589934592) :
  Calls Tryz.prog 185 #[ExV b e, ExV c f] w (ExNew (z * y) (e + f) w) := by
 have HX := Lib.hid hx
 have HY := Lib.hid hy
 have HL := Lib.hid hl
 have HL2 := Lib.hid hl2
 clear hx hy hl hl2
 unfold ExV
 go_enter Tryz.func185, Tryz.ntmps185
 go_wp2
 refine wp_region_pl (fun w' : World => (w'.cell? ⟨w.heap.size, 0, none⟩ = some (.pointer (some ⟨b, 0, none⟩)) ∧ w'.cell? ⟨w.heap.size, 1, none⟩ = some (.int .i64 e)) ∧ w'.cell? ⟨w.heap.size + 1, 0, none⟩ = some (.pointer (some ⟨c, 0, none⟩)) ∧ w'.cell? ⟨w.heap.size + 1, 1, none⟩ = some (.int .i64 f)) 12 (.take 1 (.take 2 (.take 3 (.take 4 (.take 6 (.take 7 (.take 8 (.take 9 (.take 10 (.run 0 (.run 5 (.take 11 .nil)))))))))))) (by kernel_rfl) (by kernel_rfl) ?_
 generalize hW : (((w.alloc (.cells #[.pointer (some ⟨b, 0, none⟩), .int .i64 e] 199)).alloc (.cells #[.pointer (some ⟨c, 0, none⟩), .int .i64 f] 199)).alloc (.cells #[.pointer none, .int .i64 0] 199)).drew = W0
 have HW : Hid (Box2 w.heap.size w W0 b c e f) := by subst hW; exact Lib.hid (Box2.start w b c e f)
 have hS : (fun w' : World => (w'.cell? ⟨w.heap.size, 0, none⟩ = some (.pointer (some ⟨b, 0, none⟩)) ∧ w'.cell? ⟨w.heap.size, 1, none⟩ = some (.int .i64 e)) ∧ w'.cell? ⟨w.heap.size + 1, 0, none⟩ = some (.pointer (some ⟨c, 0, none⟩)) ∧ w'.cell? ⟨w.heap.size + 1, 1, none⟩ = some (.int .i64 f)) W0 := HW.out.cells.2
 clear hW
 repeat (refine wpPl_take (v := ?_) rfl (fun _ _ _ h => h) rfl (fun w' hSw => ?_) hS ?_; rotate_left; focus (go_simp; with_reducible rfl); try simp only [Act.put, setL])
 clear hS
 refine wpPl_run rfl fun K' hK => ?_
 go_simp
 have HV := Lib.hid (HW.out.later (Below.alloc_self W0 (.cells #[.bool false, .slice none 0 0] 220)))
 refine hK _ _ HV.out.cells.2 ?_
 clear hK K'
 have HZ := Lib.hid (IntK.zero (k := .u64) (s := 64) W0 _ objT_int)
 have HI := Lib.hid (HW.out.2.2.1.lt)
 have HI0 := Lib.hid (HW.out.2.2.2.size)
 clear HW
 generalize hWn : W0.alloc (.cells #[.bool false, .slice none 0 0] 220) = W1 at *
 generalize W0.heap.size = ib at *
 clear hWn
 refine wpPl_run rfl fun K' hK => ?_
 go_simp
 refine (Mul_any ib 0 _ 0 _ 0 z y _ HZ.out.1 (HX.out.below HV.out.2.2.2) (HY.out.below HV.out.2.2.2) (ln_of_bl (Nat.le_trans HL.out (by omega))) (ln_of_bl (Nat.le_trans HL2.out (by omega)))).mono ?_
 rintro e1 wf ⟨rfl, hi3, hm3⟩
 have HO : Hid (Own2 w wf (w.heap.size + 1 + 1) 199 #[.pointer none, .int .i64 0] ib (z * y)) := by
  have h4 := HV.out.mod hm3 HI.out HI0.out
  exact Lib.hid ⟨hi3, h4.2.2.1, objT_exact, h4.2.2.2, by have := HI.out; omega, by omega, HI0.out⟩
 have HC3 := (HV.out.mod hm3 HI.out HI0.out).cells.2
 have hS : (fun w' : World => (w'.cell? ⟨w.heap.size, 0, none⟩ = some (.pointer (some ⟨b, 0, none⟩)) ∧ w'.cell? ⟨w.heap.size, 1, none⟩ = some (.int .i64 e)) ∧ w'.cell? ⟨w.heap.size + 1, 0, none⟩ = some (.pointer (some ⟨c, 0, none⟩)) ∧ w'.cell? ⟨w.heap.size + 1, 1, none⟩ = some (.int .i64 f)) wf := HC3
 refine hK _ _ HC3 ?_
 clear hK K' hi3 hm3 HC3
 repeat (refine wpPl_take (v := ?_) rfl (fun _ _ _ h => h) rfl (fun w' hSw => ?_) hS ?_; rotate_left; focus (go_simp; with_reducible rfl); try simp only [Act.put, setL])
 clear hS
 refine wpPl_nil ?_
 simp only [drL]
 obtain ⟨r0, r1, r2, r3⟩ := HO.out.res.cells2
 generalize z * y = R at *
 clear HV HZ
 go_wp2
 refine bodyPost_ret (v := ExV ib (e + f)) (by simp [results, Tryz.results185, go_sem, ExV, r0, r1]) rfl ⟨ib, rfl, HI0.out, (HO.out.store2 _ _).1, (HO.out.store2 _ _).2⟩
end
end Go.Proofs.YtfmecpembnmnkaaGreatDoor
