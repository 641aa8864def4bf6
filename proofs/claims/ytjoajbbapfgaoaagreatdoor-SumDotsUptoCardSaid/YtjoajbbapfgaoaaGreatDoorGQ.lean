/- Walks: the references' exact numbers (binnacleref03): Out. Printed by wip/gen/rx4.py. -/
import Derived.Test.YtjoajbbapfgaoaaGreatDoorGP
import Derived.Maps.AppendAt
import Derived.Test.YtjoajbbapfgaoaaGreatDoorGL
section
namespace Go.Proofs.YtjoajbbapfgaoaaGreatDoor
open Go.RowKit

/-- The blocks of Out behind Odd. -/
def OutPre (w0 W : World) (p : Nat) (z e : Int) : Prop :=
  BlkT W w0.heap.size 34 #[.pointer (some ⟨p, 0, none⟩), .int .i64 e] ∧ BlkT W (w0.heap.size + 1) 24 #[.bool false, .slice none 0 0, .int .i64 0] ∧ RInt W p z ∧ Below w0.heap.size w0 W ∧ w0.heap.size + 1 < p
theorem OutPre.later {w0 W V : World} {p : Nat} {z e : Int} (h : OutPre w0 W p z e) (hb : Below W.heap.size W V) : OutPre w0 V p z e :=
  ⟨h.1.below hb, h.2.1.below hb, h.2.2.1.below hb, h.2.2.2.1.trans (hb.mono h.2.2.2.1.size), h.2.2.2.2⟩
theorem OutPre.cells {w0 W : World} {p : Nat} {z e : Int} (h : OutPre w0 W p z e) : W.cell? ⟨w0.heap.size, 0, none⟩ = some (.pointer (some ⟨p, 0, none⟩)) ∧ W.cell? ⟨w0.heap.size, 1, none⟩ = some (.int .i64 e) := ⟨h.1.cell 0, h.1.cell 1⟩

/-- A number whose words do not lie in the row that grew. -/
theorem RInt.grownOwn {w w' : World} {c : Nat} {z : Int} {row : Option Nat} (h : RInt w c z) (hg : w.grownBy w' row) (hc : some c ≠ row)
    (ha : ∀ a n k, w.cell? ⟨c, 1, none⟩ = some (.slice (some a) n k) → 0 < n → some a.block ≠ row) : RInt w' c z := by
  obtain ⟨⟨h1, ⟨u, h2, h2'⟩, h3, h4, ⟨s0, h5⟩, a, n, m, h6⟩, h7, v, h8, h9⟩ := h
  have hb := hg.block c h1 hc
  have h8' := (World.cell?_of_block (a := ⟨c, 0 + 1, none⟩) hb).trans h8
  refine ⟨⟨Nat.lt_of_lt_of_le h1 hg.size, ⟨u, h2.of_block hb, h2'⟩, (World.frozen?_of_block (a := ⟨c, 0, none⟩) hb).trans h3, (World.frozen?_of_block (a := ⟨c, 0 + 1, none⟩) hb).trans h4, ⟨s0, (World.cell?_of_block (a := ⟨c, 0, none⟩) hb).trans h5⟩, a, n, m, (World.cell?_of_block (a := ⟨c, 0 + 1, none⟩) hb).trans h6⟩,
    (World.cell?_of_block (a := ⟨c, 0, none⟩) hb).trans h7, v, h8', ?_⟩
  obtain ⟨ao, cap, rfl, hcap, hN, hn, hcc⟩ := h9
  refine ⟨ao, cap, rfl, hcap, hN, hn, fun h0 => ?_⟩
  obtain ⟨g, off, rfl, hlt, he, hcc⟩ := hcc h0
  have hb2 := hg.block g hlt (ha ⟨g, off, none⟩ _ _ h8 h0)
  exact ⟨g, off, rfl, Nat.lt_of_lt_of_le hlt hg.size, he.of_block hb2, fun i hi => (World.cell?_of_block (w := w) (a := ⟨g, off + i, none⟩) hb2).trans (hcc i hi)⟩

theorem OutPre.set3 {w0 W : World} {p db : Nat} {z e : Int} {cs : Array Value} (h : OutPre w0 W p z e) (hd : BlkT W db 24 cs) (h1 : w0.heap.size + 1 < db ∧ p < db) (x0 x1 x2 : Value) :
    OutPre w0 (((W.setCell ⟨db, 0, none⟩ x0).setCell ⟨db, 1, none⟩ x1).setCell ⟨db, 2, none⟩ x2) p z e :=
  ⟨((h.1.setOther (by omega) _).setOther (by omega) _).setOther (by omega) _, ((h.2.1.setOther (by omega) _).setOther (by omega) _).setOther (by omega) _,
    ((h.2.2.1.setOther hd objT_dyad (by omega) _).setOther (hd.set _) objT_dyad (by omega) _).setOther ((hd.set _).set _) objT_dyad (by omega) _,
    ((h.2.2.2.1.setCell (show w0.heap.size ≤ db by omega) _).setCell (show w0.heap.size ≤ db by omega) _).setCell (show w0.heap.size ≤ db by omega) _, h.2.2.2.2⟩

theorem sign_pos_nat {M : Nat} (h : ¬ M = 0) : (0 : Int) < ((M : Nat) : Int).sign := by rw [Int.sign_eq_one_of_pos (by omega)]; decide

theorem low_digit (N k : Nat) : IntKind.u32.wrap ((((dg 64 (((N / 2 ^ (32 * k) : Nat) : Int)).natAbs 0 : Nat) : Int)).tmod 4294967296) = ((dg 32 N k : Nat) : Int) := by
  rw [Int.tmod_eq_emod_of_nonneg (by omega), Int.natAbs_natCast]
  unfold dg
  generalize N / 2 ^ (32 * k) = M
  rw [show ((((M / 2 ^ (64 * 0) % 2 ^ 64 : Nat)) : Int) % 4294967296) = ((M % 4294967296 : Nat) : Int) from by simp, wrap_u32_nat]
  simp

/-- The state of Out's loop. -/
structure OutRel (w0 wr : World) (neg : Bool) (e : Int) (N M k : Nat) (v : Value) (db mb B : Nat) : Prop where
  d : BlkT wr db 24 #[.bool neg, v, .int .i64 e]
  res : BlkT wr (w0.heap.size + 1) 24 #[.bool false, .slice none 0 0, .int .i64 0]
  m : RInt wr mb (M : Nat)
  own : wr.ownsRow B 53 1 v k (digs N k)
  below : Below w0.heap.size w0 wr
  hB : B ≤ wr.heap.size
  hd : w0.heap.size + 1 < db ∧ db < B
  hm : w0.heap.size + 1 < mb ∧ mb < B ∧ mb ≠ db
  apt : ∀ a n c, wr.cell? ⟨mb, 1, none⟩ = some (.slice (some a) n c) → 0 < n → some a.block ≠ v.ownBlock

theorem OutRel.later {w0 wr w2 : World} {neg : Bool} {e : Int} {N M k : Nat} {v : Value} {db mb B : Nat} (h : OutRel w0 wr neg e N M k v db mb B) (hb : Below wr.heap.size wr w2) : OutRel w0 w2 neg e N M k v db mb B :=
  ⟨h.d.below hb, h.res.below hb, h.m.below hb, h.own.kept (grown_of_below hb) (by cases v.ownBlock <;> simp), h.below.trans (hb.mono h.below.size), Nat.le_trans h.hB hb.size, h.hd, h.hm, fun a n c hc => h.apt a n c ((hb.cell (p := ⟨mb, 1, none⟩) h.m.1.1).symm.trans hc)⟩

theorem OutRel.push {w0 wr w2 : World} {neg : Bool} {e : Int} {N M k : Nat} {v v' : Value} {db mb B : Nat} (h : OutRel w0 wr neg e N M k v db mb B) (hg : wr.grownBy w2 v.ownBlock) (ho : w2.ownsRow B 53 1 v' (k + 1) (digs N (k + 1))) (hv : v'.ownBlock = v.ownBlock ∨ v'.ownBlock = some wr.heap.size) :
    OutRel w0 (w2.setCell ⟨db, 1, none⟩ v') neg e N M (k + 1) v' db mb B := by
  have hd := h.hd
  have hm := h.hm
  have hne : ∀ {b : Nat}, b < B → some b ≠ v.ownBlock := fun hb e => by have := (h.own.lt _ e.symm).1; omega
  have h0 := h.d.of_block (hg.block db (Nat.lt_of_lt_of_le hd.2 h.hB) (hne hd.2))
  have h1 := h.res.of_block (hg.block _ (by have := h.hB; omega) (hne (by omega)))
  have h2 := RInt.grownOwn h.m hg (hne hm.2.1) h.apt
  refine ⟨h0.set _, h1.setOther (by omega) _, h2.setOther h0 objT_dyad hm.2.2 _, ho.kept (grown_of_set _ _ _ _) (owns_ne ho hd.2), ?_, ?_, hd, hm, ?_⟩
  · exact (h.below.grown hg h.below.size (fun k hk => by have := (h.own.lt k hk).1; omega)).setCell (show w0.heap.size ≤ db by omega) _
  · have := h.hB; have := hg.size; simp; omega
  · intro a n c hcell h0
    rw [cellOther (fun e => by simp only [Addr.mk.injEq] at e; exact hm.2.2 e.1.symm)] at hcell
    rw [World.cell?_of_block (w := wr) (a := ⟨mb, 1, none⟩) (hg.block mb h.m.1.1 (hne hm.2.1))] at hcell
    have h3 := h.apt a n c hcell h0
    rcases hv with hv | hv
    · rw [hv]; exact h3
    · rw [hv]
      obtain ⟨-, -, u, h8, ao, cap, rfl, -, -, -, hcc⟩ := h.m
      rw [show (⟨mb, 0 + 1, none⟩ : Addr) = ⟨mb, 1, none⟩ from rfl, hcell] at h8
      simp only [Option.some.injEq, Value.slice.injEq] at h8
      obtain ⟨g, off, e, hlt, -⟩ := hcc (by omega)
      rw [← h8.1, Option.some.injEq] at e
      subst e
      simp; omega

theorem OutRel.rsh {w0 wr w2 : World} {neg : Bool} {e : Int} {N M M' k : Nat} {v : Value} {db mb B : Nat} (h : OutRel w0 wr neg e N M k v db mb B) (hi : RInt w2 mb (M' : Nat)) (hm2 : Mod mb 0 wr w2) (hf : ∀ a n c, w2.cell? ⟨mb, 0 + 1, none⟩ = some (.slice (some a) n c) → wr.heap.size ≤ a.block) : OutRel w0 w2 neg e N M' k v db mb B := by
  have hd := h.hd
  have hm := h.hm
  exact ⟨h.d.mod hm2 hm.2.2.symm, h.res.mod hm2 (by omega), hi, h.own.kept (grown_of_mod hm2) (owns_ne h.own hm.2.1), hm2.below h.below (by omega) h.below.size, Nat.le_trans h.hB hm2.size, hd, hm, fun a n c hc _ e => by
    have h1 := hf a n c hc
    have h2 := (h.own.lt _ e.symm).2
    omega⟩

theorem OutRel.fin {w0 wr : World} {e : Int} {z : Int} {Mn : Nat} {v : Value} {db mb B : Nat} (h : OutRel w0 wr (decide (z < 0)) e z.natAbs Mn (ln 32 z.natAbs) v db mb B) (hn : ln 32 z.natAbs ≤ 1099511627776) (hB : w0.heap.size ≤ B) :
    DyNew z e w0 (.returned (.tuple #[DyV (decide (z < 0)) v e, .int .i64 0])) (((wr.setCell ⟨w0.heap.size + 1, 0, none⟩ (.bool (decide (z < 0)))).setCell ⟨w0.heap.size + 1, 1, none⟩ v).setCell ⟨w0.heap.size + 1, 2, none⟩ (.int .i64 e)) := by
  have hne : w0.heap.size + 1 < B := by have := h.hd; omega
  have k1 := h.own.kept (grown_of_set _ (w0.heap.size + 1) 0 (.bool (decide (z < 0)))) (owns_ne h.own hne)
  have k2 := k1.kept (grown_of_set _ (w0.heap.size + 1) 1 v) (owns_ne k1 hne)
  have k3 := k2.kept (grown_of_set _ (w0.heap.size + 1) 2 (.int .i64 e)) (owns_ne k2 hne)
  refine ⟨v, rfl, Raw.of_owns k3 rfl (fun i hi => digs_get hi) (lt_ln (by decide)) hn, ?_, ((h.below.setCell (by simp) _).setCell (by simp) _).setCell (by simp) _⟩
  obtain ⟨ao, n, cap, e1, e2⟩ := OwnS.of_owns k3
  exact ⟨ao, n, cap, e1, fun a ha => by obtain ⟨b, cs, e3, e4, e5⟩ := e2 a ha; exact ⟨b, cs, e3, by omega, e5⟩⟩

set_option maxRecDepth 100000 in
set_option maxHeartbeats 2000000 in
theorem rOut_err (b : Nat) (z e : Int) (w : World) (hx : RInt w b z) (hl : bl z.natAbs ≤ 68719476736) (h1 : -1099511627776 ≤ e) (h2 : e ≤ 1099511627776) (hT : Tab32 w) (hTs : 2 < w.heap.size)
    (HG : Hid (65536 < bl (hvZ z).natAbs ∨ (bl (hvZ z).natAbs ≤ 65536 ∧ nrE z e < -100000) ∨ (bl (hvZ z).natAbs ≤ 65536 ∧ -100000 ≤ nrE z e ∧ 100000 < nrE z e))) :
    Calls Tryz.prog 75 #[ExV b e] w (DyErr 2 w) := by
  have HX := Lib.hid hx
  have HT := Lib.hid hT
  have HTs := Lib.hid hTs
  have HL := Lib.hid hl
  have hblz : bl (hvZ z).natAbs ≤ 68719476736 := Nat.le_trans (bl_mono hvZ_natAbs_le) hl
  clear hx hT hTs hl
  unfold ExV
  go_enter Tryz.func75, Tryz.ntmps75
  go_wp2_with fail
  refine (rOdd_any b z e _ (HX.out.below (below2 _ _ _)) HL.out h1 h2 (HT.out.below HTs.out (below2 _ _ _)) (Nat.lt_of_lt_of_le HTs.out (below2 _ _ _).size)).mono ?_
  rintro e1 W ⟨p, rfl, hp, hi, hb⟩
  have HP : Hid (OutPre w ((W.setCell ⟨w.heap.size, 0, none⟩ (.pointer (some ⟨p, 0, none⟩))).setCell ⟨w.heap.size, 1, none⟩ (.int .i64 (nrE z e))) p (hvZ z) (nrE z e)) := by
    have k1 : BlkT ((w.alloc (.cells #[.pointer (some ⟨b, 0, none⟩), .int .i64 e] 34)).alloc (.cells #[.bool false, .slice none 0 0, .int .i64 0] 24)) w.heap.size 34 #[.pointer (some ⟨b, 0, none⟩), .int .i64 e] := (BlkT.new w _ _).alloc _
    have k2 := BlkT.new1 w (.cells #[.pointer (some ⟨b, 0, none⟩), .int .i64 e] 34) #[.bool false, .slice none 0 0, .int .i64 0] 24
    have k3 := k1.below hb
    have k4 := k2.below hb
    have hpp : w.heap.size + 1 < p := by simp at hp; omega
    refine Lib.hid ⟨(k3.set _).set _, (k4.setOther (by omega) _).setOther (by omega) _, (hi.setOther k3 objT_rexact (by omega) _).setOther (k3.set _) objT_rexact (by omega) _, ?_, hpp⟩
    exact (((below2 w _ _).trans (hb.mono (by simp; omega))).setCell (Nat.le_refl _) _).setCell (Nat.le_refl _) _
  have HW : Hid (BlkT W w.heap.size 34 #[.pointer (some ⟨b, 0, none⟩), .int .i64 e]) := Lib.hid (BlkT.below ((BlkT.new w _ _).alloc _) hb)
  obtain ⟨x0, x1, x2, x3⟩ := HW.out.cells2
  clear hp hi hb
  generalize hz' : hvZ z = z' at *
  generalize he' : nrE z e = e' at *
  have HZE := Lib.hid (And.intro hz' he')
  clear hz' he'
  unfold ExV
  go_wp2_with fail
  generalize hV : (W.setCell ⟨w.heap.size, 0, none⟩ (.pointer (some ⟨p, 0, none⟩))).setCell ⟨w.heap.size, 1, none⟩ (.int .i64 e') = V at HP ⊢
  clear hV x0 x1 x2 x3 HW
  refine (rBitLen_any p 0 z' _ HP.out.2.2.1).mono ?_
  rintro e2 V1 ⟨rfl, hb1⟩
  replace HP := Lib.hid (HP.out.later hb1)
  clear hb1
  obtain ⟨x0, x1, x2, x3⟩ := HP.out.1.cells2
  obtain ⟨q0, q1, q2, q3, q4, q5⟩ := HP.out.2.1.cells3
  generalize hbl : bl z'.natAbs = q at *
  have HBL := Lib.hid hbl
  clear hbl
  rcases HG.out with g | ⟨g, g'⟩ | ⟨g, g', g2⟩
  · have hq1 : decide ((65536 : Int) < (q : Int)) = true := by simp; omega
    go_wp2
    refine bodyPost_ret (v := .tuple #[DyV false (.slice none 0 0) 0, .int .i64 2]) (by simp [results, Tryz.results75, go_sem, DyV, q0, q1, q2]) rfl ⟨rfl, ?_⟩
    exact ((HP.out.2.2.2.1.setCell (by simp) _).setCell (by simp) _).setCell (by simp) _
  · have hq1 : decide ((65536 : Int) < (q : Int)) = false := by simp; omega
    have hq2 : decide (e' < (-100000 : Int)) = true := by simp; omega
    go_wp2
    refine bodyPost_ret (v := .tuple #[DyV false (.slice none 0 0) 0, .int .i64 2]) (by simp [results, Tryz.results75, go_sem, DyV, q0, q1, q2]) rfl ⟨rfl, ?_⟩
    exact ((HP.out.2.2.2.1.setCell (by simp) _).setCell (by simp) _).setCell (by simp) _
  · have hq1 : decide ((65536 : Int) < (q : Int)) = false := by simp; omega
    have hq2 : decide (e' < (-100000 : Int)) = false := by simp; omega
    have hq3 : decide ((100000 : Int) < e') = true := by simp; omega
    go_wp2
    refine bodyPost_ret (v := .tuple #[DyV false (.slice none 0 0) 0, .int .i64 2]) (by simp [results, Tryz.results75, go_sem, DyV, q0, q1, q2]) rfl ⟨rfl, ?_⟩
    exact ((HP.out.2.2.2.1.setCell (by simp) _).setCell (by simp) _).setCell (by simp) _

set_option maxRecDepth 100000 in
set_option maxHeartbeats 2000000 in
theorem rOut_ok (b : Nat) (z e : Int) (w : World) (hx : RInt w b z) (hl : bl z.natAbs ≤ 68719476736) (h1 : -1099511627776 ≤ e) (h2 : e ≤ 1099511627776) (hT : Tab32 w) (hTs : 2 < w.heap.size)
    (HG : Hid (bl (hvZ z).natAbs ≤ 65536 ∧ nrE z e ≤ 100000 ∧ -100000 ≤ nrE z e)) :
    Calls Tryz.prog 75 #[ExV b e] w (DyNew (hvZ z) (nrE z e) w) := by
  obtain ⟨i0, hi, hz0, hz1, hz2⟩ := info_parts Tryz.info53
  have HX := Lib.hid hx
  have HT := Lib.hid hT
  have HTs := Lib.hid hTs
  have HL := Lib.hid hl
  have hblz : bl (hvZ z).natAbs ≤ 68719476736 := Nat.le_trans (bl_mono hvZ_natAbs_le) hl
  clear hx hT hTs hl
  unfold ExV
  go_enter Tryz.func75, Tryz.ntmps75
  go_wp2_with fail
  refine (rOdd_any b z e _ (HX.out.below (below2 _ _ _)) HL.out h1 h2 (HT.out.below HTs.out (below2 _ _ _)) (Nat.lt_of_lt_of_le HTs.out (below2 _ _ _).size)).mono ?_
  rintro e1 W ⟨p, rfl, hp, hi, hb⟩
  have HP : Hid (OutPre w ((W.setCell ⟨w.heap.size, 0, none⟩ (.pointer (some ⟨p, 0, none⟩))).setCell ⟨w.heap.size, 1, none⟩ (.int .i64 (nrE z e))) p (hvZ z) (nrE z e)) := by
    have k1 : BlkT ((w.alloc (.cells #[.pointer (some ⟨b, 0, none⟩), .int .i64 e] 34)).alloc (.cells #[.bool false, .slice none 0 0, .int .i64 0] 24)) w.heap.size 34 #[.pointer (some ⟨b, 0, none⟩), .int .i64 e] := (BlkT.new w _ _).alloc _
    have k2 := BlkT.new1 w (.cells #[.pointer (some ⟨b, 0, none⟩), .int .i64 e] 34) #[.bool false, .slice none 0 0, .int .i64 0] 24
    have k3 := k1.below hb
    have k4 := k2.below hb
    have hpp : w.heap.size + 1 < p := by simp at hp; omega
    refine Lib.hid ⟨(k3.set _).set _, (k4.setOther (by omega) _).setOther (by omega) _, (hi.setOther k3 objT_rexact (by omega) _).setOther (k3.set _) objT_rexact (by omega) _, ?_, hpp⟩
    exact (((below2 w _ _).trans (hb.mono (by simp; omega))).setCell (Nat.le_refl _) _).setCell (Nat.le_refl _) _
  have HW : Hid (BlkT W w.heap.size 34 #[.pointer (some ⟨b, 0, none⟩), .int .i64 e]) := Lib.hid (BlkT.below ((BlkT.new w _ _).alloc _) hb)
  obtain ⟨x0, x1, x2, x3⟩ := HW.out.cells2
  clear hp hi hb
  generalize hz' : hvZ z = z' at *
  generalize he' : nrE z e = e' at *
  have HZE := Lib.hid (And.intro hz' he')
  clear hz' he'
  unfold ExV
  go_wp2_with fail
  generalize hV : (W.setCell ⟨w.heap.size, 0, none⟩ (.pointer (some ⟨p, 0, none⟩))).setCell ⟨w.heap.size, 1, none⟩ (.int .i64 e') = V at HP ⊢
  clear hV x0 x1 x2 x3 HW
  refine (rBitLen_any p 0 z' _ HP.out.2.2.1).mono ?_
  rintro e2 V1 ⟨rfl, hb1⟩
  replace HP := Lib.hid (HP.out.later hb1)
  clear hb1
  obtain ⟨x0, x1, x2, x3⟩ := HP.out.1.cells2
  obtain ⟨q0, q1, q2, q3, q4, q5⟩ := HP.out.2.1.cells3
  generalize hbl : bl z'.natAbs = q at *
  have HBL := Lib.hid hbl
  clear hbl
  obtain ⟨sg, HS, hneg⟩ : ∃ sg, Hid (z'.sign = sg) ∧ decide (sg < 0) = decide (z' < 0) := ⟨_, Lib.hid rfl, sg_neg z'⟩
  obtain ⟨neg, hneg2⟩ : ∃ neg, decide (z' < 0) = neg := ⟨_, rfl⟩
  rw [hneg2] at hneg
  have HNG := Lib.hid hneg2
  clear hneg2
  obtain ⟨g1, g2, g3⟩ := HG.out
  have hq1 : decide ((65536 : Int) < (q : Int)) = false := by simp; omega
  have hq2 : decide (e' < (-100000 : Int)) = false := by simp; omega
  have hq3 : decide ((100000 : Int) < e') = false := by simp; omega
  go_wp2
  refine wp_region_q (fun w' : World => w'.cell? ⟨w.heap.size, 0, none⟩ = some (.pointer (some ⟨p, 0, none⟩)) ∧ w'.cell? ⟨w.heap.size, 1, none⟩ = some (.int .i64 e')) 8 (.take 0 (.take 1 (.take 4 (.take 5 (.bag [(2, 25, [(3, 26), (6, 29)]), (7, 4, [])] .nil))))) (by kernel_rfl) (by kernel_rfl) ?_
  replace HP := Lib.hid (HP.out.later (drew_below V1))
  clear x0 x1 x2 x3 q0 q1 q2 q3 q4 q5
  obtain ⟨W0, hW0⟩ : ∃ v, V1.drew = v := ⟨_, rfl⟩
  rw [hW0] at HP ⊢
  clear hW0
  have hS : (fun w' : World => w'.cell? ⟨w.heap.size, 0, none⟩ = some (.pointer (some ⟨p, 0, none⟩)) ∧ w'.cell? ⟨w.heap.size, 1, none⟩ = some (.int .i64 e')) W0 := HP.out.cells
  repeat (refine wpPq_takeL (v := ?_) rfl rfl (fun _ _ _ h => h) rfl (fun w' hSw => ?_) hS ?_; rotate_left; (focus (go_simp; with_reducible rfl)); simp only [List.setIfInBounds_toArray, List.set_cons_zero, List.set_cons_succ])
  clear hS
  refine wpPq_bag (pick [(2, fun v w' => v = .int .i64 sg), (3, fun v w' => v = .bool neg), (6, fun v w' => v = .agg #[.bool neg, .slice none 0 0, .int .i64 e']), (7, fun v w' => ∃ p7, v = .pointer (some ⟨p7, 0, none⟩) ∧ BlkT w' p7 24 #[.bool false, .slice none 0 0, .int .i64 0] ∧ w.heap.size + 1 < p7 ∧ p < p7)]) (pick_mono (bag_cons (fun v w1 w2 hv2 hb => hv2) (bag_cons (fun v w1 w2 hv3 hb => hv3) (bag_cons (fun v w1 w2 hv6 hb => hv6) (bag_cons (fun v w1 w2 ⟨db, hv7, hp7, hq7⟩ hb => ⟨db, hv7, hp7.below hb, hq7⟩) bag_nil))))) (fun w' hb => (HP.out.later hb).cells) (by simp [prE]) (fun _ _ _ _ _ h => h) (bag_cons (bag_one rfl ?_) (bag_cons (bag_one rfl ?_) bag_nil)) (bag_cons (read_one rfl ?_) (bag_cons (read_one rfl ?_) bag_nil)) ?_
  · intro a' V hdf hin hdep hb1 K hK
    have i24 : a'.tmps[24]?.getD undef = .pointer (some ⟨p, 0, none⟩) := evT (hin 24 (by decide))
    clear hin hdep hdf
    have HP := Lib.hid (HP.out.later hb1)
    go_simp
    refine (rSign_any p 0 z' _ HP.out.2.2.1).mono ?_
    rintro e1 V2 ⟨rfl, rfl⟩
    rw [HS.out]
    exact hK _ _ rfl (Below.refl _ _)
  · intro a' V hdf hin hdep hb1 K hK
    clear hin hdep hdf
    have HP := Lib.hid (HP.out.later hb1)
    go_simp
    exact hK _ _ ⟨_, rfl, BlkT.new V _ _, HP.out.2.1.lt, HP.out.2.2.1.1.1⟩ (Below.alloc_self _ _)
  · intro a' V hdf hin hdep hb1
    obtain hv2 : (fun (v : Value) (w' : World) => v = .int .i64 sg) (a'.tmps.getD 25 undef) V := hdep ⟨2, .data⟩ (by simp) rfl 25 (by decide)
    dsimp only at hv2
    replace hv2 := evT hv2
    clear hin hdep hdf
    have HP := Lib.hid (HP.out.later hb1)
    refine ⟨.bool neg, fun W hSw => ?_, rfl⟩
    go_simp
  · intro a' V hdf hin hdep hb1
    have i28 : a'.tmps[28]?.getD undef = .int .i64 e' := evT (hin 28 (by decide))
    obtain hv3 : (fun (v : Value) (w' : World) => v = .bool neg) (a'.tmps.getD 26 undef) V := hdep ⟨3, .data⟩ (by simp) rfl 26 (by decide)
    dsimp only at hv3
    replace hv3 := evT hv3
    clear hin hdep hdf
    have HP := Lib.hid (HP.out.later hb1)
    refine ⟨.agg #[.bool neg, .slice none 0 0, .int .i64 e'], fun W hSw => ?_, rfl⟩
    go_simp
  intro vals B1 hb1 hR
  replace HP := Lib.hid (HP.out.later hb1)
  obtain hv2 : (fun (v : Value) (w' : World) => v = .int .i64 sg) (vals 2) B1 := hR (2, 25) (by decide)
  dsimp only at hv2
  obtain hv3 : (fun (v : Value) (w' : World) => v = .bool neg) (vals 3) B1 := hR (3, 26) (by decide)
  dsimp only at hv3
  obtain hv6 : (fun (v : Value) (w' : World) => v = .agg #[.bool neg, .slice none 0 0, .int .i64 e']) (vals 6) B1 := hR (6, 29) (by decide)
  dsimp only at hv6
  obtain ⟨db, hv7, hp7, hq7⟩ : (fun (v : Value) (w' : World) => ∃ p7, v = .pointer (some ⟨p7, 0, none⟩) ∧ BlkT w' p7 24 #[.bool false, .slice none 0 0, .int .i64 0] ∧ w.heap.size + 1 < p7 ∧ p < p7) (vals 7) B1 := hR (7, 4) (by decide)
  clear hb1 hR
  simp only [prE, List.flatMap_cons, List.flatMap_nil, List.cons_append, List.nil_append, List.append_nil, setD, List.setIfInBounds_toArray, List.set_cons_zero, List.set_cons_succ, hv2, hv3, hv6, hv7]
  clear vals hv2 hv3 hv6 hv7
  refine wpPq_nil ?_
  simp only [List.drop_succ_cons, List.drop_zero]
  obtain ⟨d0, d1, d2, d3, d4, d5⟩ := hp7.cells3
  clear hq1 hq2 hq3
  have HD : Hid (BlkT (((B1.setCell ⟨db, 0, none⟩ (.bool neg)).setCell ⟨db, 1, none⟩ (.slice none 0 0)).setCell ⟨db, 2, none⟩ (.int .i64 e')) db 24 #[.bool neg, .slice none 0 0, .int .i64 e']) := Lib.hid (((hp7.set (i := 0) (.bool neg)).set (i := 1) (.slice none 0 0)).set (i := 2) (.int .i64 e'))
  replace HP := Lib.hid (HP.out.set3 hp7 hq7 (.bool neg) (.slice none 0 0) (.int .i64 e'))
  have HU := Lib.hid HP.out.1.lt
  have HUD := Lib.hid HD.out.lt
  have xo := fun o => (World.cell?_alloc_lt (((B1.setCell ⟨db, 0, none⟩ (.bool neg)).setCell ⟨db, 1, none⟩ (.slice none 0 0)).setCell ⟨db, 2, none⟩ (.int .i64 e')) o ⟨w.heap.size, 0, none⟩ HU.out).trans (HP.out.1.cell 0)
  have xo' : ∀ o, ((((B1.setCell ⟨db, 0, none⟩ (.bool neg)).setCell ⟨db, 1, none⟩ (.slice none 0 0)).setCell ⟨db, 2, none⟩ (.int .i64 e')).alloc o).cell? ⟨w.heap.size, 0, none⟩ = some (.pointer (some ⟨p, 0, none⟩)) := xo
  clear xo
  go_wp2_with fail
  clear xo' d0 d1 d2 d3 d4 d5 hp7
  obtain ⟨U0, hU0⟩ : ∃ u, ((B1.setCell ⟨db, 0, none⟩ (.bool neg)).setCell ⟨db, 1, none⟩ (.slice none 0 0)).setCell ⟨db, 2, none⟩ (.int .i64 e') = u := ⟨_, rfl⟩
  have hUs : (((B1.setCell ⟨db, 0, none⟩ (.bool neg)).setCell ⟨db, 1, none⟩ (.slice none 0 0)).setCell ⟨db, 2, none⟩ (.int .i64 e')).heap.size = B1.heap.size := by simp
  rw [hU0] at HD HP HU HUD hUs ⊢
  rw [← hUs]
  clear hU0 hUs
  refine (rAbs_fresh _ 0 p 0 z' _ (IntK.zero (k := .u32) (s := 32) U0 _ objT_rint).1 (HP.out.2.2.1.below (Below.alloc_self _ _))).mono ?_
  rintro e4 V4 ⟨⟨rfl, him, hmm⟩, hfr⟩
  have HB4 : Hid (Below U0.heap.size U0 V4) := Lib.hid (hmm.below (Below.alloc_self _ _) (Nat.le_refl _) (by simp))
  have HMB : Hid (U0.heap.size < V4.heap.size) := Lib.hid (Nat.lt_of_lt_of_le (by simp) hmm.size)
  have HNL : Hid (ln 32 z'.natAbs ≤ 65536) := Lib.hid (Nat.le_trans (ln_le_bl 32 _ (by decide)) (by rw [HBL.out]; exact g1))
  have hBL := Nat.le_trans (Nat.le_of_eq HBL.out) g1
  have HR0 : Hid (OutRel w V4 neg e' z'.natAbs (z'.natAbs / 2 ^ (32 * 0)) 0 (.slice none 0 0) db U0.heap.size V4.heap.size) := by
    have e1 : z'.natAbs / 2 ^ (32 * 0) = z'.natAbs := by simp
    rw [e1]
    have h4 := HP.out.later HB4.out
    have h6 := HUD.out
    have h7 := HMB.out
    exact Lib.hid ⟨HD.out.below HB4.out, h4.2.1, him, World.ownsRow_nil _ _ _ _, h4.2.2.2.1, Nat.le_refl _, ⟨hq7.1, by omega⟩, ⟨by omega, h7, by omega⟩, fun a n c _ _ e => by simp [Value.ownBlock] at e⟩
  have HBG : Hid (w.heap.size ≤ V4.heap.size) := Lib.hid HR0.out.below.size
  generalize U0.heap.size = mb at *
  generalize hBB : V4.heap.size = B at HR0 HBG
  clear hBB him hmm hfr HB4 HMB HP HD HU HUD hq7
  go_wp2
  rw [← HNG.out] at HR0
  generalize hN : z'.natAbs = N at *
  have HN := Lib.hid hN
  clear hN
  go_loopw [] (fun wr => ∃ (k : Nat) (v : Value), k ≤ ln 32 N ∧ Hid (OutRel w wr (decide (z' < 0)) e' N (N / 2 ^ (32 * k)) k v db mb B))
    (fun wr => ln 32 N - (match wr.cell? ⟨db, 1, none⟩ with | some (.slice _ n _) => n | _ => 0))
  case atStart => exact ⟨0, _, Nat.zero_le _, HR0⟩
  case round =>
    obtain ⟨k, v, hk, HR⟩ := hrel
    obtain ⟨ao, cap, rfl⟩ := owns_shape HR.out.own
    obtain ⟨y0, y1, y2, y3, y4, y5⟩ := HR.out.d.cells3
    by_cases hM : N / 2 ^ (32 * k) = 0
    · have HK : Hid (k = ln 32 N) := Lib.hid (eq_ln_of_div hk hM)
      have HS0 : Hid (((N / 2 ^ (32 * k) : Nat) : Int).sign = 0) := Lib.hid (by rw [hM]; rfl)
      obtain ⟨q0, q1, q2, q3, q4, q5⟩ := HR.out.res.cells3
      clear hM hk
      go_wp2_with fail
      refine (rSign_any mb 0 _ _ HR.out.m).mono ?_
      rintro e5 w5 ⟨rfl, rfl⟩
      rw [HS0.out]
      go_wp2
      refine bodyPost_ret (v := .tuple #[DyV (decide (z' < 0)) (.slice ao k cap) e', .int .i64 0]) (by simp [results, Tryz.results75, go_sem, DyV, q0, q1, q2]) rfl ?_
      have e1 := HK.out
      have e2 := HN.out
      subst e2
      subst e1
      exact HR.out.fin (Nat.le_trans HNL.out (by decide)) HBG.out
    · have hlt := lt_ln_of_div hM
      obtain ⟨sg2, HS2, hsg2⟩ : ∃ sg, Hid (((N / 2 ^ (32 * k) : Nat) : Int).sign = sg) ∧ (0 : Int) < sg := ⟨_, Lib.hid rfl, sign_pos_nat hM⟩
      have HBM : Hid (bl (N / 2 ^ (32 * k)) ≤ 65536) := Lib.hid (Nat.le_trans (bl_mono (Nat.div_le_self _ _)) hBL)
      have hkl := HNL.out
      clear hM
      go_wp2_with fail
      refine (rSign_any mb 0 _ _ HR.out.m).mono ?_
      rintro e5 w5 ⟨rfl, rfl⟩
      rw [HS2.out]
      go_wp2
      refine wp_region_q (fun w' : World => w'.cell? ⟨db, 1, none⟩ = some (.slice ao k cap)) 7 (.take 0 (.take 1 (.take 2 (.run 3 (.take 4 (.take 5 (.run 6 .nil))))))) (by kernel_rfl) (by kernel_rfl) ?_
      have HR1 := Lib.hid (HR.out.later (drew_below wr))
      obtain ⟨U, hU⟩ : ∃ u, wr.drew = u := ⟨_, rfl⟩
      rw [hU] at HR1 ⊢
      clear hU y0 y1 y2 y3 y4 y5
      have hlow := low_digit N k
      obtain ⟨d64, hd64⟩ : ∃ d, dg 64 (((N / 2 ^ (32 * k) : Nat) : Int)).natAbs 0 = d := ⟨_, rfl⟩
      have HD64 := Lib.hid hd64
      have hd64l := dg64_lt (((N / 2 ^ (32 * k) : Nat) : Int)).natAbs 0
      rw [hd64] at hlow hd64l
      clear hd64
      have hdd := dg32_lt N k
      obtain ⟨dd, hdg⟩ : ∃ d, dg 32 N k = d := ⟨_, rfl⟩
      rw [hdg] at hlow hdd
      have HDD := Lib.hid hdg
      clear hdg
      have hS : (fun w' : World => w'.cell? ⟨db, 1, none⟩ = some (.slice ao k cap)) U := (HR1.out.d.cell 1)
      repeat (refine wpPq_takeL (v := ?_) rfl rfl (fun _ _ _ h => h) rfl (fun w' hSw => ?_) hS ?_; rotate_left; (focus (go_simp; with_reducible rfl)); simp only [List.setIfInBounds_toArray, List.set_cons_zero, List.set_cons_succ])
      clear hS
      refine wpPq_goL rfl rfl fun K' hK => ?_
      go_simp
      refine (rUint64_any mb 0 _ _ HR1.out.m).mono ?_
      rintro e5 V1 ⟨rfl, hb1⟩
      rw [HD64.out]
      replace HR1 := Lib.hid (HR1.out.later hb1)
      refine hK _ _ (HR1.out.d.cell 1) ?_
      clear hK K' hb1
      have hS : (fun w' : World => w'.cell? ⟨db, 1, none⟩ = some (.slice ao k cap)) V1 := (HR1.out.d.cell 1)
      repeat (refine wpPq_takeL (v := ?_) rfl rfl (fun _ _ _ h => h) rfl (fun w' hSw => ?_) hS ?_; rotate_left; (focus (go_simp; with_reducible rfl)); simp only [List.setIfInBounds_toArray, List.set_cons_zero, List.set_cons_succ])
      clear hS
      refine wpPq_goL rfl rfl fun K' hK => ?_
      go_simp
      have hb1 := Below.alloc_self V1 (.cells #[.int .u32 dd] 53)
      have hnew := Lib.hid (cell_one_new V1 (.int .u32 dd) 53)
      obtain ⟨tb, htb⟩ : ∃ i, V1.heap.size = i := ⟨_, rfl⟩
      obtain ⟨V2, hV2⟩ : ∃ v, V1.alloc (.cells #[.int .u32 dd] 53) = v := ⟨_, rfl⟩
      rw [hV2] at hb1 hnew
      rw [htb] at hnew
      rw [hV2]
      try rw [htb]
      clear hV2 htb
      replace HR1 := Lib.hid (HR1.out.later hb1)
      refine hK _ _ (HR1.out.d.cell 1) ?_
      clear hK K' hb1
      refine wpPq_nil ?_
      simp only [List.drop_succ_cons, List.drop_zero]
      obtain ⟨d0, d1, d2, d3, d4, d5⟩ := HR1.out.d.cells3
      have hml := HR1.out.hd
      have hmb := HR1.out.hB
      go_wp2_with (at_builtin; refine wpList_append_own_at _ rfl _ _ 22 rfl B 53 i0 (.int .u32 0) 1 4 Tryz.underlying22 hi hz0 hz1 hz2 rfl (by decide) _ _ _ rfl HR1.out.own ⟨tb, 0, none⟩ 1 1 [.int .u32 dd] rfl rfl hnew.out ?c2 ?c3 ?c4 ?c5 ?_)
      case c2 => intro u hu; simp only [List.mem_singleton] at hu; subst hu; rfl
      case c3 => unfold maxLen; omega
      case c4 => omega
      case c5 => exact HR1.out.hB
      intro v' U4 hown hgrow _ hob
      have hown2 : U4.ownsRow B 53 1 v' (k + 1) (digs N (k + 1)) := by rw [digs_succ, HDD.out]; exact hown
      obtain ⟨ao', cap', hv'⟩ := owns_shape hown2
      rw [hv'] at hown2 hob ⊢
      have HPU := Lib.hid (HR1.out.push hgrow hown2 hob)
      have HD4 : Hid (BlkT U4 db 24 #[.bool (decide (z' < 0)), .slice ao k cap, .int .i64 e']) :=
        Lib.hid (HR1.out.d.of_block (hgrow.block db (Nat.lt_of_lt_of_le HR1.out.hd.2 HR1.out.hB) (fun e => by have := (HR1.out.own.lt _ e.symm).1; have := HR1.out.hd.2; omega)))
      clear hown hown2 hgrow hv' hob d0 d1 d2 d3 d4 d5 hnew HR1 hml hmb
      obtain ⟨y0, y1, y2, y3, y4, y5⟩ := HD4.out.cells3
      go_wp2_with fail
      refine (rRsh_fresh mb 0 mb 0 32 _ _ HPU.out.m.1 HPU.out.m (rln_of_bl (Nat.le_trans HBM.out (by decide))) (by omega)).mono ?_
      rintro e6 U5 ⟨⟨rfl, hi6, hm6⟩, hf6⟩
      have e32 : N / 2 ^ (32 * k) / 2 ^ 32 = N / 2 ^ (32 * (k + 1)) := by rw [Nat.mul_succ, Nat.pow_add, ← Nat.div_div_eq_div_mul]
      rw [e32] at hi6
      have HQ := Lib.hid (HPU.out.rsh hi6 hm6 hf6)
      clear hi6 hm6 hf6 e32
      go_wp2
      go_roundw
      case rel => exact ⟨k + 1, _, hlt, HQ⟩
      case measure => rw [HR.out.d.cell 1, HQ.out.d.cell 1]; exact Nat.sub_lt_sub_left hlt (Nat.lt_succ_self k)

end Go.Proofs.YtjoajbbapfgaoaaGreatDoor
end

/- Walks: what a dyad's function answers; whether it is the references' (binnaclelaw03.is). -/
section
namespace Go.Proofs.YtjoajbbapfgaoaaGreatDoor
open Go.RowKit

/-- The answer for z * 2^e: the dyad in its one way, or that it is too long. -/
def DyIs (z e : Int) (w : World) (d : Value) (k : Int) : Prop :=
  ((z = 0 ∨ lngB z e = false) ∧ DyAt w d (hvZ z) (nrE z e) ∧ k = 0) ∨ (z ≠ 0 ∧ lngB z e = true ∧ d = DyV false (.slice none 0 0) 0 ∧ k = 2)

theorem DyIs.below {z e : Int} {w w' : World} {d : Value} {k : Int} (h : DyIs z e w d k) (hb : Below w.heap.size w w') : DyIs z e w' d k := by
  rcases h with ⟨h1, h2, h3⟩ | h
  · exact .inl ⟨h1, h2.below hb, h3⟩
  · exact .inr h

theorem DyIs.shape {z e : Int} {w : World} {d : Value} {k : Int} (h : DyIs z e w d k) : ∃ n ao l c x, d = .agg #[.bool n, .slice ao l c, .int .i64 x] := by
  rcases h with ⟨-, ⟨sl, rfl, ao, cap, rfl, -⟩, -⟩ | ⟨-, -, rfl, -⟩
  · exact ⟨_, _, _, _, _, rfl⟩
  · exact ⟨_, _, _, _, _, rfl⟩

/-- The call answers so. -/
def DyOf (z e : Int) (w : World) (en : Ending) (w' : World) : Prop := ∃ d k, en = .returned (.tuple #[d, .int .i64 k]) ∧ DyIs z e w' d k ∧ Below w.heap.size w w'

theorem DyOf.of_new {z e : Int} {w w' : World} {en : Ending} (hg : z = 0 ∨ lngB z e = false) (h : DyNew (hvZ z) (nrE z e) w en w') : DyOf z e w en w' := by
  obtain ⟨sl, h1, h2, -, h4⟩ := h
  exact ⟨_, _, h1, .inl ⟨hg, ⟨sl, rfl, h2⟩, rfl⟩, h4⟩

theorem DyOf.of_err {z e : Int} {w w' : World} {en : Ending} (h0 : z ≠ 0) (hg : lngB z e = true) (h : DyErr 2 w en w') : DyOf z e w en w' :=
  ⟨_, _, h.1, .inr ⟨h0, hg, rfl, rfl⟩, h.2⟩

theorem good_of_lng {z e : Int} (h : z = 0 ∨ lngB z e = false) : GoodD (hvZ z) (nrE z e) := by
  refine ⟨nrm_hv z e, ?_⟩
  by_cases h0 : z = 0
  · subst h0; rw [hvZ_zero, nrE, if_pos rfl]; exact ⟨by decide, by decide, by decide⟩
  · rcases h with h | h
    · exact absurd h h0
    · unfold lngB at h
      simp only [Bool.or_eq_false_iff, decide_eq_false_iff_not] at h
      rw [nrE, if_neg h0]
      omega

theorem rOut_any (b : Nat) (z e : Int) (w : World) (hx : RInt w b z) (hl : bl z.natAbs ≤ 68719476736) (h1 : -1099511627776 ≤ e) (h2 : e ≤ 1099511627776) (hT : Tab32 w) (hTs : 2 < w.heap.size) :
    Calls Tryz.prog 75 #[ExV b e] w (DyOf z e w) := by
  by_cases hg : z = 0 ∨ lngB z e = false
  · have h3 := good_of_lng hg
    exact (rOut_ok b z e w hx hl h1 h2 hT hTs (Lib.hid ⟨h3.2.1, h3.2.2.2, h3.2.2.1⟩)).mono fun _ _ h => .of_new hg h
  · have h0 : z ≠ 0 := fun h => hg (.inl h)
    have hlng : lngB z e = true := by
      cases hb : lngB z e
      · exact absurd (.inr hb) hg
      · rfl
    refine (rOut_err b z e w hx hl h1 h2 hT hTs (Lib.hid ?_)).mono fun _ _ h => .of_err h0 hlng h
    unfold lngB at hlng
    simp only [Bool.or_eq_true, decide_eq_true_eq] at hlng
    rw [nrE, if_neg h0]
    omega

theorem put_all (b : Nat) (z e : Int) (w : World) (hx : IntAt w b 0 z) (hl : bl z.natAbs ≤ 68719476736) (h1 : -4611686018427387904 ≤ e) (h2 : e ≤ 1099511627776) (hT : Tab64 w) (hTs : 1 < w.heap.size) :
    Calls Tryz.prog 87 #[ExV b e] w (DyOf z e w) := by
  by_cases hg : z = 0 ∨ lngB z e = false
  · exact (put_any b z e w hx hl h1 h2 hT hTs hg).mono fun _ _ h => .of_new hg h
  · have h0 : z ≠ 0 := fun h => hg (.inl h)
    have hlng : lngB z e = true := by
      cases hb : lngB z e
      · exact absurd (.inr hb) hg
      · rfl
    exact (put_errAll b z e w hx hl h1 h2 hT hTs h0 hlng).mono fun _ _ h => .of_err h0 hlng h

/-- The same answers are the same. -/
theorem same_is {z e : Int} {w : World} {c d : Value} {k l : Int} (h1 : DyIs z e w c k) (h2 : DyIs z e w d l) : k = l ∧ Calls Tryz.prog 23 #[c, d] w (Gives (.bool true) w) := by
  rcases h1 with ⟨g1, g2, rfl⟩ | ⟨g1, g2, rfl, rfl⟩
  · rcases h2 with ⟨-, k2, rfl⟩ | ⟨h0, h1, -, -⟩
    · exact ⟨rfl, same_dy _ _ _ _ w g2 k2 (good_of_lng g1)⟩
    · rcases g1 with g1 | g1
      · exact absurd g1 h0
      · rw [g1] at h1; cases h1
  · rcases h2 with ⟨k1, -, -⟩ | ⟨-, -, rfl, rfl⟩
    · rcases k1 with k1 | k1
      · exact absurd k1 g1
      · rw [k1] at g2; cases g2
    · exact ⟨rfl, same_dy _ _ 0 0 w (DyAt.zero w) (DyAt.zero w) good_zero⟩

/-- The blocks of 'is'. -/
def IsBox (w0 W : World) (n m : Bool) (s t : Value) (x y : Int) (b : Nat) (e : Int) : Prop :=
  BlkT W w0.heap.size 24 #[.bool n, s, .int .i64 x] ∧ BlkT W (w0.heap.size + 1) 34 #[.pointer (some ⟨b, 0, none⟩), .int .i64 e] ∧ BlkT W (w0.heap.size + 1 + 1) 24 #[.bool m, t, .int .i64 y] ∧ Below w0.heap.size w0 W

theorem IsBox.later {w0 W V : World} {n m : Bool} {s t : Value} {x y : Int} {b : Nat} {e : Int} (h : IsBox w0 W n m s t x y b e) (hb : Below W.heap.size W V) : IsBox w0 V n m s t x y b e :=
  ⟨h.1.below hb, h.2.1.below hb, h.2.2.1.below hb, h.2.2.2.trans (hb.mono h.2.2.2.size)⟩

theorem IsBox.set3 {w0 W : World} {n m m2 : Bool} {s t t2 : Value} {x y y2 : Int} {b : Nat} {e : Int} (h : IsBox w0 W n m s t x y b e) :
    IsBox w0 (((W.setCell ⟨w0.heap.size + 1 + 1, 0, none⟩ (.bool m2)).setCell ⟨w0.heap.size + 1 + 1, 1, none⟩ t2).setCell ⟨w0.heap.size + 1 + 1, 2, none⟩ (.int .i64 y2)) n m2 s t2 x y2 b e :=
  ⟨((h.1.setOther (by omega) _).setOther (by omega) _).setOther (by omega) _, ((h.2.1.setOther (by omega) _).setOther (by omega) _).setOther (by omega) _,
    ((h.2.2.1.set (i := 0) (.bool m2)).set (i := 1) t2).set (i := 2) (.int .i64 y2), ((h.2.2.2.setCell (by show w0.heap.size ≤ w0.heap.size + 1 + 1; omega) _).setCell (by show w0.heap.size ≤ w0.heap.size + 1 + 1; omega) _).setCell (by show w0.heap.size ≤ w0.heap.size + 1 + 1; omega) _⟩

theorem DyAt.set3 {W : World} {v : Value} {z e : Int} {r : Nat} {cs : Array Value} (h : DyAt W v z e) (hr : BlkT W r 24 cs) (x0 x1 x2 : Value) :
    DyAt (((W.setCell ⟨r, 0, none⟩ x0).setCell ⟨r, 1, none⟩ x1).setCell ⟨r, 2, none⟩ x2) v z e := by
  obtain ⟨sl, rfl, hraw⟩ := h
  exact ⟨sl, rfl, ((hraw.setOther hr objT_dyad _).setOther (hr.set _) objT_dyad _).setOther ((hr.set _).set _) objT_dyad _⟩

theorem DyIs.set3 {W : World} {v : Value} {z e : Int} {k : Int} {r : Nat} {cs : Array Value} (h : DyIs z e W v k) (hr : BlkT W r 24 cs) (x0 x1 x2 : Value) :
    DyIs z e (((W.setCell ⟨r, 0, none⟩ x0).setCell ⟨r, 1, none⟩ x1).setCell ⟨r, 2, none⟩ x2) v k := by
  rcases h with ⟨h1, h2, h3⟩ | h
  · exact .inl ⟨h1, h2.set3 hr _ _ _, h3⟩
  · exact .inr h

set_option maxRecDepth 100000 in
set_option maxHeartbeats 1600000 in
theorem rIs_ok (d : Value) (k : Int) (b : Nat) (z e : Int) (w : World) (hd : DyIs z e w d k) (hx : RInt w b z) (hl : bl z.natAbs ≤ 68719476736) (h1 : -1099511627776 ≤ e) (h2 : e ≤ 1099511627776) (hT : Tab32 w) (hTs : 2 < w.heap.size) :
    Calls Tryz.prog 19 #[d, .int .i64 k, ExV b e, .int .i64 0] w (Gives (.bool true) w) := by
  have HT := Lib.hid (And.intro hT hTs)
  have HX := Lib.hid (And.intro hx hl)
  have HD := Lib.hid hd
  obtain ⟨n, ao, l, c, x, rfl⟩ := hd.shape
  have HW0 : Hid (IsBox w (((w.alloc (.cells #[.bool n, .slice ao l c, .int .i64 x] 24)).alloc (.cells #[.pointer (some ⟨b, 0, none⟩), .int .i64 e] 34)).alloc (.cells #[.bool false, .slice none 0 0, .int .i64 0] 24)) n false (.slice ao l c) (.slice none 0 0) x 0 b e) :=
    Lib.hid ⟨((BlkT.new w _ _).alloc _).alloc _, (BlkT.new1 w _ _ _).alloc _, BlkT.new2 w _ _ _ _, below3 _ _ _ _⟩
  clear hT hTs hd hx hl
  unfold ExV
  go_enter Tryz.func19, Tryz.ntmps19
  go_wp2_with fail
  refine (rOut_any b z e _ (HX.out.1.below HW0.out.2.2.2) HX.out.2 h1 h2 (HT.out.1.below HT.out.2 HW0.out.2.2.2) (Nat.lt_of_lt_of_le HT.out.2 HW0.out.2.2.2.size)).mono ?_
  rintro e1 W1 ⟨d2, k2, rfl, hi2, hb1⟩
  have HW1 := Lib.hid (HW0.out.later hb1)
  obtain ⟨n2, ao2, l2, c2, x2, rfl⟩ := hi2.shape
  have HW2 := Lib.hid (HW1.out.set3 (m2 := n2) (t2 := .slice ao2 l2 c2) (y2 := x2))
  have HD1 := Lib.hid (((HD.out.below HW0.out.2.2.2).below hb1).set3 HW1.out.2.2.1 (.bool n2) (.slice ao2 l2 c2) (.int .i64 x2))
  have HD2 := Lib.hid (hi2.set3 HW1.out.2.2.1 (.bool n2) (.slice ao2 l2 c2) (.int .i64 x2))
  clear hi2 hb1 HW0 HD
  obtain ⟨t0, t1, t2, t3, t4, t5⟩ := HW1.out.2.2.1.cells3
  obtain ⟨p0, p1, p2, p3, p4, p5⟩ := HW1.out.1.cells3
  go_wp2_with fail
  refine (same_is HD1.out HD2.out).2.mono ?_
  rintro e2 W3 ⟨rfl, hb3⟩
  have HB := Lib.hid ((HW2.out.later hb3).2.2.2)
  have hk : (k == k2) = true := by rw [(same_is HD1.out HD2.out).1]; simp
  clear hb3 t0 t1 t2 t3 t4 t5 p0 p1 p2 p3 p4 p5 HD1 HD2 HW1 HW2
  go_wp2
  go_ret
  exact ⟨rfl, HB.out⟩

set_option maxRecDepth 100000 in
set_option maxHeartbeats 1600000 in
theorem rIs_bad (k : Int) (b : Nat) (e : Int) (w : World) (h0 : k ≠ 0) :
    Calls Tryz.prog 19 #[DyV false (.slice none 0 0) 0, .int .i64 k, ExV b e, .int .i64 k] w (Gives (.bool true) w) := by
  have hk0 : (k == 0) = false := by simpa using h0
  have hk : (k == k) = true := by simp
  clear h0
  unfold ExV
  have HS : Hid (∀ W, Calls Tryz.prog 23 #[DyV false (.slice none 0 0) 0, DyV false (.slice none 0 0) 0] W (Gives (.bool true) W)) := Lib.hid fun W => same_dy _ _ 0 0 W (DyAt.zero W) (DyAt.zero W) good_zero
  unfold DyV
  unfold DyV at HS
  go_enter Tryz.func19, Tryz.ntmps19
  go_wp2_with fail
  refine (HS.out _).mono ?_
  rintro e2 W3 ⟨rfl, hb3⟩
  have HB := Lib.hid ((below3 w _ _ _).trans (hb3.mono (by simp; omega)))
  clear hb3
  go_wp2
  go_ret
  exact ⟨rfl, HB.out⟩

end Go.Proofs.YtjoajbbapfgaoaaGreatDoor
end
