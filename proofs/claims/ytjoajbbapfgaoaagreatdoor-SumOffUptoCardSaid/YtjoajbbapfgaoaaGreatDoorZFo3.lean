/- Walk: SumOff. Printed by wip/gen/fo3.py. -/
import Derived.Test.YtjoajbbapfgaoaaGreatDoorZFo2
namespace Go.Proofs.YtjoajbbapfgaoaaGreatDoor
open Go.RowKit

/-- The blocks: the answer, the references', the wanted. -/
structure OS (w0 W : World) (r6 r8 r10 : Nat) (n m : Bool) (s t : Value) (x y : Int) (q : Nat) (e : Int) : Prop where
  d : BlkT W r6 24 #[.bool n, s, .int .i64 x]
  p : BlkT W r8 34 #[.pointer (some ⟨q, 0, none⟩), .int .i64 e]
  u : BlkT W r10 24 #[.bool m, t, .int .i64 y]
  below : Below w0.heap.size w0 W
  ne : w0.heap.size ≤ r10 ∧ r6 ≠ r10 ∧ r8 ≠ r10
theorem OS.later {w0 W V : World} {r6 r8 r10 : Nat} {n m : Bool} {s t : Value} {x y : Int} {q : Nat} {e : Int} (h : OS w0 W r6 r8 r10 n m s t x y q e) (hb : Below W.heap.size W V) : OS w0 V r6 r8 r10 n m s t x y q e :=
  ⟨h.d.below hb, h.p.below hb, h.u.below hb, h.below.trans (hb.mono h.below.size), h.ne⟩
theorem OS.set {w0 W : World} {r6 r8 r10 : Nat} {n m m2 : Bool} {s t t2 : Value} {x y y2 : Int} {q : Nat} {e : Int} (h : OS w0 W r6 r8 r10 n m s t x y q e) :
    OS w0 (((W.setCell ⟨r10, 0, none⟩ (.bool m2)).setCell ⟨r10, 1, none⟩ t2).setCell ⟨r10, 2, none⟩ (.int .i64 y2)) r6 r8 r10 n m2 s t2 x y2 q e := by
  obtain ⟨h1, h2, h3⟩ := h.ne
  exact ⟨((h.d.setOther (by omega) _).setOther (by omega) _).setOther (by omega) _, ((h.p.setOther (by omega) _).setOther (by omega) _).setOther (by omega) _, ((h.u.set (i := 0) (.bool m2)).set (i := 1) t2).set (i := 2) (.int .i64 y2),
    ((h.below.setCell h1 _).setCell h1 _).setCell h1 _, h.ne⟩

theorem ResIs.same {bad R RE : Int} {W : World} {c d : Value} {k l : Int} (h1 : ResIs bad R RE W c k) (h2 : ResIs bad R RE W d l) : Calls Tryz.prog 23 #[c, d] W (Gives (.bool true) W) := by
  rcases h1 with ⟨g1, h1⟩ | ⟨g1, rfl, -⟩
  · rcases h2 with ⟨-, h2⟩ | ⟨g2, -, -⟩
    · exact (same_is h1 h2).2
    · exact absurd g1 g2
  · rcases h2 with ⟨g2, -⟩ | ⟨-, rfl, -⟩
    · exact absurd g2 g1
    · exact same_dy _ _ 0 0 W (DyAt.zero W) (DyAt.zero W) good_zero

theorem ResIs.set3 {bad R RE : Int} {W : World} {d : Value} {k : Int} {r : Nat} {cs : Array Value} (h : ResIs bad R RE W d k) (hr : BlkT W r 24 cs) (x0 x1 x2 : Value) :
    ResIs bad R RE (((W.setCell ⟨r, 0, none⟩ x0).setCell ⟨r, 1, none⟩ x1).setCell ⟨r, 2, none⟩ x2) d k :=
  ((h.setOther hr objT_dyad _).setOther (hr.set _) objT_dyad _).setOther ((hr.set _).set _) objT_dyad _

set_option maxRecDepth 100000 in
set_option maxHeartbeats 4000000 in
theorem sumOff_any (v : Value) (l : List Nat) (way : Int) (w : World) (hl : USl w v l) (hw : (Lit.int .i64 way).wf = true)
    (hT : Tab64 w) (hTs : 1 < w.heap.size) (hT2 : Tab32 w) (hTs2 : 2 < w.heap.size) :
    Calls Tryz.prog 10 #[v, .int .i64 way] w (Gives (.bool true) w) := by
  have HTA : Hid (∀ W, Below w.heap.size w W → Tab64 W ∧ 1 < W.heap.size) := Lib.hid fun W hb => ⟨hT.below hTs hb, Nat.lt_of_lt_of_le hTs hb.size⟩
  have HTB : Hid (∀ W, Below w.heap.size w W → Tab32 W ∧ 2 < W.heap.size) := Lib.hid fun W hb => ⟨hT2.below hTs2 hb, Nat.lt_of_lt_of_le hTs2 hb.size⟩
  have HL := Lib.hid hl
  have K1 := Lib.hid fun v W (h : FSl W v l) => off_any v l way W h hw
  have K2 := Lib.hid fun v W (h : FSl W v l) => rOff_any v l way W h
  have HBD : Hid (offBad way l = 0 → bl (offZ way l).natAbs ≤ 68719476736 ∧ -1099511627776 ≤ offE way l ∧ offE way l ≤ 1099511627776) := Lib.hid fun h0 => by
    unfold offBad at h0
    by_cases g1 : way < 1 ∨ 5 < way
    · rw [if_pos g1] at h0; cases h0
    by_cases g2 : 4096 < l.length
    · rw [if_neg g1, if_pos g2] at h0; cases h0
    by_cases g3 : l.all finB = false
    · rw [if_neg g1, if_neg g2, if_pos g3] at h0; cases h0
    by_cases g4 : finB (wayB way l) = false
    · rw [if_neg g1, if_neg g2, if_neg g3, if_pos g4] at h0; cases h0
    have g3' : l.all finB = true := by simpa using g3
    have g4' : finB (wayB way l) = true := by simpa using g4
    have hs := prs_small (l := l) (by omega) g3' l.length (Nat.le_refl _)
    rw [show (prs l).take l.length = prs l from List.take_of_length_le (by unfold prs; simp)] at hs
    have b1 := val_bl (b := wayB way l)
    have b2 := pE_bd g4'
    have b3 := bl_plZ (z := valZ (wayB way l)) (e := pE (wayB way l)) (y := -(foldS (prs l)).1) (f := (foldS (prs l)).2)
    rw [Int.natAbs_neg] at b3
    unfold offZ offE plE
    refine ⟨by omega, ?_, ?_⟩
    · split; omega; split; omega; omega
    · split; omega; split; omega; omega
  clear hT hTs hT2 hTs2 hw
  generalize offBad way l = bad at *
  generalize offZ way l = R at *
  generalize offE way l = RE at *
  obtain ⟨ao, cap, rfl, -⟩ := hl
  go_enter Tryz.func10, Tryz.ntmps10
  go_wp2_with fail
  refine (rOf64_any _ l _ HL.out).mono ?_
  rintro e1 w1 ⟨u, rfl, hfl, hb1⟩
  have HF := Lib.hid hfl
  have HB := Lib.hid hb1
  obtain ⟨fa, fc, rfl, -⟩ := hfl
  clear hb1 HL
  go_wp2_with fail
  refine (K1.out _ _ HF.out (HTA.out _ HB.out).1 (HTA.out _ HB.out).2).mono ?_
  rintro e2 w2 ⟨n2, a2, l2, c2, x2, rfl, hr2, hb2⟩
  replace HF := Lib.hid ((HF.out.below hb2).below (Below.alloc_self w2 (.cells #[.bool n2, .slice a2 l2 c2, .int .i64 x2] 24)))
  replace HB := Lib.hid ((HB.out.trans (hb2.mono HB.out.size)).trans ((Below.alloc_self w2 (.cells #[.bool n2, .slice a2 l2 c2, .int .i64 x2] 24)).mono (Nat.le_trans HB.out.size hb2.size)))
  have HR := Lib.hid (hr2.below (Below.alloc_self w2 (.cells #[.bool n2, .slice a2 l2 c2, .int .i64 x2] 24)))
  have HK : Hid (BlkT (w2.alloc (.cells #[.bool n2, .slice a2 l2 c2, .int .i64 x2] 24)) w2.heap.size 24 #[.bool n2, .slice a2 l2 c2, .int .i64 x2]) := Lib.hid (BlkT.new w2 _ _)
  clear hr2 hb2 K1
  go_wp2_with fail
  generalize w2.alloc (.cells #[.bool n2, .slice a2 l2 c2, .int .i64 x2] 24) = W2 at HF HB HR HK ⊢
  generalize w2.heap.size = r6 at HK ⊢
  refine (K2.out _ _ HF.out (HTB.out _ HB.out).1 (HTB.out _ HB.out).2).mono ?_
  rintro e3 w3 ⟨q, e3, rfl, hi3, hb3⟩
  have HO : Hid (OS w ((w3.alloc (.cells #[.pointer (some ⟨q, 0, none⟩), .int .i64 e3] 34)).alloc (.cells #[.bool false, .slice none 0 0, .int .i64 0] 24)) r6 w3.heap.size (w3.heap.size + 1) n2 false (.slice a2 l2 c2) (.slice none 0 0) x2 0 q e3) :=
    Lib.hid ⟨(HK.out.below hb3).below (below2 _ _ _), (BlkT.new w3 _ _).alloc _, BlkT.new1 w3 _ _ _, (HB.out.trans (hb3.mono HB.out.size)).trans ((below2 _ _ _).mono (Nat.le_trans HB.out.size hb3.size)), by have := HK.out.lt; have := HB.out.size; have := hb3.size; omega⟩
  replace HR := Lib.hid ((HR.out.below hb3).below (below2 w3 (.cells #[.pointer (some ⟨q, 0, none⟩), .int .i64 e3] 34) (.cells #[.bool false, .slice none 0 0, .int .i64 0] 24)))
  have HI : Hid (bad = 0 → RInt ((w3.alloc (.cells #[.pointer (some ⟨q, 0, none⟩), .int .i64 e3] 34)).alloc (.cells #[.bool false, .slice none 0 0, .int .i64 0] 24)) q R ∧ e3 = RE) := Lib.hid fun h => ⟨(hi3 h).1.below (below2 _ _ _), (hi3 h).2⟩
  clear hi3 hb3 HK HB HF K2
  unfold ExV
  by_cases h0 : bad = 0
  · subst h0
    obtain ⟨-, rfl⟩ := HI.out rfl
    replace HI := Lib.hid (HI.out rfl).1
    obtain ⟨B8, hB8⟩ : ∃ i, w3.heap.size = i := ⟨_, rfl⟩
    go_wp2_with fail
    rw [hB8] at HO
    try rw [hB8]
    obtain ⟨W4, hW4⟩ : ∃ v, (w3.alloc (.cells #[.pointer (some ⟨q, 0, none⟩), .int .i64 e3] 34)).alloc (.cells #[.bool false, .slice none 0 0, .int .i64 0] 24) = v := ⟨_, rfl⟩
    rw [hW4] at HO HR HI ⊢
    clear hW4 hB8
    obtain ⟨B10, hB10⟩ : ∃ i, B8 + 1 = i := ⟨_, rfl⟩
    rw [hB10] at HO ⊢
    clear hB10
    refine (rOut_any q R e3 _ HI.out (HBD.out (by simp)).1 (HBD.out (by simp)).2.1 (HBD.out (by simp)).2.2 (HTB.out _ HO.out.below).1 (HTB.out _ HO.out.below).2).mono ?_
    rintro e5 w5 ⟨d5, k5, rfl, hd5, hb5⟩
    obtain ⟨n5, a5, l5, c5, x5, rfl⟩ := hd5.shape
    replace HO := Lib.hid (HO.out.later hb5)
    have HR5 : Hid (ResIs 0 R e3 w5 (.agg #[.bool n5, .slice a5 l5 c5, .int .i64 x5]) k5) := Lib.hid (.inl ⟨rfl, hd5⟩)
    replace HR := Lib.hid (HR.out.below hb5)
    have HR6 := Lib.hid (HR.out.set3 HO.out.u (.bool n5) (.slice a5 l5 c5) (.int .i64 x5))
    have HR7 := Lib.hid (HR5.out.set3 HO.out.u (.bool n5) (.slice a5 l5 c5) (.int .i64 x5))
    obtain ⟨y0, y1, y2, y3, y4, y5⟩ := HO.out.u.cells3
    have HO2 : Hid (OS w (((w5.setCell ⟨B10, 0, none⟩ (.bool n5)).setCell ⟨B10, 1, none⟩ (.slice a5 l5 c5)).setCell ⟨B10, 2, none⟩ (.int .i64 x5)) r6 B8 B10 n2 n5 (.slice a2 l2 c2) (.slice a5 l5 c5) x2 x5 q e3) := Lib.hid HO.out.set
    clear hd5 hb5 HR HR5 HI HO
    obtain ⟨z0, z1, z2, z3, z4, z5⟩ := HO2.out.d.cells3
    obtain ⟨t0, t1, t2, t3, t4, t5⟩ := HO2.out.u.cells3
    go_wp2_with fail
    refine (ResIs.same HR6.out HR7.out).mono ?_
    rintro e7 w7 ⟨rfl, hb7⟩
    have HB := Lib.hid (HO2.out.later hb7).below
    clear hb7 y0 y1 y2 y3 y4 y5 z0 z1 z2 z3 z4 z5 t0 t1 t2 t3 t4 t5 HR6 HR7 HO2
    go_wp2_with fail
    refine (awake5_any _ (HTA.out _ HB.out).1 (HTA.out _ HB.out).2).mono ?_
    rintro e9 w9 ⟨rfl, hb9⟩
    replace HB := Lib.hid (HB.out.trans (hb9.mono HB.out.size))
    clear hb9
    go_wp2
    go_ret
    exact ⟨rfl, HB.out⟩
  · have hbe : (bad == 0) = false := beq_eq_false_iff_ne.2 h0
    have hbb : (bad == bad) = true := by simp
    have HR2 : Hid (ResIs bad R RE ((w3.alloc (.cells #[.pointer (some ⟨q, 0, none⟩), .int .i64 e3] 34)).alloc (.cells #[.bool false, .slice none 0 0, .int .i64 0] 24)) (.agg #[.bool false, .slice none 0 0, .int .i64 0]) bad) := Lib.hid (.inr ⟨h0, rfl, rfl⟩)
    obtain ⟨z0, z1, z2, z3, z4, z5⟩ := HO.out.d.cells3
    obtain ⟨t0, t1, t2, t3, t4, t5⟩ := HO.out.u.cells3
    clear h0 HI HBD
    go_wp2_with fail
    refine (ResIs.same HR.out HR2.out).mono ?_
    rintro e7 w7 ⟨rfl, hb7⟩
    have HB := Lib.hid (HO.out.later hb7).below
    clear hb7 z0 z1 z2 z3 z4 z5 t0 t1 t2 t3 t4 t5 HR HR2 HO
    go_wp2_with fail
    refine (awake5_any _ (HTA.out _ HB.out).1 (HTA.out _ HB.out).2).mono ?_
    rintro e9 w9 ⟨rfl, hb9⟩
    replace HB := Lib.hid (HB.out.trans (hb9.mono HB.out.size))
    clear hb9
    go_wp2
    go_ret
    exact ⟨rfl, HB.out⟩

end Go.Proofs.YtjoajbbapfgaoaaGreatDoor
