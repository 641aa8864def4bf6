/- Walk: DyadSums. Printed by wip/gen/sums.py. -/
import Derived.Test.YtjoajbbapfgaoaaGreatDoorGR
namespace Go.Proofs.YtjoajbbapfgaoaaGreatDoor
open Go.RowKit

/-- The blocks of DyadSums: the two answers, the references' two. -/
structure DS (w0 W : World) (sb db b13 b14 : Nat) (n1 n2 : Bool) (s1 s2 : Value) (x1 x2 : Int) (q1 q2 : Nat) (e1 e2 : Int) : Prop where
  s : BlkT W sb 24 #[.bool n1, s1, .int .i64 x1]
  d : BlkT W db 24 #[.bool n2, s2, .int .i64 x2]
  p : BlkT W b13 34 #[.pointer (some ⟨q1, 0, none⟩), .int .i64 e1]
  q : BlkT W b14 34 #[.pointer (some ⟨q2, 0, none⟩), .int .i64 e2]
  below : Below w0.heap.size w0 W
  ne : w0.heap.size ≤ sb ∧ sb < db ∧ db < b13 ∧ b13 < b14

theorem DS.later {w0 W V : World} {sb db b13 b14 : Nat} {n1 n2 : Bool} {s1 s2 : Value} {x1 x2 : Int} {q1 q2 : Nat} {e1 e2 : Int} (h : DS w0 W sb db b13 b14 n1 n2 s1 s2 x1 x2 q1 q2 e1 e2) (hb : Below W.heap.size W V) : DS w0 V sb db b13 b14 n1 n2 s1 s2 x1 x2 q1 q2 e1 e2 :=
  ⟨h.s.below hb, h.d.below hb, h.p.below hb, h.q.below hb, h.below.trans (hb.mono h.below.size), h.ne⟩

theorem DS.set13 {w0 W : World} {sb db b13 b14 : Nat} {n1 n2 : Bool} {s1 s2 : Value} {x1 x2 : Int} {q1 q2 : Nat} {e1 e2 : Int} (h : DS w0 W sb db b13 b14 n1 n2 s1 s2 x1 x2 q1 q2 e1 e2) (q' : Nat) (e' : Int) :
    DS w0 ((W.setCell ⟨b13, 0, none⟩ (.pointer (some ⟨q', 0, none⟩))).setCell ⟨b13, 1, none⟩ (.int .i64 e')) sb db b13 b14 n1 n2 s1 s2 x1 x2 q' q2 e' e2 := by
  have hn := h.ne
  exact ⟨(h.s.setOther (by omega) _).setOther (by omega) _, (h.d.setOther (by omega) _).setOther (by omega) _, (h.p.set (i := 0) (.pointer (some ⟨q', 0, none⟩))).set (i := 1) (.int .i64 e'), (h.q.setOther (by omega) _).setOther (by omega) _,
    (h.below.setCell (show w0.heap.size ≤ b13 by omega) _).setCell (show w0.heap.size ≤ b13 by omega) _, h.ne⟩

theorem DS.set14 {w0 W : World} {sb db b13 b14 : Nat} {n1 n2 : Bool} {s1 s2 : Value} {x1 x2 : Int} {q1 q2 : Nat} {e1 e2 : Int} (h : DS w0 W sb db b13 b14 n1 n2 s1 s2 x1 x2 q1 q2 e1 e2) (q' : Nat) (e' : Int) :
    DS w0 ((W.setCell ⟨b14, 0, none⟩ (.pointer (some ⟨q', 0, none⟩))).setCell ⟨b14, 1, none⟩ (.int .i64 e')) sb db b13 b14 n1 n2 s1 s2 x1 x2 q1 q' e1 e' := by
  have hn := h.ne
  exact ⟨(h.s.setOther (by omega) _).setOther (by omega) _, (h.d.setOther (by omega) _).setOther (by omega) _, (h.p.setOther (by omega) _).setOther (by omega) _, (h.q.set (i := 0) (.pointer (some ⟨q', 0, none⟩))).set (i := 1) (.int .i64 e'),
    (h.below.setCell (show w0.heap.size ≤ b14 by omega) _).setCell (show w0.heap.size ≤ b14 by omega) _, h.ne⟩

theorem RInt.st2 {W : World} {b p : Nat} {z e : Int} {a : Option Addr} (h : RInt W p z) (hr : BlkT W b 34 #[.pointer a, .int .i64 e]) (x0 x1 : Value) : RInt ((W.setCell ⟨b, 0, none⟩ x0).setCell ⟨b, 1, none⟩ x1) p z :=
  (h.setOther hr objT_rexact (RInt.ne_box h hr rfl) x0).setOther (hr.set (i := 0) x0) objT_rexact (RInt.ne_box h hr rfl) x1

theorem ResIs.st2 {W : World} {b : Nat} {bad z f e k : Int} {d : Value} {a : Option Addr} (h : ResIs bad z f W d k) (hr : BlkT W b 34 #[.pointer a, .int .i64 e]) (x0 x1 : Value) : ResIs bad z f ((W.setCell ⟨b, 0, none⟩ x0).setCell ⟨b, 1, none⟩ x1) d k :=
  (h.setOther (i := 0) hr objT_rexact x0).setOther (i := 1) (hr.set (i := 0) x0) objT_rexact x1

theorem FSl.st2 {W : World} {b : Nat} {v : Value} {l : List Nat} {e : Int} {a : Option Addr} (h : FSl W v l) (hr : BlkT W b 34 #[.pointer a, .int .i64 e]) (x0 x1 : Value) : FSl ((W.setCell ⟨b, 0, none⟩ x0).setCell ⟨b, 1, none⟩ x1) v l := by
  obtain ⟨ao, cap, h1, h2, h3, h4, h5⟩ := h
  refine ⟨ao, cap, h1, h2, h3, h4, fun h0 => ?_⟩
  obtain ⟨c, off, rfl, hlt, hc⟩ := h5 h0
  refine ⟨c, off, rfl, by simpa using hlt, fun i hi => ?_⟩
  have hne : c ≠ b := by
    intro e1
    subst e1
    have h6 := hc i hi
    rw [hr.cell (off + i)] at h6
    rcases Nat.lt_or_ge (off + i) 2 with h7 | h7
    · rcases Nat.lt_or_ge (off + i) 1 with h8 | h8
      · rw [show off + i = 0 from by omega] at h6; simp at h6
      · rw [show off + i = 1 from by omega] at h6; simp at h6
    · rw [Array.getElem?_eq_none (by simpa using h7)] at h6; cases h6
  rw [cellOther (fun e1 => by simp only [Addr.mk.injEq] at e1; exact hne e1.1.symm), cellOther (fun e1 => by simp only [Addr.mk.injEq] at e1; exact hne e1.1.symm)]
  exact hc i hi

theorem XIs.st2 {W : World} {b : Nat} {bad z e x f : Int} {q : Nat} {a : Option Addr} (h : XIs bad z e W q x) (hr : BlkT W b 34 #[.pointer a, .int .i64 f]) (x0 x1 : Value) : XIs bad z e ((W.setCell ⟨b, 0, none⟩ x0).setCell ⟨b, 1, none⟩ x1) q x := fun h0 => ⟨(h h0).1.st2 hr _ _, (h h0).2⟩

theorem XIs.of {z e : Int} {w : World} {b : Nat} {x : Int} (bad : Int) (h : RInt w b z ∧ x = e ∧ bl z.natAbs ≤ 68719476736 ∧ -1099511627776 ≤ e ∧ e ≤ 1099511627776) : XIs bad z e w b x := fun _ => h
theorem XIs.no {bad z e : Int} {w : World} {b : Nat} {x : Int} (h : bad ≠ 0) : XIs bad z e w b x := fun h0 => absurd h0 h
theorem XIs.below {bad z e : Int} {w w' : World} {b : Nat} {x : Int} (h : XIs bad z e w b x) (hb : Below w.heap.size w w') : XIs bad z e w' b x := fun h0 => ⟨(h h0).1.below hb, (h h0).2⟩

set_option maxRecDepth 100000 in
set_option maxHeartbeats 4000000 in
theorem sums_any (v1 v2 : Value) (l m : List Nat) (w : World) (hl : USl w v1 l) (hm : USl w v2 m) (hT : Tab64 w) (hTs : 1 < w.heap.size) (hT2 : Tab32 w) (hTs2 : 2 < w.heap.size) :
    Calls Tryz.prog 5 #[v1, v2] w (Gives (.bool true) w) := by
  have HT := Lib.hid (And.intro hT (And.intro hTs (And.intro hT2 hTs2)))
  have HL := Lib.hid hl
  have HM := Lib.hid hm
  clear hT hTs hT2 hTs2 hl hm
  obtain ⟨bad, hbad⟩ : ∃ b : Int, (if l.all finB then 0 else 4) = b := ⟨_, rfl⟩
  obtain ⟨wrong, hwrong⟩ : ∃ b : Int, dotBad l m = b := ⟨_, rfl⟩
  have HBAD := Lib.hid hbad
  have HWR := Lib.hid hwrong
  clear hbad hwrong
  obtain ⟨Z1, hZ1⟩ : ∃ b : Int, (foldS (prs l)).1 = b := ⟨_, rfl⟩
  obtain ⟨E1, hE1⟩ : ∃ b : Int, (foldS (prs l)).2 = b := ⟨_, rfl⟩
  obtain ⟨Z2, hZ2⟩ : ∃ b : Int, (foldS (dts l m)).1 = b := ⟨_, rfl⟩
  obtain ⟨E2, hE2⟩ : ∃ b : Int, (foldS (dts l m)).2 = b := ⟨_, rfl⟩
  have HEQ := Lib.hid (And.intro (And.intro hZ1 hE1) (And.intro hZ2 hE2))
  clear hZ1 hE1 hZ2 hE2
  go_enter Tryz.func5, Tryz.ntmps5
  go_wp2_with fail
  refine (rOf64_any v1 l w HL.out).mono ?_
  rintro e1 w1 ⟨va, rfl, hva, hb1⟩
  have HA := Lib.hid hva
  have HB1 := Lib.hid hb1
  replace HM := Lib.hid (HM.out.below hb1)
  clear hva hb1 HL
  go_wp2_with fail
  refine (rOf64_any v2 m w1 HM.out).mono ?_
  rintro e2 w2 ⟨vb, rfl, hvb, hb2⟩
  have HV := Lib.hid hvb
  replace HB1 := Lib.hid (HB1.out.trans (hb2.mono HB1.out.size))
  replace HA := Lib.hid (HA.out.below hb2)
  clear hvb hb2 HM
  go_wp2_with fail
  refine (sum_res va l w2 HA.out (HT.out.1.below HT.out.2.1 HB1.out) (Nat.lt_of_lt_of_le HT.out.2.1 HB1.out.size)).mono ?_
  rintro e3 w3 ⟨n1, ao1, l1, c1, x1, k1, rfl, hr1, hb3⟩
  rw [HBAD.out, HEQ.out.1.1, HEQ.out.1.2] at hr1
  replace HB1 := Lib.hid (HB1.out.trans (hb3.mono HB1.out.size))
  replace HA := Lib.hid ((HA.out.below hb3).below (Below.alloc_self w3 (.cells #[.bool n1, .slice ao1 l1 c1, .int .i64 x1] 24)))
  replace HV := Lib.hid ((HV.out.below hb3).below (Below.alloc_self w3 (.cells #[.bool n1, .slice ao1 l1 c1, .int .i64 x1] 24)))
  have HS := Lib.hid (hr1.below (Below.alloc_self w3 (.cells #[.bool n1, .slice ao1 l1 c1, .int .i64 x1] 24)))
  have HB3 := Lib.hid (HB1.out.trans ((Below.alloc_self w3 (.cells #[.bool n1, .slice ao1 l1 c1, .int .i64 x1] 24)).mono HB1.out.size))
  clear hr1 hb3
  go_wp2_with fail
  refine (dot_res va vb l m _ HA.out HV.out (HT.out.1.below HT.out.2.1 HB3.out) (Nat.lt_of_lt_of_le HT.out.2.1 HB3.out.size)).mono ?_
  rintro e4 w4 ⟨n2, ao2, l2, c2, x2, k2, rfl, hr2, hb4⟩
  rw [HWR.out, HEQ.out.2.1, HEQ.out.2.2] at hr2
  have hlt4 : w3.heap.size < w4.heap.size := Nat.lt_of_lt_of_le (by simp) hb4.size
  have HB4 := Lib.hid (HB3.out.trans (hb4.mono HB3.out.size))
  have HBS := Lib.hid ((BlkT.new w3 #[.bool n1, .slice ao1 l1 c1, .int .i64 x1] 24).below hb4)
  replace HS := Lib.hid ((HS.out.below hb4).below (Below.alloc_self w4 (.cells #[.bool n2, .slice ao2 l2 c2, .int .i64 x2] 24)))
  replace HA := Lib.hid ((HA.out.below hb4).below (Below.alloc_self w4 (.cells #[.bool n2, .slice ao2 l2 c2, .int .i64 x2] 24)))
  replace HV := Lib.hid ((HV.out.below hb4).below (Below.alloc_self w4 (.cells #[.bool n2, .slice ao2 l2 c2, .int .i64 x2] 24)))
  have HR2 := Lib.hid (hr2.below (Below.alloc_self w4 (.cells #[.bool n2, .slice ao2 l2 c2, .int .i64 x2] 24)))
  have HB5 := Lib.hid (HB4.out.trans ((Below.alloc_self w4 (.cells #[.bool n2, .slice ao2 l2 c2, .int .i64 x2] 24)).mono HB4.out.size))
  clear hr2 hb4
  go_wp2_with fail
  refine (rZero_any _).mono ?_
  rintro e5 w5 ⟨q1, rfl, hq1, hi1, hb5⟩
  go_wp2_with fail
  refine (rZero_any _).mono ?_
  rintro e6 w6 ⟨q2, rfl, hq2, hi2, hb6⟩
  have hlt6 : w4.heap.size < w6.heap.size := Nat.lt_of_lt_of_le (Nat.lt_of_lt_of_le (by simp) hb5.size) hb6.size
  have hb56 := hb5.trans (hb6.mono hb5.size)
  have HD : Hid (DS w ((w6.alloc (.cells #[.pointer (some ⟨q1, 0, none⟩), .int .i64 0] 34)).alloc (.cells #[.pointer (some ⟨q2, 0, none⟩), .int .i64 0] 34)) w3.heap.size w4.heap.size w6.heap.size (w6.heap.size + 1) n1 n2 (.slice ao1 l1 c1) (.slice ao2 l2 c2) x1 x2 q1 q2 0 0) := by
    have g1 := HBS.out.below (Below.alloc_self w4 (.cells #[.bool n2, .slice ao2 l2 c2, .int .i64 x2] 24))
    exact Lib.hid ⟨(g1.below hb56).below (below2 _ _ _), ((BlkT.new w4 _ _).below hb56).below (below2 _ _ _), (BlkT.new w6 _ _).alloc _, BlkT.new1 w6 _ _ _, (HB5.out.trans (hb56.mono HB5.out.size)).trans ((below2 w6 _ _).mono (Nat.le_trans HB5.out.size hb56.size)), HB1.out.size, hlt4, hlt6, Nat.lt_succ_self _⟩
  replace HS := Lib.hid ((HS.out.below hb56).below (below2 w6 (.cells #[.pointer (some ⟨q1, 0, none⟩), .int .i64 0] 34) (.cells #[.pointer (some ⟨q2, 0, none⟩), .int .i64 0] 34)))
  replace HR2 := Lib.hid ((HR2.out.below hb56).below (below2 w6 (.cells #[.pointer (some ⟨q1, 0, none⟩), .int .i64 0] 34) (.cells #[.pointer (some ⟨q2, 0, none⟩), .int .i64 0] 34)))
  replace HA := Lib.hid ((HA.out.below hb56).below (below2 w6 (.cells #[.pointer (some ⟨q1, 0, none⟩), .int .i64 0] 34) (.cells #[.pointer (some ⟨q2, 0, none⟩), .int .i64 0] 34)))
  replace HV := Lib.hid ((HV.out.below hb56).below (below2 w6 (.cells #[.pointer (some ⟨q1, 0, none⟩), .int .i64 0] 34) (.cells #[.pointer (some ⟨q2, 0, none⟩), .int .i64 0] 34)))
  clear hq1 hi1 hb5 hq2 hi2 hb6 hb56 HB1 HB3 HB4 HB5 HBS hlt4 hlt6
  generalize w3.heap.size = sb at *
  generalize w4.heap.size = db at *
  obtain ⟨bp, hbp⟩ : ∃ i, w6.heap.size = i := ⟨_, rfl⟩
  unfold ExV
  go_wp2_with fail
  rw [hbp] at HD
  try rw [hbp]
  obtain ⟨W6, hW6⟩ : ∃ v, (w6.alloc (.cells #[.pointer (some ⟨q1, 0, none⟩), .int .i64 0] 34)).alloc (.cells #[.pointer (some ⟨q2, 0, none⟩), .int .i64 0] 34) = v := ⟨_, rfl⟩
  rw [hW6] at HD HS HR2 HA HV ⊢
  clear hW6 hbp
  obtain ⟨ba, hba⟩ : ∃ b, bp + 1 = b := ⟨_, rfl⟩
  rw [hba] at HD ⊢
  clear hba
  refine (rAllFinite_any va l W6 HA.out).mono ?_
  rintro e7 w7 ⟨rfl, hb7⟩
  replace HD := Lib.hid (HD.out.later hb7)
  replace HS := Lib.hid (HS.out.below hb7)
  replace HR2 := Lib.hid (HR2.out.below hb7)
  replace HA := Lib.hid (HA.out.below hb7)
  replace HV := Lib.hid (HV.out.below hb7)
  clear hb7
  obtain ⟨ao, cap, rfl, -, hln, -⟩ := id HA.out
  obtain ⟨ao', cap', rfl, -, hlm, -⟩ := id HV.out
  obtain ⟨fl, hfl⟩ : ∃ f, l.all finB = f := ⟨_, rfl⟩
  obtain ⟨fm, hfm⟩ : ∃ f, m.all finB = f := ⟨_, rfl⟩
  have HFL := Lib.hid (And.intro hfl hfm)
  rw [hfl]
  clear hfl hfm
  cases fl
  · have HBQ : Hid (bad = 4) := Lib.hid (by rw [← HBAD.out, HFL.out.1]; rfl)
    rw [HBQ.out] at HS
    have HX1 : Hid (XIs 4 Z1 E1 w7 q1 0) := Lib.hid (XIs.no (by decide))
    by_cases hlen : l.length = m.length
    · have hne : ((l.length : Int) != (m.length : Int)) = false := by simp; omega
      have HWQ : Hid (wrong = 4) := Lib.hid (by rw [← HWR.out, dotBad, if_pos hlen, HFL.out.1]; rfl)
      rw [HWQ.out] at HR2
      have HX2 : Hid (XIs 4 Z2 E2 w7 q2 0) := Lib.hid (XIs.no (by decide))
      clear hlen
      obtain ⟨y0, y1, y2, y3, y4, y5⟩ := HD.out.s.cells3
      obtain ⟨z0, z1, z2, z3⟩ := HD.out.p.cells2
      go_wp2_with fail
      refine (rIs_all (4) Z1 E1 _ k1 _ _ _ HS.out HX1.out (HT.out.2.2.1.below HT.out.2.2.2 HD.out.below) (Nat.lt_of_lt_of_le HT.out.2.2.2 HD.out.below.size)).mono ?_
      rintro e20 w20 ⟨rfl, hb20⟩
      replace HD := Lib.hid (HD.out.later hb20)
      replace HR2 := Lib.hid (HR2.out.below hb20)
      replace HX2 := Lib.hid (HX2.out.below hb20)
      clear hb20 y0 y1 y2 y3 y4 y5 z0 z1 z2 z3 HS HX1
      obtain ⟨y0, y1, y2, y3, y4, y5⟩ := HD.out.d.cells3
      obtain ⟨z0, z1, z2, z3⟩ := HD.out.q.cells2
      go_wp2_with fail
      refine (rIs_all (4) Z2 E2 _ k2 _ _ _ HR2.out HX2.out (HT.out.2.2.1.below HT.out.2.2.2 HD.out.below) (Nat.lt_of_lt_of_le HT.out.2.2.2 HD.out.below.size)).mono ?_
      rintro e21 w21 ⟨rfl, hb21⟩
      replace HD := Lib.hid (HD.out.later hb21)
      clear hb21 y0 y1 y2 y3 y4 y5 z0 z1 z2 z3
      go_wp2_with fail
      refine (awake_any _ (HT.out.1.below HT.out.2.1 HD.out.below) (Nat.lt_of_lt_of_le HT.out.2.1 HD.out.below.size)).mono ?_
      rintro e22 w22 ⟨rfl, hb22⟩
      have HB := Lib.hid (HD.out.later hb22).below
      clear hb22
      go_wp2
      go_ret
      exact ⟨rfl, HB.out⟩
    · have hne : ((l.length : Int) != (m.length : Int)) = true := by simp; omega
      have HWQ : Hid (wrong = 3) := Lib.hid (by rw [← HWR.out, dotBad, if_neg hlen])
      rw [HWQ.out] at HR2
      clear hlen
      have HX2 : Hid (XIs 3 Z2 E2 w7 q2 0) := Lib.hid (XIs.no (by decide))
      obtain ⟨y0, y1, y2, y3, y4, y5⟩ := HD.out.s.cells3
      obtain ⟨z0, z1, z2, z3⟩ := HD.out.p.cells2
      go_wp2_with fail
      refine (rIs_all (4) Z1 E1 _ k1 _ _ _ HS.out HX1.out (HT.out.2.2.1.below HT.out.2.2.2 HD.out.below) (Nat.lt_of_lt_of_le HT.out.2.2.2 HD.out.below.size)).mono ?_
      rintro e20 w20 ⟨rfl, hb20⟩
      replace HD := Lib.hid (HD.out.later hb20)
      replace HR2 := Lib.hid (HR2.out.below hb20)
      replace HX2 := Lib.hid (HX2.out.below hb20)
      clear hb20 y0 y1 y2 y3 y4 y5 z0 z1 z2 z3 HS HX1
      obtain ⟨y0, y1, y2, y3, y4, y5⟩ := HD.out.d.cells3
      obtain ⟨z0, z1, z2, z3⟩ := HD.out.q.cells2
      go_wp2_with fail
      refine (rIs_all (3) Z2 E2 _ k2 _ _ _ HR2.out HX2.out (HT.out.2.2.1.below HT.out.2.2.2 HD.out.below) (Nat.lt_of_lt_of_le HT.out.2.2.2 HD.out.below.size)).mono ?_
      rintro e21 w21 ⟨rfl, hb21⟩
      replace HD := Lib.hid (HD.out.later hb21)
      clear hb21 y0 y1 y2 y3 y4 y5 z0 z1 z2 z3
      go_wp2_with fail
      refine (awake_any _ (HT.out.1.below HT.out.2.1 HD.out.below) (Nat.lt_of_lt_of_le HT.out.2.1 HD.out.below.size)).mono ?_
      rintro e22 w22 ⟨rfl, hb22⟩
      have HB := Lib.hid (HD.out.later hb22).below
      clear hb22
      go_wp2
      go_ret
      exact ⟨rfl, HB.out⟩
  · have HBQ : Hid (bad = 0) := Lib.hid (by rw [← HBAD.out, HFL.out.1]; rfl)
    rw [HBQ.out] at HS
    go_wp2_with fail
    refine (rSum_any _ l w7 HA.out HFL.out.1).mono ?_
    rintro e8 w8 ⟨p8, rfl, hp8, hb8⟩
    rw [HEQ.out.1.1] at hp8
    rw [HEQ.out.1.2]
    replace HD := Lib.hid (HD.out.later hb8)
    replace HS := Lib.hid (HS.out.below hb8)
    replace HR2 := Lib.hid (HR2.out.below hb8)
    replace HA := Lib.hid (HA.out.below hb8)
    replace HV := Lib.hid (HV.out.below hb8)
    have HSM : Hid (-1074 ≤ E1 ∧ E1 ≤ 1023 ∧ bl Z1.natAbs ≤ 2139) := by
      have hs := prs_small hln HFL.out.1 l.length (Nat.le_refl _)
      rw [List.take_of_length_le (by unfold prs; simp), HEQ.out.1.1, HEQ.out.1.2] at hs
      exact Lib.hid hs
    have HX1 := Lib.hid (XIs.of (bad := 0) (e := E1) ⟨hp8.st2 HD.out.p (.pointer (some ⟨p8, 0, none⟩)) (.int .i64 E1), rfl, (by have := HSM.out; omega), (by have := HSM.out; omega), (by have := HSM.out; omega)⟩)
    clear hp8 hb8 HSM
    obtain ⟨t0, t1, t2, t3⟩ := HD.out.p.cells2
    have HS9 := Lib.hid (HS.out.st2 HD.out.p (.pointer (some ⟨p8, 0, none⟩)) (.int .i64 E1))
    have HR9 := Lib.hid (HR2.out.st2 HD.out.p (.pointer (some ⟨p8, 0, none⟩)) (.int .i64 E1))
    have HA9 := Lib.hid (HA.out.st2 HD.out.p (.pointer (some ⟨p8, 0, none⟩)) (.int .i64 E1))
    have HV9 := Lib.hid (HV.out.st2 HD.out.p (.pointer (some ⟨p8, 0, none⟩)) (.int .i64 E1))
    have HD9 := Lib.hid (HD.out.set13 p8 E1)
    clear HS HR2 HA HV HD
    have HS := HS9
    have HR2 := HR9
    have HA := HA9
    have HV := HV9
    have HD := HD9
    clear HS9 HR9 HA9 HV9 HD9
    unfold ExV
    by_cases hlen : l.length = m.length
    · have hne : ((l.length : Int) != (m.length : Int)) = false := by simp; omega
      have HLE := Lib.hid hlen
      clear hlen
      go_wp2_with fail
      obtain ⟨W8, hW8⟩ : ∃ v, ((w8.setCell ⟨bp, 0, none⟩ (.pointer (some ⟨p8, 0, none⟩))).setCell ⟨bp, 1, none⟩ (.int .i64 E1)) = v := ⟨_, rfl⟩
      rw [hW8] at HD HS HR2 HA HV HX1 ⊢
      clear hW8 t0 t1 t2 t3
      refine (rAllFinite_any _ m W8 HV.out).mono ?_
      rintro e9 w9 ⟨rfl, hb9⟩
      replace HD := Lib.hid (HD.out.later hb9)
      replace HS := Lib.hid (HS.out.below hb9)
      replace HR2 := Lib.hid (HR2.out.below hb9)
      replace HA := Lib.hid (HA.out.below hb9)
      replace HV := Lib.hid (HV.out.below hb9)
      replace HX1 := Lib.hid (HX1.out.below hb9)
      clear hb9
      rw [HFL.out.2]
      cases fm
      · have HWQ : Hid (wrong = 4) := Lib.hid (by rw [← HWR.out, dotBad, if_pos HLE.out, HFL.out.1, HFL.out.2]; rfl)
        rw [HWQ.out] at HR2
        have HX2 : Hid (XIs 4 Z2 E2 w9 q2 0) := Lib.hid (XIs.no (by decide))
        obtain ⟨y0, y1, y2, y3, y4, y5⟩ := HD.out.s.cells3
        obtain ⟨z0, z1, z2, z3⟩ := HD.out.p.cells2
        go_wp2_with fail
        refine (rIs_all (0) Z1 E1 _ k1 _ _ _ HS.out HX1.out (HT.out.2.2.1.below HT.out.2.2.2 HD.out.below) (Nat.lt_of_lt_of_le HT.out.2.2.2 HD.out.below.size)).mono ?_
        rintro e20 w20 ⟨rfl, hb20⟩
        replace HD := Lib.hid (HD.out.later hb20)
        replace HR2 := Lib.hid (HR2.out.below hb20)
        replace HX2 := Lib.hid (HX2.out.below hb20)
        clear hb20 y0 y1 y2 y3 y4 y5 z0 z1 z2 z3 HS HX1
        obtain ⟨y0, y1, y2, y3, y4, y5⟩ := HD.out.d.cells3
        obtain ⟨z0, z1, z2, z3⟩ := HD.out.q.cells2
        go_wp2_with fail
        refine (rIs_all (4) Z2 E2 _ k2 _ _ _ HR2.out HX2.out (HT.out.2.2.1.below HT.out.2.2.2 HD.out.below) (Nat.lt_of_lt_of_le HT.out.2.2.2 HD.out.below.size)).mono ?_
        rintro e21 w21 ⟨rfl, hb21⟩
        replace HD := Lib.hid (HD.out.later hb21)
        clear hb21 y0 y1 y2 y3 y4 y5 z0 z1 z2 z3
        go_wp2_with fail
        refine (awake_any _ (HT.out.1.below HT.out.2.1 HD.out.below) (Nat.lt_of_lt_of_le HT.out.2.1 HD.out.below.size)).mono ?_
        rintro e22 w22 ⟨rfl, hb22⟩
        have HB := Lib.hid (HD.out.later hb22).below
        clear hb22
        go_wp2
        go_ret
        exact ⟨rfl, HB.out⟩
      · have HWQ : Hid (wrong = 0) := Lib.hid (by rw [← HWR.out, dotBad, if_pos HLE.out, HFL.out.1, HFL.out.2]; rfl)
        rw [HWQ.out] at HR2
        go_wp2_with fail
        refine (rDot_any _ _ l m w9 HA.out HV.out HLE.out HFL.out.1 HFL.out.2).mono ?_
        rintro e10 w10 ⟨p10, rfl, hp10, hb10⟩
        rw [HEQ.out.2.1] at hp10
        rw [HEQ.out.2.2]
        replace HD := Lib.hid (HD.out.later hb10)
        replace HS := Lib.hid (HS.out.below hb10)
        replace HR2 := Lib.hid (HR2.out.below hb10)
        replace HX1 := Lib.hid (HX1.out.below hb10)
        have HSM : Hid (-2148 ≤ E2 ∧ E2 ≤ 2046 ∧ bl Z2.natAbs ≤ 4237) := by
          have hs := dts_small HLE.out hln HFL.out.1 HFL.out.2 l.length (Nat.le_refl _)
          rw [List.take_of_length_le (by rw [dts_length HLE.out]; exact Nat.le_refl _), HEQ.out.2.1, HEQ.out.2.2] at hs
          exact Lib.hid hs
        have HX2 := Lib.hid (XIs.of (bad := 0) (e := E2) ⟨hp10.st2 HD.out.q (.pointer (some ⟨p10, 0, none⟩)) (.int .i64 E2), rfl, (by have := HSM.out; omega), (by have := HSM.out; omega), (by have := HSM.out; omega)⟩)
        clear hp10 hb10 HSM
        obtain ⟨t0, t1, t2, t3⟩ := HD.out.q.cells2
        have HS9 := Lib.hid (HS.out.st2 HD.out.q (.pointer (some ⟨p10, 0, none⟩)) (.int .i64 E2))
        have HR9 := Lib.hid (HR2.out.st2 HD.out.q (.pointer (some ⟨p10, 0, none⟩)) (.int .i64 E2))
        have HX9 := Lib.hid (HX1.out.st2 HD.out.q (.pointer (some ⟨p10, 0, none⟩)) (.int .i64 E2))
        have HD9 := Lib.hid (HD.out.set14 p10 E2)
        clear HS HR2 HA HV HD HX1
        have HS := HS9
        have HR2 := HR9
        have HX1 := HX9
        have HD := HD9
        clear HS9 HR9 HX9 HD9
        unfold ExV
        obtain ⟨y0, y1, y2, y3, y4, y5⟩ := HD.out.s.cells3
        obtain ⟨z0, z1, z2, z3⟩ := HD.out.p.cells2
        go_wp2_with fail
        refine (rIs_all (0) Z1 E1 _ k1 _ _ _ HS.out HX1.out (HT.out.2.2.1.below HT.out.2.2.2 HD.out.below) (Nat.lt_of_lt_of_le HT.out.2.2.2 HD.out.below.size)).mono ?_
        rintro e20 w20 ⟨rfl, hb20⟩
        replace HD := Lib.hid (HD.out.later hb20)
        replace HR2 := Lib.hid (HR2.out.below hb20)
        replace HX2 := Lib.hid (HX2.out.below hb20)
        clear hb20 y0 y1 y2 y3 y4 y5 z0 z1 z2 z3 HS HX1
        obtain ⟨y0, y1, y2, y3, y4, y5⟩ := HD.out.d.cells3
        obtain ⟨z0, z1, z2, z3⟩ := HD.out.q.cells2
        go_wp2_with fail
        refine (rIs_all (0) Z2 E2 _ k2 _ _ _ HR2.out HX2.out (HT.out.2.2.1.below HT.out.2.2.2 HD.out.below) (Nat.lt_of_lt_of_le HT.out.2.2.2 HD.out.below.size)).mono ?_
        rintro e21 w21 ⟨rfl, hb21⟩
        replace HD := Lib.hid (HD.out.later hb21)
        clear hb21 y0 y1 y2 y3 y4 y5 z0 z1 z2 z3
        go_wp2_with fail
        refine (awake_any _ (HT.out.1.below HT.out.2.1 HD.out.below) (Nat.lt_of_lt_of_le HT.out.2.1 HD.out.below.size)).mono ?_
        rintro e22 w22 ⟨rfl, hb22⟩
        have HB := Lib.hid (HD.out.later hb22).below
        clear hb22
        go_wp2
        go_ret
        exact ⟨rfl, HB.out⟩
    · have hne : ((l.length : Int) != (m.length : Int)) = true := by simp; omega
      have HWQ : Hid (wrong = 3) := Lib.hid (by rw [← HWR.out, dotBad, if_neg hlen])
      rw [HWQ.out] at HR2
      clear hlen
      have HX2 : Hid (XIs 3 Z2 E2 ((w8.setCell ⟨bp, 0, none⟩ (.pointer (some ⟨p8, 0, none⟩))).setCell ⟨bp, 1, none⟩ (.int .i64 E1)) q2 0) := Lib.hid (XIs.no (by decide))
      obtain ⟨y0, y1, y2, y3, y4, y5⟩ := HD.out.s.cells3
      obtain ⟨z0, z1, z2, z3⟩ := HD.out.p.cells2
      go_wp2_with fail
      refine (rIs_all (0) Z1 E1 _ k1 _ _ _ HS.out HX1.out (HT.out.2.2.1.below HT.out.2.2.2 HD.out.below) (Nat.lt_of_lt_of_le HT.out.2.2.2 HD.out.below.size)).mono ?_
      rintro e20 w20 ⟨rfl, hb20⟩
      replace HD := Lib.hid (HD.out.later hb20)
      replace HR2 := Lib.hid (HR2.out.below hb20)
      replace HX2 := Lib.hid (HX2.out.below hb20)
      clear hb20 y0 y1 y2 y3 y4 y5 z0 z1 z2 z3 HS HX1
      obtain ⟨y0, y1, y2, y3, y4, y5⟩ := HD.out.d.cells3
      obtain ⟨z0, z1, z2, z3⟩ := HD.out.q.cells2
      go_wp2_with fail
      refine (rIs_all (3) Z2 E2 _ k2 _ _ _ HR2.out HX2.out (HT.out.2.2.1.below HT.out.2.2.2 HD.out.below) (Nat.lt_of_lt_of_le HT.out.2.2.2 HD.out.below.size)).mono ?_
      rintro e21 w21 ⟨rfl, hb21⟩
      replace HD := Lib.hid (HD.out.later hb21)
      clear hb21 y0 y1 y2 y3 y4 y5 z0 z1 z2 z3
      go_wp2_with fail
      refine (awake_any _ (HT.out.1.below HT.out.2.1 HD.out.below) (Nat.lt_of_lt_of_le HT.out.2.1 HD.out.below.size)).mono ?_
      rintro e22 w22 ⟨rfl, hb22⟩
      have HB := Lib.hid (HD.out.later hb22).below
      clear hb22
      go_wp2
      go_ret
      exact ⟨rfl, HB.out⟩

end Go.Proofs.YtjoajbbapfgaoaaGreatDoor
