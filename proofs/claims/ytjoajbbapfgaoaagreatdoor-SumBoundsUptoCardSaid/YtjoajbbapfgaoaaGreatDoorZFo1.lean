/- Walks: by how much a way is off (program, references). Printed by wip/gen/fo1.py. -/
import Derived.Test.YtjoajbbapfgaoaaGreatDoorZFw1
import Derived.Test.YtjoajbbapfgaoaaGreatDoorZNe4
import Derived.Test.YtjoajbbapfgaoaaGreatDoorZSm1
namespace Go.Proofs.YtjoajbbapfgaoaaGreatDoor
open Go.RowKit

/-- By how much a way is off: the error's number; the dyad. -/
def offBad (way : Int) (l : List Nat) : Int :=
  if way < 1 ∨ 5 < way then 50 else if 4096 < l.length then 2 else if l.all finB = false then 4 else if finB (wayB way l) = false then 5 else 0
def offZ (way : Int) (l : List Nat) : Int := plZ (valZ (wayB way l)) (pE (wayB way l)) (-(foldS (prs l)).1) (foldS (prs l)).2
def offE (way : Int) (l : List Nat) : Int := plE (valZ (wayB way l)) (pE (wayB way l)) (-(foldS (prs l)).1) (foldS (prs l)).2

theorem offBad_way {way : Int} {l : List Nat} (h : ¬ (1 ≤ way ∧ way ≤ 5)) : offBad way l = 50 := by unfold offBad; rw [if_pos (by omega)]
theorem offBad_len {way : Int} {l : List Nat} (h : 1 ≤ way ∧ way ≤ 5) (h2 : 4096 < l.length) : offBad way l = 2 := by unfold offBad; rw [if_neg (by omega), if_pos h2]
theorem offBad_num {way : Int} {l : List Nat} (h : 1 ≤ way ∧ way ≤ 5) (h2 : ¬ 4096 < l.length) (h3 : l.all finB = false) : offBad way l = 4 := by unfold offBad; rw [if_neg (by omega), if_neg h2, if_pos h3]
theorem offBad_over {way : Int} {l : List Nat} (h : 1 ≤ way ∧ way ≤ 5) (h2 : ¬ 4096 < l.length) (h3 : l.all finB = true) (h4 : finB (wayB way l) = false) : offBad way l = 5 := by
  unfold offBad; rw [if_neg (by omega), if_neg h2, if_neg (by rw [h3]; decide), if_pos h4]
theorem offBad_ok {way : Int} {l : List Nat} (h : 1 ≤ way ∧ way ≤ 5) (h2 : ¬ 4096 < l.length) (h3 : l.all finB = true) (h4 : finB (wayB way l) = true) : offBad way l = 0 := by
  unfold offBad; rw [if_neg (by omega), if_neg h2, if_neg (by rw [h3]; decide), if_neg (by rw [h4]; decide)]

theorem wayB_lt {way : Int} {l : List Nat} (hx : ∀ x ∈ l, x < 18446744073709551616) (h2 : ¬ 4096 < l.length) (h3 : l.all finB = true) : wayB way l < 18446744073709551616 := by
  have hl : ∀ (o : Option Nat) v, Rep o v → cO o < 18446744073709551616 := fun o v h => by
    cases o with
    | none => decide
    | some x =>
      have : v < 18446744073709551616 := h.1
      rw [show v = x from h.2] at this
      show canonB x < _
      unfold canonB; split
      · decide
      · exact this
  have hleft : ∀ l : List Nat, (∀ x ∈ l, x < 18446744073709551616) → cO (leftO l) < 18446744073709551616 := by
    intro l hx
    rcases List.eq_nil_or_concat l with rfl | ⟨L, b, rfl⟩
    · decide
    · rw [List.concat_eq_append, leftO, List.foldl_append]; exact cO_lt
  have hkah : cO (kahF l).1 < 18446744073709551616 := by
    rcases List.eq_nil_or_concat l with rfl | ⟨L, b, rfl⟩
    · decide
    · rw [List.concat_eq_append, kahF, List.foldl_append]; exact cO_lt
  unfold wayB
  split
  · exact hleft l hx
  · split
    · exact prB_lt hx
    · split
      · exact hkah
      · split
        · exact cO_lt
        · split
          · first | exact exB_lt h3 | (rw [if_neg h2]; exact exB_lt h3)
          · decide

/-- The answer is the one dyad, whichever way the sum is written. -/
theorem off_nr {s S E : Int} {e : Int} (h1 : -1074 ≤ e) (h2 : -1074 ≤ E) :
    hvZ (plZ s e (-hvZ S) (nrE S E)) = hvZ (plZ s e (-S) E) ∧ nrE (plZ s e (-hvZ S) (nrE S E)) (plE s e (-hvZ S) (nrE S E)) = nrE (plZ s e (-S) E) (plE s e (-S) E) := by
  have g1 : 0 ≤ nrE S E + 1074 := nrE_ge (by omega) (by omega)
  have g2 : 0 ≤ plE s e (-hvZ S) (nrE S E) + 1074 := plE_ge (by omega) g1
  have g3 : 0 ≤ plE s e (-S) E + 1074 := plE_ge (by omega) (by omega)
  refine nrm_unique (M := 1074) (nrm_hv _ _) (nrm_hv _ _) (nrE_ge (by omega) g2) (nrE_ge (by omega) g3) ?_
  rw [sc_nr g2, sc_nr g3, sc_pl (by omega) g1, sc_pl (by omega) (by omega), sc_neg, sc_neg, sc_nr (by omega)]

/-- What Off answers. -/
def OffOf (bad z e : Int) (w : World) (en : Ending) (w' : World) : Prop :=
  ∃ n ao l c x, en = .returned (.tuple #[.agg #[.bool n, .slice ao l c, .int .i64 x], .int .i64 bad]) ∧ ResIs bad z e w' (.agg #[.bool n, .slice ao l c, .int .i64 x]) bad ∧ Below w.heap.size w w'

/-- The block of the answer. -/
def DBox (w W : World) : Prop := BlkT W w.heap.size 24 #[.bool false, .slice none 0 0, .int .i64 0] ∧ Below w.heap.size w W
theorem DBox.start (w : World) : DBox w (w.alloc (.cells #[.bool false, .slice none 0 0, .int .i64 0] 24)) := ⟨BlkT.new w _ _, Below.alloc_self w _⟩
theorem DBox.later {w W V : World} (h : DBox w W) (hb : Below W.heap.size W V) : DBox w V := ⟨h.1.below hb, h.2.trans (hb.mono h.2.size)⟩
theorem DBox.err {w W : World} {bad R RE : Int} (h : DBox w W) (h0 : bad ≠ 0) :
    OffOf bad R RE w (.returned (.tuple #[.agg #[.bool false, .slice none 0 0, .int .i64 0], .int .i64 bad])) (((W.setCell ⟨w.heap.size, 0, none⟩ (.bool false)).setCell ⟨w.heap.size, 1, none⟩ (.slice none 0 0)).setCell ⟨w.heap.size, 2, none⟩ (.int .i64 0)) :=
  ⟨_, _, _, _, _, rfl, .inr ⟨h0, rfl, rfl⟩, ((h.2.setCell (Nat.le_refl _) _).setCell (Nat.le_refl _) _).setCell (Nat.le_refl _) _⟩
theorem DBox.put {w W : World} {bad R RE x : Int} {n : Bool} {a : Option Addr} {l c : Nat} (h : DBox w W) (hr : ResIs bad R RE W (.agg #[.bool n, .slice a l c, .int .i64 x]) bad) :
    OffOf bad R RE w (.returned (.tuple #[.agg #[.bool n, .slice a l c, .int .i64 x], .int .i64 bad])) (((W.setCell ⟨w.heap.size, 0, none⟩ (.bool n)).setCell ⟨w.heap.size, 1, none⟩ (.slice a l c)).setCell ⟨w.heap.size, 2, none⟩ (.int .i64 x)) :=
  ⟨n, a, l, c, x, rfl, ((hr.setOther h.1 objT_dyad _).setOther (h.1.set (i := 0) _) objT_dyad _).setOther ((h.1.set (i := 0) _).set (i := 1) _) objT_dyad _,
    ((h.2.setCell (Nat.le_refl _) _).setCell (Nat.le_refl _) _).setCell (Nat.le_refl _) _⟩

set_option maxRecDepth 100000 in
set_option maxHeartbeats 4000000 in
theorem off_any (v : Value) (l : List Nat) (way : Int) (w : World) (hl : FSl w v l) (hw : (Lit.int .i64 way).wf = true) (hT : Tab64 w) (hTs : 1 < w.heap.size) :
    Calls Tryz.prog 71 #[v, .int .i64 way] w (OffOf (offBad way l) (offZ way l) (offE way l) w) := by
  have HTA : Hid (∀ W, Below w.heap.size w W → Tab64 W ∧ 1 < W.heap.size) := Lib.hid fun W hb => ⟨hT.below hTs hb, Nat.lt_of_lt_of_le hTs hb.size⟩
  have HL := Lib.hid hl
  have HW := Lib.hid hw
  have hx : ∀ x ∈ l, x < 18446744073709551616 := by obtain ⟨_, _, _, _, _, h, _⟩ := hl; exact h
  have HX := Lib.hid hx
  have HQ := Lib.hid (And.intro (show offZ way l = plZ (valZ (wayB way l)) (pE (wayB way l)) (-(foldS (prs l)).1) (foldS (prs l)).2 from rfl) (show offE way l = plE (valZ (wayB way l)) (pE (wayB way l)) (-(foldS (prs l)).1) (foldS (prs l)).2 from rfl))
  obtain ⟨ao, cap, rfl, -⟩ := hl
  clear hT hTs hw hx
  generalize offZ way l = R at *
  generalize offE way l = RE at *
  generalize hob : offBad way l = bad at *
  have HOB := Lib.hid hob
  clear hob
  have HD0 := Lib.hid (DBox.start w)
  go_enter Tryz.func71, Tryz.ntmps71
  go_wp2_with fail
  refine (ways_any _).mono ?_
  rintro e1 w1 ⟨RR, m, b1, b2, b3, b4, rfl, hR, hm, h1, h2, h3, h4, hb⟩
  obtain ⟨fv, hlook, hv⟩ := way_look hR hm way HW.out
  have HV : Hid (1 ≤ way ∧ way ≤ 5 → WayF fv w1 (.slice ao l.length cap) l way) := Lib.hid (wayF_of h1 h2 h3 h4 hv)
  have HD := Lib.hid (HD0.out.later hb)
  clear hR hm h1 h2 h3 h4 hb hv HD0
  by_cases hin : 1 ≤ way ∧ way ≤ 5
  case neg =>
    rw [decide_eq_false hin] at hlook
    obtain rfl : bad = 50 := HOB.out.symm.trans (offBad_way hin)
    clear HV hin HQ
    obtain ⟨q0, q1, q2, q3, q4, q5⟩ := HD.out.1.cells3
    have HN := Lib.hid (HD.out.err (bad := 50) (R := R) (RE := RE) (by decide))
    clear HD
    generalize hP : OffOf 50 R RE w = P at *
    clear hP
    go_wp2
    refine bodyPost_ret (v := .tuple #[.agg #[.bool false, .slice none 0 0, .int .i64 0], .int .i64 50]) (by simp [results, Tryz.results71, go_sem, q0, q1, q2]) rfl HN.out
  rw [decide_eq_true hin] at hlook
  have HF := Lib.hid (HV.out hin)
  have HIN := Lib.hid hin
  clear HV hin
  by_cases hlen : 4096 < l.length
  · obtain rfl : bad = 2 := HOB.out.symm.trans (offBad_len HIN.out hlen)
    have hci : decide ((4096 : Int) < (l.length : Int)) = true := by simp; omega
    clear HQ hlen
    obtain ⟨q0, q1, q2, q3, q4, q5⟩ := HD.out.1.cells3
    have HN := Lib.hid (HD.out.err (bad := 2) (R := R) (RE := RE) (by decide))
    clear HD
    generalize hP : OffOf 2 R RE w = P at *
    clear hP
    go_wp2
    refine bodyPost_ret (v := .tuple #[.agg #[.bool false, .slice none 0 0, .int .i64 0], .int .i64 2]) (by simp [results, Tryz.results71, go_sem, q0, q1, q2]) rfl HN.out
  have hci : decide ((4096 : Int) < (l.length : Int)) = false := by simp; omega
  cases hall : l.all finB
  · obtain rfl : bad = 4 := HOB.out.symm.trans (offBad_num HIN.out hlen hall)
    have HALL := Lib.hid hall
    clear HQ hlen hall
    go_wp2_with fail
    refine (Finite_any _ l _ (HL.out.below HD.out.2)).mono ?_
    rintro e2 w2 ⟨rfl, hb2⟩
    rw [HALL.out]
    replace HD := Lib.hid (HD.out.later hb2)
    clear hb2
    obtain ⟨q0, q1, q2, q3, q4, q5⟩ := HD.out.1.cells3
    have HN := Lib.hid (HD.out.err (bad := 4) (R := R) (RE := RE) (by decide))
    clear HD
    generalize hP : OffOf 4 R RE w = P at *
    clear hP
    go_wp2
    refine bodyPost_ret (v := .tuple #[.agg #[.bool false, .slice none 0 0, .int .i64 0], .int .i64 4]) (by simp [results, Tryz.results71, go_sem, q0, q1, q2]) rfl HN.out
  have HXL := Lib.hid (wayB_lt (way := way) HX.out hlen hall)
  have HBO := Lib.hid fun h => offBad_over HIN.out hlen hall h
  have HBK := Lib.hid fun h => offBad_ok HIN.out hlen hall h
  have HSU := Lib.hid fun v W (h : FSl W v l) => Sum_any v l W h hall
  have hs := prs_small (l := l) (by omega) hall l.length (Nat.le_refl _)
  rw [show (prs l).take l.length = prs l from List.take_of_length_le (by unfold prs; simp)] at hs
  have HSM := Lib.hid hs
  have HWE : Hid (way = 5 → wayE 5 l = 0) := Lib.hid fun _ => by unfold wayE; rw [if_neg (by decide), if_neg (by omega)]
  have HALL := Lib.hid hall
  have HXE : Hid (exL l = .tuple #[.float .f64 (wayB 5 l), .int .i64 (wayE 5 l)]) := Lib.hid rfl
  clear hall hlen hs
  go_wp2_with fail
  refine (Finite_any _ l _ (HL.out.below HD.out.2)).mono ?_
  rintro e2 w2 ⟨rfl, hb2⟩
  rw [HALL.out]
  replace HF := Lib.hid (HF.out.below hb2)
  replace HD := Lib.hid (HD.out.later hb2)
  clear hb2
  generalize hsg : wayB way l = s at *
  have HSG := Lib.hid hsg
  clear hsg
  have HGO : Hid (∃ er : Int, ∀ W, Below w2.heap.size w2 W → True) := Lib.hid ⟨0, fun _ _ => trivial⟩
  rcases HF.out with ⟨b, f, r, rfl, hbox, hp, hr1, hr2⟩ | ⟨rfl, rfl⟩
  · have HBX := Lib.hid (And.intro hbox hp)
    have HR1 : Hid (s = r) := Lib.hid (HSG.out.symm.trans hr1)
    obtain rfl : s = r := HR1.out
    clear hbox hp hr1 hr2 HF HWE HXE HGO HSG HR1
    unfold wayV
    go_wp2_with fail
    refine (wayC_any b f _ l s _ HBX.out.1 (HL.out.below HD.out.2) HBX.out.2).mono ?_
    rintro e3 w3 ⟨rfl, hb3⟩
    replace HD := Lib.hid (HD.out.later hb3)
    clear hb3 HBX
    cases hfs : finB s
    · obtain rfl : bad = 5 := HOB.out.symm.trans (HBO.out hfs)
      go_wp2_with fail
      refine (dOf_bad s _ HXL.out hfs).mono ?_
      rintro e4 w4 ⟨rfl, hb4⟩
      replace HD := Lib.hid (HD.out.later (hb4.trans ((Below.alloc_self w4 (.cells #[.bool false, .slice none 0 0, .int .i64 0] 24)).mono hb4.size)))
      clear hb4 hfs HBO HBK HSU HSM HQ
      unfold DyV
      obtain ⟨q0, q1, q2, q3, q4, q5⟩ := HD.out.1.cells3
      have HN := Lib.hid (HD.out.err (bad := 5) (R := R) (RE := RE) (by decide))
      generalize hP : OffOf 5 R RE w = P at *
      clear hP HD
      go_wp2
      refine bodyPost_ret (v := .tuple #[.agg #[.bool false, .slice none 0 0, .int .i64 0], .int .i64 5]) (by simp [results, Tryz.results71, go_sem, q0, q1, q2]) rfl HN.out
    · obtain rfl : bad = 0 := HOB.out.symm.trans (HBK.out hfs)
      have HFS := Lib.hid hfs
      have HGD := Lib.hid (good_of hfs)
      have HPE := Lib.hid (pE_bd hfs)
      clear hfs
      go_wp2_with fail
      refine (dOf_any s _ HXL.out HFS.out (HTA.out _ HD.out.2).1 (HTA.out _ HD.out.2).2).mono ?_
      rintro e4 w4 ⟨sl4, rfl, hr4, -, hb4⟩
      have HA4 : Hid (DyAt w4 (DyV (decide (valZ s < 0)) sl4 (pE s)) (valZ s) (pE s)) := Lib.hid ⟨sl4, rfl, hr4⟩
      replace HD := Lib.hid (HD.out.later hb4)
      obtain ⟨a4, c4, rfl, -⟩ := hr4
      clear hb4
      unfold DyV at *
      generalize decide (valZ s < 0) = n4 at *
      generalize ln 32 (valZ s).natAbs = k4 at *
      have HB4 : Hid (BlkT (w4.alloc (.cells #[.bool n4, .slice a4 k4 c4, .int .i64 (pE s)] 24)) w4.heap.size 24 #[.bool n4, .slice a4 k4 c4, .int .i64 (pE s)]) := Lib.hid (BlkT.new w4 _ _)
      replace HA4 := Lib.hid (HA4.out.below (Below.alloc_self w4 (.cells #[.bool n4, .slice a4 k4 c4, .int .i64 (pE s)] 24)))
      replace HD := Lib.hid (HD.out.later (Below.alloc_self w4 (.cells #[.bool n4, .slice a4 k4 c4, .int .i64 (pE s)] 24)))
      go_wp2_with fail
      generalize w4.alloc (.cells #[.bool n4, .slice a4 k4 c4, .int .i64 (pE s)] 24) = W4 at HA4 HD HB4 ⊢
      generalize w4.heap.size = p4 at HB4 ⊢
      refine (HSU.out _ _ (HL.out.below HD.out.2) (HTA.out _ HD.out.2).1 (HTA.out _ HD.out.2).2).mono ?_
      rintro e5 w5 ⟨sl5, rfl, hr5, -, hb5⟩
      generalize (foldS (prs l)).1 = S at *
      generalize (foldS (prs l)).2 = E at *
      have HA5 : Hid (DyAt w5 (DyV (decide (hvZ S < 0)) sl5 (nrE S E)) (hvZ S) (nrE S E)) := Lib.hid ⟨sl5, rfl, hr5⟩
      replace HD := Lib.hid (HD.out.later hb5)
      replace HA4 := Lib.hid (HA4.out.below hb5)
      replace HB4 := Lib.hid (HB4.out.below hb5)
      have HGS : Hid (GoodD (hvZ S) (nrE S E)) := Lib.hid (good_hv (by have := HSM.out; omega) (by have := HSM.out; omega) (by have := HSM.out; omega))
      obtain ⟨a5, c5, rfl, -⟩ := hr5
      clear hb5
      unfold DyV at *
      generalize decide (hvZ S < 0) = n5 at *
      generalize ln 32 (hvZ S).natAbs = k5 at *
      have HSB : Hid (∀ va vb W, DyAt W va (valZ s) (pE s) → DyAt W vb (hvZ S) (nrE S E) → Tab64 W → 1 < W.heap.size → Calls Tryz.prog 43 #[va, vb] W (OffOf 0 R RE W)) := Lib.hid fun va vb W g1 g2 g3 g4 => by
        obtain ⟨u1, u2⟩ := off_nr (s := valZ s) (S := S) (E := E) (e := pE s) HPE.out.1 HSM.out.1
        rw [← HQ.out.1] at u1
        rw [← HQ.out.1, ← HQ.out.2] at u2
        have b1 := val_bl (b := s)
        have b2 := bl_hvZ S
        have b3 := hvE_bd S E
        have b4 : -1074 ≤ nrE S E ∧ nrE S E ≤ 4000 := by unfold nrE; have := HSM.out; split <;> omega
        have b5 := bl_plZ (z := valZ s) (e := pE s) (y := -hvZ S) (f := nrE S E)
        rw [Int.natAbs_neg] at b5
        have b6 : -1074 ≤ plE (valZ s) (pE s) (-hvZ S) (nrE S E) ∧ plE (valZ s) (pE s) (-hvZ S) (nrE S E) ≤ 4000 := by unfold plE; have := HPE.out; split; omega; split; omega; omega
        have b7 := HPE.out
        have b8 := HSM.out
        have c1 := bl_plZ (z := valZ s) (e := pE s) (y := -S) (f := E)
        rw [Int.natAbs_neg, ← HQ.out.1] at c1
        have c2 : -1074 ≤ RE ∧ RE ≤ 4000 := by rw [HQ.out.2]; unfold plE; split; omega; split; omega; omega
        refine (dSub_any va vb _ _ _ _ W g1 g2 HGD.out HGS.out g3 g4 (.inr (lng_small (by omega) (by omega) (by omega)))).mono fun en W' hd => ?_
        rw [u1, u2] at hd
        obtain ⟨sl, rfl, hr, -, hb⟩ := hd
        have hr2 := hr
        obtain ⟨a, c, rfl, -⟩ := hr2
        exact ⟨_, _, _, _, _, rfl, .inl ⟨rfl, .inl ⟨.inr (lng_small (by omega) (by omega) (by omega)), ⟨_, rfl, hr⟩, rfl⟩⟩, hb⟩
      have HB5 : Hid (BlkT (w5.alloc (.cells #[.bool n5, .slice a5 k5 c5, .int .i64 (nrE S E)] 24)) w5.heap.size 24 #[.bool n5, .slice a5 k5 c5, .int .i64 (nrE S E)]) := Lib.hid (BlkT.new w5 _ _)
      replace HA4 := Lib.hid (HA4.out.below (Below.alloc_self w5 (.cells #[.bool n5, .slice a5 k5 c5, .int .i64 (nrE S E)] 24)))
      replace HA5 := Lib.hid (HA5.out.below (Below.alloc_self w5 (.cells #[.bool n5, .slice a5 k5 c5, .int .i64 (nrE S E)] 24)))
      replace HB4 := Lib.hid (HB4.out.below (Below.alloc_self w5 (.cells #[.bool n5, .slice a5 k5 c5, .int .i64 (nrE S E)] 24)))
      replace HD := Lib.hid (HD.out.later (Below.alloc_self w5 (.cells #[.bool n5, .slice a5 k5 c5, .int .i64 (nrE S E)] 24)))
      clear HSU HSM HQ HGS HGD HPE HBO HBK
      obtain ⟨y0, y1, y2, y3, y4, y5⟩ := HB4.out.cells3
      obtain ⟨z0, z1, z2, z3, z4, z5⟩ := HB5.out.cells3
      generalize nrE S E = x5 at *
      generalize hvZ S = h5 at *
      generalize pE s = x4 at *
      generalize valZ s = h4 at *
      go_wp2_with fail
      refine (HSB.out _ _ _ HA4.out HA5.out (HTA.out _ HD.out.2).1 (HTA.out _ HD.out.2).2).mono ?_
      rintro e6 w6 ⟨n6, a6, l6, c6, x6, rfl, hr6, hb6⟩
      replace HD := Lib.hid (HD.out.later hb6)
      have HN := Lib.hid (HD.out.put hr6)
      clear hr6 hb6 HSB HA4 HA5 HB4 HB5 y0 y1 y2 y3 y4 y5 z0 z1 z2 z3 z4 z5
      obtain ⟨q0, q1, q2, q3, q4, q5⟩ := HD.out.1.cells3
      generalize hP : OffOf 0 R RE w = P at *
      clear hP HD
      go_wp2
      refine bodyPost_ret (v := .tuple #[.agg #[.bool n6, .slice a6 l6 c6, .int .i64 x6], .int .i64 0]) (by simp [results, Tryz.results71, go_sem, q0, q1, q2]) rfl HN.out
  · rw [HSG.out, HWE.out rfl] at HXE
    clear HF HGO HSG HWE
    go_wp2_with fail
    refine (exact_any _ l _ (HL.out.below HD.out.2) (HTA.out _ HD.out.2).1 (HTA.out _ HD.out.2).2).mono ?_
    rintro e3 w3 ⟨rfl, hb3⟩
    rw [HXE.out]
    replace HD := Lib.hid (HD.out.later hb3)
    clear hb3 HXE
    cases hfs : finB s
    · obtain rfl : bad = 5 := HOB.out.symm.trans (HBO.out hfs)
      go_wp2_with fail
      refine (dOf_bad s _ HXL.out hfs).mono ?_
      rintro e4 w4 ⟨rfl, hb4⟩
      replace HD := Lib.hid (HD.out.later (hb4.trans ((Below.alloc_self w4 (.cells #[.bool false, .slice none 0 0, .int .i64 0] 24)).mono hb4.size)))
      clear hb4 hfs HBO HBK HSU HSM HQ
      unfold DyV
      obtain ⟨q0, q1, q2, q3, q4, q5⟩ := HD.out.1.cells3
      have HN := Lib.hid (HD.out.err (bad := 5) (R := R) (RE := RE) (by decide))
      generalize hP : OffOf 5 R RE w = P at *
      clear hP HD
      go_wp2
      refine bodyPost_ret (v := .tuple #[.agg #[.bool false, .slice none 0 0, .int .i64 0], .int .i64 5]) (by simp [results, Tryz.results71, go_sem, q0, q1, q2]) rfl HN.out
    · obtain rfl : bad = 0 := HOB.out.symm.trans (HBK.out hfs)
      have HFS := Lib.hid hfs
      have HGD := Lib.hid (good_of hfs)
      have HPE := Lib.hid (pE_bd hfs)
      clear hfs
      go_wp2_with fail
      refine (dOf_any s _ HXL.out HFS.out (HTA.out _ HD.out.2).1 (HTA.out _ HD.out.2).2).mono ?_
      rintro e4 w4 ⟨sl4, rfl, hr4, -, hb4⟩
      have HA4 : Hid (DyAt w4 (DyV (decide (valZ s < 0)) sl4 (pE s)) (valZ s) (pE s)) := Lib.hid ⟨sl4, rfl, hr4⟩
      replace HD := Lib.hid (HD.out.later hb4)
      obtain ⟨a4, c4, rfl, -⟩ := hr4
      clear hb4
      unfold DyV at *
      generalize decide (valZ s < 0) = n4 at *
      generalize ln 32 (valZ s).natAbs = k4 at *
      have HB4 : Hid (BlkT (w4.alloc (.cells #[.bool n4, .slice a4 k4 c4, .int .i64 (pE s)] 24)) w4.heap.size 24 #[.bool n4, .slice a4 k4 c4, .int .i64 (pE s)]) := Lib.hid (BlkT.new w4 _ _)
      replace HA4 := Lib.hid (HA4.out.below (Below.alloc_self w4 (.cells #[.bool n4, .slice a4 k4 c4, .int .i64 (pE s)] 24)))
      replace HD := Lib.hid (HD.out.later (Below.alloc_self w4 (.cells #[.bool n4, .slice a4 k4 c4, .int .i64 (pE s)] 24)))
      go_wp2_with fail
      generalize w4.alloc (.cells #[.bool n4, .slice a4 k4 c4, .int .i64 (pE s)] 24) = W4 at HA4 HD HB4 ⊢
      generalize w4.heap.size = p4 at HB4 ⊢
      refine (HSU.out _ _ (HL.out.below HD.out.2) (HTA.out _ HD.out.2).1 (HTA.out _ HD.out.2).2).mono ?_
      rintro e5 w5 ⟨sl5, rfl, hr5, -, hb5⟩
      generalize (foldS (prs l)).1 = S at *
      generalize (foldS (prs l)).2 = E at *
      have HA5 : Hid (DyAt w5 (DyV (decide (hvZ S < 0)) sl5 (nrE S E)) (hvZ S) (nrE S E)) := Lib.hid ⟨sl5, rfl, hr5⟩
      replace HD := Lib.hid (HD.out.later hb5)
      replace HA4 := Lib.hid (HA4.out.below hb5)
      replace HB4 := Lib.hid (HB4.out.below hb5)
      have HGS : Hid (GoodD (hvZ S) (nrE S E)) := Lib.hid (good_hv (by have := HSM.out; omega) (by have := HSM.out; omega) (by have := HSM.out; omega))
      obtain ⟨a5, c5, rfl, -⟩ := hr5
      clear hb5
      unfold DyV at *
      generalize decide (hvZ S < 0) = n5 at *
      generalize ln 32 (hvZ S).natAbs = k5 at *
      have HSB : Hid (∀ va vb W, DyAt W va (valZ s) (pE s) → DyAt W vb (hvZ S) (nrE S E) → Tab64 W → 1 < W.heap.size → Calls Tryz.prog 43 #[va, vb] W (OffOf 0 R RE W)) := Lib.hid fun va vb W g1 g2 g3 g4 => by
        obtain ⟨u1, u2⟩ := off_nr (s := valZ s) (S := S) (E := E) (e := pE s) HPE.out.1 HSM.out.1
        rw [← HQ.out.1] at u1
        rw [← HQ.out.1, ← HQ.out.2] at u2
        have b1 := val_bl (b := s)
        have b2 := bl_hvZ S
        have b3 := hvE_bd S E
        have b4 : -1074 ≤ nrE S E ∧ nrE S E ≤ 4000 := by unfold nrE; have := HSM.out; split <;> omega
        have b5 := bl_plZ (z := valZ s) (e := pE s) (y := -hvZ S) (f := nrE S E)
        rw [Int.natAbs_neg] at b5
        have b6 : -1074 ≤ plE (valZ s) (pE s) (-hvZ S) (nrE S E) ∧ plE (valZ s) (pE s) (-hvZ S) (nrE S E) ≤ 4000 := by unfold plE; have := HPE.out; split; omega; split; omega; omega
        have b7 := HPE.out
        have b8 := HSM.out
        have c1 := bl_plZ (z := valZ s) (e := pE s) (y := -S) (f := E)
        rw [Int.natAbs_neg, ← HQ.out.1] at c1
        have c2 : -1074 ≤ RE ∧ RE ≤ 4000 := by rw [HQ.out.2]; unfold plE; split; omega; split; omega; omega
        refine (dSub_any va vb _ _ _ _ W g1 g2 HGD.out HGS.out g3 g4 (.inr (lng_small (by omega) (by omega) (by omega)))).mono fun en W' hd => ?_
        rw [u1, u2] at hd
        obtain ⟨sl, rfl, hr, -, hb⟩ := hd
        have hr2 := hr
        obtain ⟨a, c, rfl, -⟩ := hr2
        exact ⟨_, _, _, _, _, rfl, .inl ⟨rfl, .inl ⟨.inr (lng_small (by omega) (by omega) (by omega)), ⟨_, rfl, hr⟩, rfl⟩⟩, hb⟩
      have HB5 : Hid (BlkT (w5.alloc (.cells #[.bool n5, .slice a5 k5 c5, .int .i64 (nrE S E)] 24)) w5.heap.size 24 #[.bool n5, .slice a5 k5 c5, .int .i64 (nrE S E)]) := Lib.hid (BlkT.new w5 _ _)
      replace HA4 := Lib.hid (HA4.out.below (Below.alloc_self w5 (.cells #[.bool n5, .slice a5 k5 c5, .int .i64 (nrE S E)] 24)))
      replace HA5 := Lib.hid (HA5.out.below (Below.alloc_self w5 (.cells #[.bool n5, .slice a5 k5 c5, .int .i64 (nrE S E)] 24)))
      replace HB4 := Lib.hid (HB4.out.below (Below.alloc_self w5 (.cells #[.bool n5, .slice a5 k5 c5, .int .i64 (nrE S E)] 24)))
      replace HD := Lib.hid (HD.out.later (Below.alloc_self w5 (.cells #[.bool n5, .slice a5 k5 c5, .int .i64 (nrE S E)] 24)))
      clear HSU HSM HQ HGS HGD HPE HBO HBK
      obtain ⟨y0, y1, y2, y3, y4, y5⟩ := HB4.out.cells3
      obtain ⟨z0, z1, z2, z3, z4, z5⟩ := HB5.out.cells3
      generalize nrE S E = x5 at *
      generalize hvZ S = h5 at *
      generalize pE s = x4 at *
      generalize valZ s = h4 at *
      go_wp2_with fail
      refine (HSB.out _ _ _ HA4.out HA5.out (HTA.out _ HD.out.2).1 (HTA.out _ HD.out.2).2).mono ?_
      rintro e6 w6 ⟨n6, a6, l6, c6, x6, rfl, hr6, hb6⟩
      replace HD := Lib.hid (HD.out.later hb6)
      have HN := Lib.hid (HD.out.put hr6)
      clear hr6 hb6 HSB HA4 HA5 HB4 HB5 y0 y1 y2 y3 y4 y5 z0 z1 z2 z3 z4 z5
      obtain ⟨q0, q1, q2, q3, q4, q5⟩ := HD.out.1.cells3
      generalize hP : OffOf 0 R RE w = P at *
      clear hP HD
      go_wp2
      refine bodyPost_ret (v := .tuple #[.agg #[.bool n6, .slice a6 l6 c6, .int .i64 x6], .int .i64 0]) (by simp [results, Tryz.results71, go_sem, q0, q1, q2]) rfl HN.out

end Go.Proofs.YtjoajbbapfgaoaaGreatDoor
