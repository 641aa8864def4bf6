/- Walk: the references' Off. Printed by wip/gen/fo1.py. -/
import Derived.Test.YtjoajbbapfgaoaaGreatDoorZFo1
namespace Go.Proofs.YtjoajbbapfgaoaaGreatDoor
open Go.RowKit

/-- What the references' Off answers. -/
def ROffOf (bad R RE : Int) (w : World) (e : Ending) (w' : World) : Prop :=
  ∃ b x, e = .returned (.tuple #[ExV b x, .int .i64 bad]) ∧ (bad = 0 → RInt w' b R ∧ x = RE) ∧ Below w.heap.size w w'

/-- The blocks: the answer's, the nought's. -/
def EBox (w W : World) (c q : Nat) : Prop :=
  BlkT W w.heap.size 34 #[.pointer none, .int .i64 0] ∧ BlkT W c 34 #[.pointer (some ⟨q, 0, none⟩), .int .i64 0] ∧ Below w.heap.size w W
theorem EBox.later {w W V : World} {c q : Nat} (h : EBox w W c q) (hb : Below W.heap.size W V) : EBox w V c q := ⟨h.1.below hb, h.2.1.below hb, h.2.2.trans (hb.mono h.2.2.size)⟩
theorem EBox.put {w W : World} {c q p : Nat} {bad x R RE : Int} (h : EBox w W c q) (hr : bad = 0 → RInt W p R ∧ x = RE) :
    ROffOf bad R RE w (.returned (.tuple #[.agg #[.pointer (some ⟨p, 0, none⟩), .int .i64 x], .int .i64 bad])) ((W.setCell ⟨w.heap.size, 0, none⟩ (.pointer (some ⟨p, 0, none⟩))).setCell ⟨w.heap.size, 1, none⟩ (.int .i64 x)) :=
  ⟨p, x, rfl, fun h0 => ⟨(hr h0).1.st2 h.1 _ _, (hr h0).2⟩, (h.2.2.setCell (Nat.le_refl _) _).setCell (Nat.le_refl _) _⟩

set_option maxRecDepth 100000 in
set_option maxHeartbeats 4000000 in
theorem rOff_any (v : Value) (l : List Nat) (way : Int) (w : World) (hl : FSl w v l) (hT : Tab32 w) (hTs : 2 < w.heap.size) :
    Calls Tryz.prog 74 #[v, .int .i64 way] w (ROffOf (offBad way l) (offZ way l) (offE way l) w) := by
  have HTA : Hid (∀ W, Below w.heap.size w W → Tab32 W ∧ 2 < W.heap.size) := Lib.hid fun W hb => ⟨hT.below hTs hb, Nat.lt_of_lt_of_le hTs hb.size⟩
  have HL := Lib.hid hl
  have hx : ∀ x ∈ l, x < 18446744073709551616 := by obtain ⟨_, _, _, _, _, h, _⟩ := hl; exact h
  have HX := Lib.hid hx
  have HQ := Lib.hid (And.intro (show offZ way l = plZ (valZ (wayB way l)) (pE (wayB way l)) (-(foldS (prs l)).1) (foldS (prs l)).2 from rfl) (show offE way l = plE (valZ (wayB way l)) (pE (wayB way l)) (-(foldS (prs l)).1) (foldS (prs l)).2 from rfl))
  obtain ⟨ao, cap, rfl, -⟩ := hl
  clear hT hTs hx
  generalize offZ way l = R at *
  generalize offE way l = RE at *
  generalize hob : offBad way l = bad at *
  have HOB := Lib.hid hob
  clear hob
  have HD0 : Hid (BlkT (w.alloc (.cells #[.pointer none, .int .i64 0] 34)) w.heap.size 34 #[.pointer none, .int .i64 0] ∧ Below w.heap.size w (w.alloc (.cells #[.pointer none, .int .i64 0] 34))) := Lib.hid ⟨BlkT.new w _ _, Below.alloc_self w _⟩
  go_enter Tryz.func74, Tryz.ntmps74
  go_wp2_with fail
  refine (rZero_any _).mono ?_
  rintro e1 w1 ⟨q, rfl, -, -, hb1⟩
  have HD : Hid (EBox w (w1.alloc (.cells #[.pointer (some ⟨q, 0, none⟩), .int .i64 0] 34)) w1.heap.size q) := Lib.hid ⟨(HD0.out.1.below hb1).below (Below.alloc_self w1 _), BlkT.new w1 _ _, (HD0.out.2.trans (hb1.mono HD0.out.2.size)).trans ((Below.alloc_self w1 _).mono (Nat.le_trans HD0.out.2.size hb1.size))⟩
  clear hb1 HD0
  unfold ExV
  by_cases hin : 1 ≤ way ∧ way ≤ 5
  case neg =>
    obtain rfl : bad = 50 := HOB.out.symm.trans (offBad_way hin)
    have hor : decide (way < 1) = true ∨ (decide (way < 1) = false ∧ decide (5 < way) = true) := by
      rcases Int.lt_or_le way 1 with h | h
      · exact .inl (decide_eq_true h)
      · exact .inr ⟨decide_eq_false (by omega), decide_eq_true (by omega)⟩
    clear hin HQ
    rcases hor with g1 | ⟨g1, g2⟩
    all_goals
      obtain ⟨q0, q1, q2, q3⟩ := HD.out.1.cells2
      obtain ⟨p0, p1, p2, p3⟩ := HD.out.2.1.cells2
      have HN := Lib.hid (HD.out.put (p := q) (bad := 50) (x := 0) (R := R) (RE := RE) (fun h => absurd h (by decide)))
      clear HD
      generalize hP : ROffOf 50 R RE w = P at *
      clear hP
      go_wp2
      refine bodyPost_ret (v := .tuple #[.agg #[.pointer (some ⟨q, 0, none⟩), .int .i64 0], .int .i64 50]) (by simp [results, Tryz.results74, go_sem, q0, q1]) rfl HN.out
  have HIN := Lib.hid hin
  have g1 : decide (way < 1) = false := decide_eq_false (by omega)
  have g2 : decide (5 < way) = false := decide_eq_false (by omega)
  clear hin
  by_cases hlen : 4096 < l.length
  · obtain rfl : bad = 2 := HOB.out.symm.trans (offBad_len HIN.out hlen)
    have hci : decide ((4096 : Int) < (l.length : Int)) = true := by simp; omega
    clear HQ hlen
    obtain ⟨q0, q1, q2, q3⟩ := HD.out.1.cells2
    obtain ⟨p0, p1, p2, p3⟩ := HD.out.2.1.cells2
    have HN := Lib.hid (HD.out.put (p := q) (bad := 2) (x := 0) (R := R) (RE := RE) (fun h => absurd h (by decide)))
    clear HD
    generalize hP : ROffOf 2 R RE w = P at *
    clear hP
    go_wp2
    refine bodyPost_ret (v := .tuple #[.agg #[.pointer (some ⟨q, 0, none⟩), .int .i64 0], .int .i64 2]) (by simp [results, Tryz.results74, go_sem, q0, q1]) rfl HN.out
  have hci : decide ((4096 : Int) < (l.length : Int)) = false := by simp; omega
  cases hall : l.all finB
  · obtain rfl : bad = 4 := HOB.out.symm.trans (offBad_num HIN.out hlen hall)
    have HALL := Lib.hid hall
    clear HQ hlen hall
    go_wp2_with fail
    generalize w1.alloc (.cells #[.pointer (some ⟨q, 0, none⟩), .int .i64 0] 34) = W1 at HD ⊢
    generalize w1.heap.size = c1 at HD ⊢
    refine (rAllFinite_any _ l _ (HL.out.below HD.out.2.2)).mono ?_
    rintro e2 w2 ⟨rfl, hb2⟩
    rw [HALL.out]
    replace HD := Lib.hid (HD.out.later hb2)
    clear hb2
    obtain ⟨q0, q1, q2, q3⟩ := HD.out.1.cells2
    obtain ⟨p0, p1, p2, p3⟩ := HD.out.2.1.cells2
    have HN := Lib.hid (HD.out.put (p := q) (bad := 4) (x := 0) (R := R) (RE := RE) (fun h => absurd h (by decide)))
    clear HD
    generalize hP : ROffOf 4 R RE w = P at *
    clear hP
    go_wp2
    refine bodyPost_ret (v := .tuple #[.agg #[.pointer (some ⟨q, 0, none⟩), .int .i64 0], .int .i64 4]) (by simp [results, Tryz.results74, go_sem, q0, q1]) rfl HN.out
  have HXL := Lib.hid (wayB_lt (way := way) HX.out hlen hall)
  have HBO := Lib.hid fun h => offBad_over HIN.out hlen hall h
  have HBK := Lib.hid fun h => offBad_ok HIN.out hlen hall h
  have HSU := Lib.hid fun v W (h : FSl W v l) => rSum_any v l W h hall
  have hs := prs_small (l := l) (by omega) hall l.length (Nat.le_refl _)
  rw [show (prs l).take l.length = prs l from List.take_of_length_le (by unfold prs; simp)] at hs
  have HSM := Lib.hid hs
  have HALL := Lib.hid hall
  have HSW := Lib.hid fun v W (h : FSl W v l) => rSumWay_any v l way W h
  clear hall hlen hs
  go_wp2_with fail
  generalize w1.alloc (.cells #[.pointer (some ⟨q, 0, none⟩), .int .i64 0] 34) = W1 at HD ⊢
  generalize w1.heap.size = c1 at HD ⊢
  refine (rAllFinite_any _ l _ (HL.out.below HD.out.2.2)).mono ?_
  rintro e2 w2 ⟨rfl, hb2⟩
  rw [HALL.out]
  replace HD := Lib.hid (HD.out.later hb2)
  clear hb2
  generalize wayB way l = s at *
  go_wp2_with fail
  refine (HSW.out _ _ (HL.out.below HD.out.2.2) (HTA.out _ HD.out.2.2).1 (HTA.out _ HD.out.2.2).2).mono ?_
  rintro e3 w3 ⟨rfl, hb3⟩
  replace HD := Lib.hid (HD.out.later hb3)
  clear hb3
  generalize wayE way l = we at *
  go_wp2_with fail
  refine (rFinite_any s _ HXL.out).mono ?_
  rintro e4 w4 ⟨rfl, hb4⟩
  replace HD := Lib.hid (HD.out.later hb4)
  clear hb4
  cases hfs : finB s
  · obtain rfl : bad = 5 := HOB.out.symm.trans (HBO.out hfs)
    clear hfs HBO HBK HSU HSM HQ
    obtain ⟨q0, q1, q2, q3⟩ := HD.out.1.cells2
    obtain ⟨p0, p1, p2, p3⟩ := HD.out.2.1.cells2
    have HN := Lib.hid (HD.out.put (p := q) (bad := 5) (x := 0) (R := R) (RE := RE) (fun h => absurd h (by decide)))
    clear HD
    generalize hP : ROffOf 5 R RE w = P at *
    clear hP
    go_wp2
    refine bodyPost_ret (v := .tuple #[.agg #[.pointer (some ⟨q, 0, none⟩), .int .i64 0], .int .i64 5]) (by simp [results, Tryz.results74, go_sem, q0, q1]) rfl HN.out
  · obtain rfl : bad = 0 := HOB.out.symm.trans (HBK.out hfs)
    have HFS := Lib.hid hfs
    have HPE := Lib.hid (pE_bd hfs)
    clear hfs
    go_wp2_with fail
    refine (rOf_any s _ HXL.out HFS.out).mono ?_
    rintro e5 w5 ⟨p5, rfl, -, hi5, hb5⟩
    have HI5 := Lib.hid hi5
    replace HD := Lib.hid (HD.out.later hb5)
    clear hi5 hb5
    go_wp2_with fail
    refine (HSU.out _ _ (HL.out.below HD.out.2.2)).mono ?_
    rintro e6 w6 ⟨p6, rfl, hi6, hb6⟩
    have HI6 := Lib.hid hi6
    replace HI5 := Lib.hid (HI5.out.below hb6)
    replace HD := Lib.hid (HD.out.later hb6)
    clear hi6 hb6
    generalize (foldS (prs l)).1 = S at *
    generalize (foldS (prs l)).2 = E at *
    unfold ExV
    go_wp2_with fail
    refine (rNegX_any _ _ _ _ HI6.out).mono ?_
    rintro e7 w7 ⟨p7, rfl, -, hi7, hb7⟩
    have HI7 := Lib.hid hi7
    replace HI5 := Lib.hid (HI5.out.below hb7)
    replace HD := Lib.hid (HD.out.later hb7)
    clear hi7 hb7
    have HAD := Lib.hid fun b c W (h1 : RInt W b (valZ s)) (h2 : RInt W c (-S)) => rAddX_any b c (valZ s) (pE s) (-S) E W h1 h2 (by have := val_bl (b := s); omega) (by rw [Int.natAbs_neg]; have := HSM.out; omega) (by have := HPE.out; omega) (by have := HPE.out; omega) (by have := HSM.out; omega) (by have := HSM.out; omega)
    rw [← HQ.out.1, ← HQ.out.2] at HAD
    clear HSM HQ HSU HBO HBK
    generalize pE s = x4 at *
    generalize valZ s = h4 at *
    unfold ExV
    go_wp2_with fail
    refine (HAD.out _ _ _ HI5.out HI7.out).mono ?_
    rintro e8 w8 ⟨p8, rfl, hi8, hb8⟩
    replace HD := Lib.hid (HD.out.later hb8)
    have HN := Lib.hid (HD.out.put (p := p8) (bad := 0) (x := RE) (R := R) (RE := RE) (fun _ => ⟨hi8, rfl⟩))
    clear hi8 hb8 HAD HI5 HI6 HI7
    obtain ⟨q0, q1, q2, q3⟩ := HD.out.1.cells2
    generalize hP : ROffOf 0 R RE w = P at *
    clear hP HD
    unfold ExV
    go_wp2
    refine bodyPost_ret (v := .tuple #[.agg #[.pointer (some ⟨p8, 0, none⟩), .int .i64 RE], .int .i64 0]) (by simp [results, Tryz.results74, go_sem, q0, q1]) rfl HN.out

end Go.Proofs.YtjoajbbapfgaoaaGreatDoor
