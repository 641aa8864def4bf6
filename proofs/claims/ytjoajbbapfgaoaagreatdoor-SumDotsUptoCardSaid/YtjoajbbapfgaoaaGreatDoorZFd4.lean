/- Walk: SumDots. Printed by wip/gen/fd4.py. -/
import Derived.Test.YtjoajbbapfgaoaaGreatDoorZFd3
import Derived.Test.YtjoajbbapfgaoaaGreatDoorZFw1
import Derived.Test.YtjoajbbapfgaoaaGreatDoorZNe4
namespace Go.Proofs.YtjoajbbapfgaoaaGreatDoor
open Go.RowKit

/-- What the exact dot product answers: the number, the error's. -/
def dexR (l m : List Nat) : Nat := if l.length = m.length then (if 4096 < l.length then 0 else dexB l m) else 0
def dexE (l m : List Nat) : Int := if l.length = m.length then (if 4096 < l.length then 2 else 0) else 3

theorem dotX_any (va vb : Value) (l m : List Nat) (w : World) (hl : FSl w va l) (hm : FSl w vb m) (hT : Tab64 w) (hTs : 1 < w.heap.size) :
    Calls Tryz.prog 78 #[va, vb] w (Gives (.tuple #[.float .f64 (dexR l m), .int .i64 (dexE l m)]) w) := by
  unfold dexR dexE
  by_cases h : l.length = m.length
  · rw [if_pos h, if_pos h]
    by_cases h2 : 4096 < l.length
    · rw [if_pos h2, if_pos h2]; exact dotX_long va vb l m w hl hm h h2
    · rw [if_neg h2, if_neg h2]; exact dotX_ok va vb l m w hl hm h (by omega) hT hTs
  · rw [if_neg h, if_neg h]; exact dotX_bad va vb l m w hl hm h

theorem rdotX_any (va vb : Value) (l m : List Nat) (w : World) (hl : FSl w va l) (hm : FSl w vb m) (hT : Tab32 w) (hTs : 2 < w.heap.size) :
    Calls Tryz.prog 79 #[va, vb] w (Gives (.tuple #[.float .f64 (dexR l m), .int .i64 (dexE l m)]) w) := by
  unfold dexR dexE
  by_cases h : l.length = m.length
  · rw [if_pos h, if_pos h]
    by_cases h2 : 4096 < l.length
    · rw [if_pos h2, if_pos h2]; exact rdotX_long va vb l m w hl hm h h2
    · rw [if_neg h2, if_neg h2]; exact rdotX_ok va vb l m w hl hm h (by omega) hT hTs
  · rw [if_neg h, if_neg h]; exact rdotX_bad va vb l m w hl hm h

theorem canon_dexR (l m : List Nat) : canonB (dexR l m) = dexR l m := by
  unfold dexR
  split
  · split
    · decide
    · unfold dexB
      split
      · exact canon_cO _
      · unfold rndX
        split
        · decide
        · rename_i h
          unfold canonB
          rw [rnd_nan h]; rfl
  · decide

def dotR (l m : List Nat) : Nat := if l.length = m.length then cO (dotU l m l.length) else 0
def dotK (l m : List Nat) : Int := if l.length = m.length then 0 else 3
theorem dotV_eq (l m : List Nat) : dotV l m = .tuple #[.float .f64 (dotR l m), .int .i64 (dotK l m)] := by
  unfold dotV dotR dotK
  by_cases h : l.length = m.length
  · rw [if_pos h, if_pos h, if_pos h]
  · rw [if_neg h, if_neg h, if_neg h]
theorem canon_dotR (l m : List Nat) : canonB (dotR l m) = dotR l m := by
  unfold dotR
  split
  · exact canon_cO _
  · decide

set_option maxRecDepth 100000 in
set_option maxHeartbeats 4000000 in
theorem sumDots_any (v1 v2 : Value) (l m : List Nat) (w : World) (hl : USl w v1 l) (hm : USl w v2 m)
    (hT : Tab64 w) (hTs : 1 < w.heap.size) (hT2 : Tab32 w) (hTs2 : 2 < w.heap.size) :
    Calls Tryz.prog 11 #[v1, v2] w (Gives (.bool true) w) := by
  have HTA : Hid (∀ W, Below w.heap.size w W → Tab64 W ∧ 1 < W.heap.size) := Lib.hid fun W hb => ⟨hT.below hTs hb, Nat.lt_of_lt_of_le hTs hb.size⟩
  have HTB : Hid (∀ W, Below w.heap.size w W → Tab32 W ∧ 2 < W.heap.size) := Lib.hid fun W hb => ⟨hT2.below hTs2 hb, Nat.lt_of_lt_of_le hTs2 hb.size⟩
  have HL := Lib.hid hl
  have HM := Lib.hid hm
  have HC1 := Lib.hid (canon_dotR l m)
  have HC2 := Lib.hid (canon_dexR l m)
  have K1 := Lib.hid fun va vb W (h : FSl W va l) (h2 : FSl W vb m) => dot5_any va vb l m W h h2
  have K2 := Lib.hid fun va vb W (h : FSl W va l) (h2 : FSl W vb m) => rdot5_any va vb l m W h h2
  rw [dotV_eq] at K1 K2
  have K3 := Lib.hid fun va vb W (h : FSl W va l) (h2 : FSl W vb m) => dotX_any va vb l m W h h2
  have K4 := Lib.hid fun va vb W (h : FSl W va l) (h2 : FSl W vb m) => rdotX_any va vb l m W h h2
  generalize dotR l m = y1 at *
  generalize dotK l m = k1 at *
  generalize dexR l m = y2 at *
  generalize dexE l m = k2 at *
  clear hT hTs hT2 hTs2
  obtain ⟨ao, cap, rfl, -⟩ := hl
  obtain ⟨bo, dap, rfl, -⟩ := hm
  go_enter Tryz.func11, Tryz.ntmps11
  go_wp2_with fail
  refine (rOf64_any _ l _ HL.out).mono ?_
  rintro z1 w1 ⟨u, rfl, hfl, hb1⟩
  have HF := Lib.hid hfl
  have HB := Lib.hid hb1
  obtain ⟨fa, fc, rfl, -⟩ := hfl
  replace HM := Lib.hid (HM.out.below hb1)
  clear hb1 HL
  go_wp2_with fail
  refine (rOf64_any _ m _ HM.out).mono ?_
  rintro z2 w2 ⟨u2, rfl, hfl, hb2⟩
  have HG := Lib.hid hfl
  obtain ⟨ga, gc, rfl, -⟩ := hfl
  replace HF := Lib.hid (HF.out.below hb2)
  replace HB := Lib.hid (HB.out.trans (hb2.mono HB.out.size))
  clear hb2 HM
  go_wp2_with fail
  refine (K1.out _ _ _ HF.out HG.out).mono ?_
  rintro z3 w3 ⟨rfl, hb3⟩
  replace HF := Lib.hid (HF.out.below hb3)
  replace HG := Lib.hid (HG.out.below hb3)
  replace HB := Lib.hid (HB.out.trans (hb3.mono HB.out.size))
  clear hb3
  go_wp2_with fail
  refine (K2.out _ _ _ HF.out HG.out).mono ?_
  rintro z4 w4 ⟨rfl, hb4⟩
  replace HF := Lib.hid (HF.out.below hb4)
  replace HG := Lib.hid (HG.out.below hb4)
  replace HB := Lib.hid (HB.out.trans (hb4.mono HB.out.size))
  clear hb4
  go_wp2_with fail
  refine (K3.out _ _ _ HF.out HG.out (HTA.out _ HB.out).1 (HTA.out _ HB.out).2).mono ?_
  rintro z5 w5 ⟨rfl, hb5⟩
  replace HF := Lib.hid (HF.out.below hb5)
  replace HG := Lib.hid (HG.out.below hb5)
  replace HB := Lib.hid (HB.out.trans (hb5.mono HB.out.size))
  clear hb5
  go_wp2_with fail
  refine (K4.out _ _ _ HF.out HG.out (HTB.out _ HB.out).1 (HTB.out _ HB.out).2).mono ?_
  rintro z6 w6 ⟨rfl, hb6⟩
  replace HF := Lib.hid (HF.out.below hb6)
  replace HG := Lib.hid (HG.out.below hb6)
  replace HB := Lib.hid (HB.out.trans (hb6.mono HB.out.size))
  clear hb6
  go_wp2_with fail
  refine (told5_yes y1 y1 k1 _ HC1.out.symm).mono ?_
  rintro z7 w7 ⟨rfl, hb7⟩
  replace HF := Lib.hid (HF.out.below hb7)
  replace HG := Lib.hid (HG.out.below hb7)
  replace HB := Lib.hid (HB.out.trans (hb7.mono HB.out.size))
  clear hb7
  go_wp2_with fail
  refine (told5_yes y2 y2 k2 _ HC2.out.symm).mono ?_
  rintro z8 w8 ⟨rfl, hb8⟩
  replace HF := Lib.hid (HF.out.below hb8)
  replace HG := Lib.hid (HG.out.below hb8)
  replace HB := Lib.hid (HB.out.trans (hb8.mono HB.out.size))
  clear hb8
  go_wp2_with fail
  refine (awake5_any _ (HTA.out _ HB.out).1 (HTA.out _ HB.out).2).mono ?_
  rintro z9 w9 ⟨rfl, hb9⟩
  replace HF := Lib.hid (HF.out.below hb9)
  replace HG := Lib.hid (HG.out.below hb9)
  replace HB := Lib.hid (HB.out.trans (hb9.mono HB.out.size))
  clear hb9
  go_wp2
  go_ret
  exact ⟨rfl, HB.out⟩

end Go.Proofs.YtjoajbbapfgaoaaGreatDoor
