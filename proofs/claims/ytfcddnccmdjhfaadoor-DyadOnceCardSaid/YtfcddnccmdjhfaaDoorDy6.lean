/- Walks: dyads that may be; what is done with two of them. -/
import Derived.Test.YtfcddnccmdjhfaaDoorDy5
namespace Go.Proofs.YtfcddnccmdjhfaaDoor
open Go.RowKit

theorem put_any (b : Nat) (z e : Int) (w : World) (hx : IntAt w b 0 z) (hl : bl z.natAbs ≤ 68719476736) (h1 : -1099511627776 ≤ e) (h2 : e ≤ 1099511627776) (hT : Tab64 w) (hTs : 1 < w.heap.size) (hg : z = 0 ∨ lngB z e = false) :
    Calls Tryd.prog 22 #[ExV b e] w (DyNew (hvZ z) (nrE z e) w) := by
  by_cases h0 : z = 0
  · have := put_zero b z e w hx hl h1 h2 hT hTs h0
    subst h0
    rw [hvZ_zero, show nrE 0 e = 0 from rfl]; exact this
  · have hn : nrE z e = hvE z e := by unfold nrE; rw [if_neg h0]
    rw [hn]
    refine put_ok b z e w hx hl h1 h2 hT hTs (Lib.hid (hvZ_ne h0)) (Lib.hid ?_)
    have := hg.resolve_left h0
    unfold lngB at this
    simp only [Bool.or_eq_false_iff, decide_eq_false_iff_not] at this
    omega

/-- Written in its one way, and within the limits. -/
def GoodD (z e : Int) : Prop := Nrm z e ∧ bl z.natAbs ≤ 65536 ∧ -100000 ≤ e ∧ e ≤ 100000

/-- A dyad's value in memory. -/
def DyAt (w : World) (v : Value) (z e : Int) : Prop := ∃ sl, v = DyV (decide (z < 0)) sl e ∧ Raw .u32 32 w sl (ln 32 z.natAbs) z.natAbs

theorem DyAt.below {w w' : World} {v : Value} {z e : Int} (h : DyAt w v z e) (hb : Below w.heap.size w w') : DyAt w' v z e := by
  obtain ⟨sl, h1, h2⟩ := h; exact ⟨sl, h1, h2.below hb⟩

theorem DyAt.zero (w : World) : DyAt w (DyV false (.slice none 0 0) 0) 0 0 := ⟨_, rfl, by rw [show (0 : Int).natAbs = 0 from rfl, ln_zero]; exact Raw.nil _ _ _⟩

theorem dg_zero_mod (N : Nat) : dg 32 N 0 % 2 = N % 2 := by unfold dg; simp

set_option maxRecDepth 100000 in
set_option maxHeartbeats 800000 in
theorem may_true (v : Value) (z e : Int) (w : World) (hv : DyAt w v z e) (hg : GoodD z e) :
    Calls Tryd.prog 29 #[v] w (Gives (.bool true) w) := by
  obtain ⟨sl, rfl, hr⟩ := hv
  obtain ⟨hn, hbl, he1, he2⟩ := hg
  obtain ⟨ao, cap, rfl, hcap, hN, -, hc⟩ := hr
  unfold DyV
  rcases hn with ⟨rfl, rfl⟩ | hodd
  · have e0 : ln 32 (0 : Int).natAbs = 0 := ln_zero 32
    have e1 : decide ((0 : Int) < 0) = false := rfl
    rw [e0, e1]
    clear hcap hN hc hbl e0 e1
    go_enter Tryd.func29, Tryd.ntmps29
    go_wp2
    go_ret
    exact ⟨rfl, Below.alloc_self _ _⟩
  · have hl0 : 0 < ln 32 z.natAbs := (ln_pos_iff (by decide)).2 (by omega)
    have hl1 : ln 32 z.natAbs ≤ 2048 := by
      unfold ln; omega
    obtain ⟨b, off, rfl, hb, -, hcc⟩ := hc hl0
    have c1 := hcc (ln 32 z.natAbs - 1) (by omega)
    have c0 := hcc 0 hl0
    rw [Nat.add_zero] at c0
    clear hcc
    have ht := dg_top (s := 32) (N := z.natAbs) (by decide) (by omega)
    have hz := dg_zero_mod z.natAbs
    generalize dg 32 z.natAbs (ln 32 z.natAbs - 1) = dt at *
    generalize dg 32 z.natAbs 0 = d0 at *
    generalize ln 32 z.natAbs = n at *
    have hdt : ((dt : Int) != 0) = true := by simp; omega
    have hd0 : ((d0 : Int) % 2 == 1) = true := by simp; omega
    have hn0 : ((n : Int) == 0) = false := by simp; omega
    generalize decide (z < 0) = neg at *
    clear hc hN hodd hbl ht hz
    go_enter Tryd.func29, Tryd.ntmps29
    go_wp2
    go_ret
    exact ⟨rfl, Below.alloc_self _ _⟩

/-- What is done with two exact numbers: a function f, of which the answer is known. -/
def DoesIt (f : Nat) (z e y g R RE : Int) : Prop :=
  ∀ (b c : Nat) (W : World), IntAt W b 0 z → IntAt W c 0 y → Calls Tryd.prog f #[ExV b e, ExV c g] W (ExAny R RE W)

theorem OwnS.setOther {w : World} {B t r i : Nat} {v : Value} (h : OwnS w B t v) (hr : r < B) (x : Value) : OwnS (w.setCell ⟨r, i, none⟩ x) B t v := by
  obtain ⟨ao, n, cap, h1, h2⟩ := h
  refine ⟨ao, n, cap, h1, fun a ha => ?_⟩
  obtain ⟨b, cs, h3, h4, h5⟩ := h2 a ha
  exact ⟨b, cs, h3, h4, (Below.heap_setCell _ _ _ _ (show b ≠ r by omega)).trans h5⟩

theorem OwnS.mono {w : World} {B C t : Nat} {v : Value} (h : OwnS w B t v) (hc : C ≤ B) : OwnS w C t v := by
  obtain ⟨ao, n, cap, h1, h2⟩ := h
  refine ⟨ao, n, cap, h1, fun a ha => ?_⟩
  obtain ⟨b, cs, h3, h4, h5⟩ := h2 a ha
  exact ⟨b, cs, h3, by omega, h5⟩

/-- A dyad that a call within has made, written into the result's block. -/
theorem dy_store {w W w' : World} {r n N t : Nat} {cs : Array Value} {sl : Value} (hw : Below w.heap.size w W) (hr : Raw .u32 32 w' sl n N) (ho : OwnS w' W.heap.size 36 sl) (hb : Below W.heap.size W w')
    (hres : BlkT w' r t cs) (hT : ObjT t) (hlt : r < W.heap.size) (hge : w.heap.size ≤ r) (x0 x1 x2 : Value) :
    Raw .u32 32 (((w'.setCell ⟨r, 0, none⟩ x0).setCell ⟨r, 1, none⟩ x1).setCell ⟨r, 2, none⟩ x2) sl n N ∧
      OwnS (((w'.setCell ⟨r, 0, none⟩ x0).setCell ⟨r, 1, none⟩ x1).setCell ⟨r, 2, none⟩ x2) w.heap.size 36 sl ∧
      Below w.heap.size w (((w'.setCell ⟨r, 0, none⟩ x0).setCell ⟨r, 1, none⟩ x1).setCell ⟨r, 2, none⟩ x2) :=
  ⟨((hr.setOther hres hT _).setOther (hres.set _) hT _).setOther ((hres.set _).set _) hT _,
    (((ho.setOther hlt _).setOther hlt _).setOther hlt _).mono hw.size,
    (((hw.trans (hb.mono hw.size)).setCell hge _).setCell hge _).setCell hge _⟩

/-- Two boxed dyads and a result's block. -/
def Box3 (w0 W : World) (na nb : Bool) (sa sb : Value) (e f : Int) : Prop :=
  BlkT W w0.heap.size 25 #[.bool na, sa, .int .i64 e] ∧ BlkT W (w0.heap.size + 1) 25 #[.bool nb, sb, .int .i64 f] ∧ BlkT W (w0.heap.size + 1 + 1) 25 #[.bool false, .slice none 0 0, .int .i64 0] ∧ Below w0.heap.size w0 W

theorem Box3.later {w0 W V : World} {na nb : Bool} {sa sb : Value} {e f : Int} (h : Box3 w0 W na nb sa sb e f) (hb : Below W.heap.size W V) : Box3 w0 V na nb sa sb e f :=
  ⟨h.1.below hb, h.2.1.below hb, h.2.2.1.below hb, h.2.2.2.trans (hb.mono h.2.2.2.size)⟩

theorem Box3.start (w : World) (na nb : Bool) (sa sb : Value) (e f : Int) :
    Box3 w (((w.alloc (.cells #[.bool na, sa, .int .i64 e] 25)).alloc (.cells #[.bool nb, sb, .int .i64 f] 25)).alloc (.cells #[.bool false, .slice none 0 0, .int .i64 0] 25)) na nb sa sb e f :=
  ⟨((BlkT.new w _ _).alloc _).alloc _, (BlkT.new1 w _ _ _).alloc _, BlkT.new2 w _ _ _ _, below3 _ _ _ _⟩

theorem Box3.cells {w0 W : World} {na nb : Bool} {sa sb : Value} {e f : Int} (h : Box3 w0 W na nb sa sb e f) :
    ((W.cell? ⟨w0.heap.size, 0, none⟩ = some (.bool na) ∧ W.cell? ⟨w0.heap.size, 1, none⟩ = some sa) ∧ W.cell? ⟨w0.heap.size, 2, none⟩ = some (.int .i64 e)) ∧ (W.cell? ⟨w0.heap.size + 1, 0, none⟩ = some (.bool nb) ∧ W.cell? ⟨w0.heap.size + 1, 1, none⟩ = some sb) ∧ W.cell? ⟨w0.heap.size + 1, 2, none⟩ = some (.int .i64 f) :=
  ⟨⟨⟨h.1.cell 0, h.1.cell 1⟩, h.1.cell 2⟩, ⟨h.2.1.cell 0, h.2.1.cell 1⟩, h.2.1.cell 2⟩

set_option maxRecDepth 100000 in
set_option maxHeartbeats 1600000 in
theorem both_plus (va vb : Value) (z e y f R RE : Int) (w : World) (ha : DyAt w va z e) (hb : DyAt w vb y f) (hga : GoodD z e) (hgb : GoodD y f) (hdo : DoesIt 24 z e y f R RE)
    (hl : bl R.natAbs ≤ 68719476736) (h1 : -1099511627776 ≤ RE) (h2 : RE ≤ 1099511627776) (hT : Tab64 w) (hTs : 1 < w.heap.size) (hg : R = 0 ∨ lngB R RE = false) :
    Calls Tryd.prog 23 #[va, vb, .func (.func 24) #[] #[]] w (DyNew (hvZ R) (nrE R RE) w) := by
  have HA := Lib.hid ha
  have HB := Lib.hid hb
  obtain ⟨sa, rfl, hra⟩ := ha
  obtain ⟨sb, rfl, hrb⟩ := hb
  have HRa := Lib.hid hra
  have HRb := Lib.hid hrb
  have HGa := Lib.hid hga
  have HGb := Lib.hid hgb
  have HFa := Lib.hid (set_fin z)
  have HFb := Lib.hid (set_fin y)
  have HLa : Hid (ln 32 z.natAbs ≤ 1073741824) := Lib.hid (Nat.le_trans (ln_le_bl 32 _ (by decide)) (Nat.le_trans hga.2.1 (by decide)))
  have HLb : Hid (ln 32 y.natAbs ≤ 1073741824) := Lib.hid (Nat.le_trans (ln_le_bl 32 _ (by decide)) (Nat.le_trans hgb.2.1 (by decide)))
  have HDO := Lib.hid hdo
  have HP := Lib.hid (And.intro hl (And.intro hT (And.intro hTs hg)))
  obtain ⟨aa, ca, rfl, -⟩ := hra
  obtain ⟨ab, cb, rfl, -⟩ := hrb
  clear hga hgb hdo hl hT hTs hg
  unfold DyV at *
  generalize decide (z < 0) = na at *
  generalize decide (y < 0) = nb at *
  generalize z.natAbs = Na at *
  generalize y.natAbs = Nb at *
  generalize ln 32 Na = la at *
  generalize ln 32 Nb = lb at *
  have HW0 := Lib.hid (Box3.start w na nb (.slice aa la ca) (.slice ab lb cb) e f)
  go_enter Tryd.func23, Tryd.ntmps23
  go_wp2_with fail
  refine (may_true _ z e _ (HA.out.below (below3 _ _ _ _)) HGa.out).mono ?_
  rintro e1 w1 ⟨rfl, hb1⟩
  have HW1 := Lib.hid (HW0.out.later hb1)
  obtain ⟨⟨⟨x0, x1⟩, x2⟩, ⟨x3, x4⟩, x5⟩ := HW1.out.cells
  clear HW0 hb1
  go_wp2_with fail
  refine (may_true _ y f _ (HB.out.below HW1.out.2.2.2) HGb.out).mono ?_
  rintro e1 w2 ⟨rfl, hb2⟩
  have HW2 := Lib.hid (HW1.out.later hb2)
  clear HW1 hb2 x0 x1 x2 x3 x4 x5
  go_wp2
  refine wp_region_pl (fun w' : World => ((w'.cell? ⟨w.heap.size, 0, none⟩ = some (.bool na) ∧ w'.cell? ⟨w.heap.size, 1, none⟩ = some (.slice aa la ca)) ∧ w'.cell? ⟨w.heap.size, 2, none⟩ = some (.int .i64 e)) ∧ (w'.cell? ⟨w.heap.size + 1, 0, none⟩ = some (.bool nb) ∧ w'.cell? ⟨w.heap.size + 1, 1, none⟩ = some (.slice ab lb cb)) ∧ w'.cell? ⟨w.heap.size + 1, 2, none⟩ = some (.int .i64 f)) 9 (.take 0 (.take 1 (.take 3 (.run 2 (.run 4 (.run 5 (.run 6 (.take 7 (.take 8 .nil))))))))) (by kernel_rfl) (by kernel_rfl) ?_
  have HW3 := Lib.hid (HW2.out.later (drew_below w2))
  generalize w2.drew = W3 at HW3 ⊢
  clear HW2
  have hS : (fun w' : World => ((w'.cell? ⟨w.heap.size, 0, none⟩ = some (.bool na) ∧ w'.cell? ⟨w.heap.size, 1, none⟩ = some (.slice aa la ca)) ∧ w'.cell? ⟨w.heap.size, 2, none⟩ = some (.int .i64 e)) ∧ (w'.cell? ⟨w.heap.size + 1, 0, none⟩ = some (.bool nb) ∧ w'.cell? ⟨w.heap.size + 1, 1, none⟩ = some (.slice ab lb cb)) ∧ w'.cell? ⟨w.heap.size + 1, 2, none⟩ = some (.int .i64 f)) W3 := HW3.out.cells
  repeat (refine wpPl_take (v := ?_) rfl (fun _ _ _ h => h) rfl (fun w' hSw => ?_) hS ?_; rotate_left; focus (go_simp; with_reducible rfl); try simp only [Act.put, List.setIfInBounds_toArray, List.set_cons_zero, List.set_cons_succ])
  clear hS
  refine wpPl_run rfl fun K' hK => ?_
  go_simp
  refine (take_any na e _ la Na _ (HRa.out.below HW3.out.2.2.2) HLa.out).mono ?_
  rintro e1 W4 ⟨p1, rfl, hp1, hi1, hb1⟩
  rw [HFa.out] at hi1
  have HW4 := Lib.hid (HW3.out.later hb1)
  have HI1 := Lib.hid hi1
  refine hK _ _ HW4.out.cells ?_
  clear hK K' hp1 hi1 hb1 HW3
  refine wpPl_run rfl fun K' hK => ?_
  go_simp
  refine (take_any nb f _ lb Nb _ (HRb.out.below HW4.out.2.2.2) HLb.out).mono ?_
  rintro e1 W5 ⟨p2, rfl, hp2, hi2, hb2⟩
  rw [HFb.out] at hi2
  have HW5 := Lib.hid (HW4.out.later hb2)
  have HI2 := Lib.hid hi2
  have HI3 := Lib.hid (HI1.out.below hb2)
  refine hK _ _ HW5.out.cells ?_
  clear hK K' hp2 hi2 hb2 HW4 HI1
  refine wpPl_run rfl fun K' hK => ?_
  go_simp
  refine (HDO.out p1 p2 _ HI3.out HI2.out).mono ?_
  rintro e1 W6 ⟨d, rfl, hi4, hb4⟩
  have HW6 := Lib.hid (HW5.out.later hb4)
  have HI4 := Lib.hid hi4
  refine hK _ _ HW6.out.cells ?_
  clear hK K' hi4 hb4 HW5 HI2 HI3
  refine wpPl_run rfl fun K' hK => ?_
  go_simp
  refine (put_any d R RE _ HI4.out HP.out.1 h1 h2 (HP.out.2.1.below HP.out.2.2.1 HW6.out.2.2.2) (Nat.lt_of_lt_of_le HP.out.2.2.1 HW6.out.2.2.2.size) HP.out.2.2.2).mono ?_
  rintro e1 W7 ⟨sl, rfl, hr7, ho7, hb7⟩
  have HW7 := Lib.hid (HW6.out.later hb7)
  have HF7 := Lib.hid (fun x0 x1 x2 => dy_store HW6.out.2.2.2 hr7 ho7 hb7 HW7.out.2.2.1 objT_dyad HW6.out.2.2.1.lt (by omega) x0 x1 x2)
  obtain ⟨ao7, cs7, hsl, -⟩ := hr7
  have hS : (fun w' : World => ((w'.cell? ⟨w.heap.size, 0, none⟩ = some (.bool na) ∧ w'.cell? ⟨w.heap.size, 1, none⟩ = some (.slice aa la ca)) ∧ w'.cell? ⟨w.heap.size, 2, none⟩ = some (.int .i64 e)) ∧ (w'.cell? ⟨w.heap.size + 1, 0, none⟩ = some (.bool nb) ∧ w'.cell? ⟨w.heap.size + 1, 1, none⟩ = some (.slice ab lb cb)) ∧ w'.cell? ⟨w.heap.size + 1, 2, none⟩ = some (.int .i64 f)) W7 := HW7.out.cells
  refine hK _ _ hS ?_
  unfold DyV at *
  rw [hsl] at HF7 ⊢
  clear hK K' ho7 hb7 hsl
  repeat (refine wpPl_take (v := ?_) rfl (fun _ _ _ h => h) rfl (fun w' hSw => ?_) hS ?_; rotate_left; focus (go_simp; with_reducible rfl); try simp only [Act.put, List.setIfInBounds_toArray, List.set_cons_zero, List.set_cons_succ])
  clear hS
  refine wpPl_nil ?_
  simp only [List.drop_succ_cons, List.drop_zero]
  obtain ⟨q0, q1, q2, q3, q4, q5⟩ := HW7.out.2.2.1.cells3
  have HN : Hid (DyNew (hvZ R) (nrE R RE) w (.returned (.tuple #[DyV (decide (hvZ R < 0)) (.slice ao7 (ln 32 (hvZ R).natAbs) cs7) (nrE R RE), .int .i64 0])) (((W7.setCell ⟨w.heap.size + 1 + 1, 0, none⟩ (.bool (decide (hvZ R < 0)))).setCell ⟨w.heap.size + 1 + 1, 1, none⟩ (.slice ao7 (ln 32 (hvZ R).natAbs) cs7)).setCell ⟨w.heap.size + 1 + 1, 2, none⟩ (.int .i64 (nrE R RE)))) :=
    Lib.hid ⟨_, rfl, HF7.out _ _ _⟩
  clear HF7 HW7 HW6
  generalize hP : DyNew (hvZ R) (nrE R RE) w = P at *
  clear hP
  unfold DyV at *
  generalize decide (hvZ R < 0) = nr at *
  generalize nrE R RE = er at *
  generalize ln 32 (hvZ R).natAbs = lr at *
  go_wp2
  refine bodyPost_ret (v := .tuple #[.agg #[.bool nr, .slice ao7 lr cs7, .int .i64 er], .int .i64 0]) (by simp [results, Tryd.results23, go_sem, q0, q1, q2]) rfl HN.out

set_option maxRecDepth 100000 in
set_option maxHeartbeats 1600000 in
theorem both_less (va vb : Value) (z e y f R RE : Int) (w : World) (ha : DyAt w va z e) (hb : DyAt w vb y f) (hga : GoodD z e) (hgb : GoodD y f) (hdo : DoesIt 26 z e y f R RE)
    (hl : bl R.natAbs ≤ 68719476736) (h1 : -1099511627776 ≤ RE) (h2 : RE ≤ 1099511627776) (hT : Tab64 w) (hTs : 1 < w.heap.size) (hg : R = 0 ∨ lngB R RE = false) :
    Calls Tryd.prog 23 #[va, vb, .func (.func 26) #[] #[]] w (DyNew (hvZ R) (nrE R RE) w) := by
  have HA := Lib.hid ha
  have HB := Lib.hid hb
  obtain ⟨sa, rfl, hra⟩ := ha
  obtain ⟨sb, rfl, hrb⟩ := hb
  have HRa := Lib.hid hra
  have HRb := Lib.hid hrb
  have HGa := Lib.hid hga
  have HGb := Lib.hid hgb
  have HFa := Lib.hid (set_fin z)
  have HFb := Lib.hid (set_fin y)
  have HLa : Hid (ln 32 z.natAbs ≤ 1073741824) := Lib.hid (Nat.le_trans (ln_le_bl 32 _ (by decide)) (Nat.le_trans hga.2.1 (by decide)))
  have HLb : Hid (ln 32 y.natAbs ≤ 1073741824) := Lib.hid (Nat.le_trans (ln_le_bl 32 _ (by decide)) (Nat.le_trans hgb.2.1 (by decide)))
  have HDO := Lib.hid hdo
  have HP := Lib.hid (And.intro hl (And.intro hT (And.intro hTs hg)))
  obtain ⟨aa, ca, rfl, -⟩ := hra
  obtain ⟨ab, cb, rfl, -⟩ := hrb
  clear hga hgb hdo hl hT hTs hg
  unfold DyV at *
  generalize decide (z < 0) = na at *
  generalize decide (y < 0) = nb at *
  generalize z.natAbs = Na at *
  generalize y.natAbs = Nb at *
  generalize ln 32 Na = la at *
  generalize ln 32 Nb = lb at *
  have HW0 := Lib.hid (Box3.start w na nb (.slice aa la ca) (.slice ab lb cb) e f)
  go_enter Tryd.func23, Tryd.ntmps23
  go_wp2_with fail
  refine (may_true _ z e _ (HA.out.below (below3 _ _ _ _)) HGa.out).mono ?_
  rintro e1 w1 ⟨rfl, hb1⟩
  have HW1 := Lib.hid (HW0.out.later hb1)
  obtain ⟨⟨⟨x0, x1⟩, x2⟩, ⟨x3, x4⟩, x5⟩ := HW1.out.cells
  clear HW0 hb1
  go_wp2_with fail
  refine (may_true _ y f _ (HB.out.below HW1.out.2.2.2) HGb.out).mono ?_
  rintro e1 w2 ⟨rfl, hb2⟩
  have HW2 := Lib.hid (HW1.out.later hb2)
  clear HW1 hb2 x0 x1 x2 x3 x4 x5
  go_wp2
  refine wp_region_pl (fun w' : World => ((w'.cell? ⟨w.heap.size, 0, none⟩ = some (.bool na) ∧ w'.cell? ⟨w.heap.size, 1, none⟩ = some (.slice aa la ca)) ∧ w'.cell? ⟨w.heap.size, 2, none⟩ = some (.int .i64 e)) ∧ (w'.cell? ⟨w.heap.size + 1, 0, none⟩ = some (.bool nb) ∧ w'.cell? ⟨w.heap.size + 1, 1, none⟩ = some (.slice ab lb cb)) ∧ w'.cell? ⟨w.heap.size + 1, 2, none⟩ = some (.int .i64 f)) 9 (.take 0 (.take 1 (.take 3 (.run 2 (.run 4 (.run 5 (.run 6 (.take 7 (.take 8 .nil))))))))) (by kernel_rfl) (by kernel_rfl) ?_
  have HW3 := Lib.hid (HW2.out.later (drew_below w2))
  generalize w2.drew = W3 at HW3 ⊢
  clear HW2
  have hS : (fun w' : World => ((w'.cell? ⟨w.heap.size, 0, none⟩ = some (.bool na) ∧ w'.cell? ⟨w.heap.size, 1, none⟩ = some (.slice aa la ca)) ∧ w'.cell? ⟨w.heap.size, 2, none⟩ = some (.int .i64 e)) ∧ (w'.cell? ⟨w.heap.size + 1, 0, none⟩ = some (.bool nb) ∧ w'.cell? ⟨w.heap.size + 1, 1, none⟩ = some (.slice ab lb cb)) ∧ w'.cell? ⟨w.heap.size + 1, 2, none⟩ = some (.int .i64 f)) W3 := HW3.out.cells
  repeat (refine wpPl_take (v := ?_) rfl (fun _ _ _ h => h) rfl (fun w' hSw => ?_) hS ?_; rotate_left; focus (go_simp; with_reducible rfl); try simp only [Act.put, List.setIfInBounds_toArray, List.set_cons_zero, List.set_cons_succ])
  clear hS
  refine wpPl_run rfl fun K' hK => ?_
  go_simp
  refine (take_any na e _ la Na _ (HRa.out.below HW3.out.2.2.2) HLa.out).mono ?_
  rintro e1 W4 ⟨p1, rfl, hp1, hi1, hb1⟩
  rw [HFa.out] at hi1
  have HW4 := Lib.hid (HW3.out.later hb1)
  have HI1 := Lib.hid hi1
  refine hK _ _ HW4.out.cells ?_
  clear hK K' hp1 hi1 hb1 HW3
  refine wpPl_run rfl fun K' hK => ?_
  go_simp
  refine (take_any nb f _ lb Nb _ (HRb.out.below HW4.out.2.2.2) HLb.out).mono ?_
  rintro e1 W5 ⟨p2, rfl, hp2, hi2, hb2⟩
  rw [HFb.out] at hi2
  have HW5 := Lib.hid (HW4.out.later hb2)
  have HI2 := Lib.hid hi2
  have HI3 := Lib.hid (HI1.out.below hb2)
  refine hK _ _ HW5.out.cells ?_
  clear hK K' hp2 hi2 hb2 HW4 HI1
  refine wpPl_run rfl fun K' hK => ?_
  go_simp
  refine (HDO.out p1 p2 _ HI3.out HI2.out).mono ?_
  rintro e1 W6 ⟨d, rfl, hi4, hb4⟩
  have HW6 := Lib.hid (HW5.out.later hb4)
  have HI4 := Lib.hid hi4
  refine hK _ _ HW6.out.cells ?_
  clear hK K' hi4 hb4 HW5 HI2 HI3
  refine wpPl_run rfl fun K' hK => ?_
  go_simp
  refine (put_any d R RE _ HI4.out HP.out.1 h1 h2 (HP.out.2.1.below HP.out.2.2.1 HW6.out.2.2.2) (Nat.lt_of_lt_of_le HP.out.2.2.1 HW6.out.2.2.2.size) HP.out.2.2.2).mono ?_
  rintro e1 W7 ⟨sl, rfl, hr7, ho7, hb7⟩
  have HW7 := Lib.hid (HW6.out.later hb7)
  have HF7 := Lib.hid (fun x0 x1 x2 => dy_store HW6.out.2.2.2 hr7 ho7 hb7 HW7.out.2.2.1 objT_dyad HW6.out.2.2.1.lt (by omega) x0 x1 x2)
  obtain ⟨ao7, cs7, hsl, -⟩ := hr7
  have hS : (fun w' : World => ((w'.cell? ⟨w.heap.size, 0, none⟩ = some (.bool na) ∧ w'.cell? ⟨w.heap.size, 1, none⟩ = some (.slice aa la ca)) ∧ w'.cell? ⟨w.heap.size, 2, none⟩ = some (.int .i64 e)) ∧ (w'.cell? ⟨w.heap.size + 1, 0, none⟩ = some (.bool nb) ∧ w'.cell? ⟨w.heap.size + 1, 1, none⟩ = some (.slice ab lb cb)) ∧ w'.cell? ⟨w.heap.size + 1, 2, none⟩ = some (.int .i64 f)) W7 := HW7.out.cells
  refine hK _ _ hS ?_
  unfold DyV at *
  rw [hsl] at HF7 ⊢
  clear hK K' ho7 hb7 hsl
  repeat (refine wpPl_take (v := ?_) rfl (fun _ _ _ h => h) rfl (fun w' hSw => ?_) hS ?_; rotate_left; focus (go_simp; with_reducible rfl); try simp only [Act.put, List.setIfInBounds_toArray, List.set_cons_zero, List.set_cons_succ])
  clear hS
  refine wpPl_nil ?_
  simp only [List.drop_succ_cons, List.drop_zero]
  obtain ⟨q0, q1, q2, q3, q4, q5⟩ := HW7.out.2.2.1.cells3
  have HN : Hid (DyNew (hvZ R) (nrE R RE) w (.returned (.tuple #[DyV (decide (hvZ R < 0)) (.slice ao7 (ln 32 (hvZ R).natAbs) cs7) (nrE R RE), .int .i64 0])) (((W7.setCell ⟨w.heap.size + 1 + 1, 0, none⟩ (.bool (decide (hvZ R < 0)))).setCell ⟨w.heap.size + 1 + 1, 1, none⟩ (.slice ao7 (ln 32 (hvZ R).natAbs) cs7)).setCell ⟨w.heap.size + 1 + 1, 2, none⟩ (.int .i64 (nrE R RE)))) :=
    Lib.hid ⟨_, rfl, HF7.out _ _ _⟩
  clear HF7 HW7 HW6
  generalize hP : DyNew (hvZ R) (nrE R RE) w = P at *
  clear hP
  unfold DyV at *
  generalize decide (hvZ R < 0) = nr at *
  generalize nrE R RE = er at *
  generalize ln 32 (hvZ R).natAbs = lr at *
  go_wp2
  refine bodyPost_ret (v := .tuple #[.agg #[.bool nr, .slice ao7 lr cs7, .int .i64 er], .int .i64 0]) (by simp [results, Tryd.results23, go_sem, q0, q1, q2]) rfl HN.out

set_option maxRecDepth 100000 in
set_option maxHeartbeats 1600000 in
theorem both_times (va vb : Value) (z e y f R RE : Int) (w : World) (ha : DyAt w va z e) (hb : DyAt w vb y f) (hga : GoodD z e) (hgb : GoodD y f) (hdo : DoesIt 25 z e y f R RE)
    (hl : bl R.natAbs ≤ 68719476736) (h1 : -1099511627776 ≤ RE) (h2 : RE ≤ 1099511627776) (hT : Tab64 w) (hTs : 1 < w.heap.size) (hg : R = 0 ∨ lngB R RE = false) :
    Calls Tryd.prog 23 #[va, vb, .func (.func 25) #[] #[]] w (DyNew (hvZ R) (nrE R RE) w) := by
  have HA := Lib.hid ha
  have HB := Lib.hid hb
  obtain ⟨sa, rfl, hra⟩ := ha
  obtain ⟨sb, rfl, hrb⟩ := hb
  have HRa := Lib.hid hra
  have HRb := Lib.hid hrb
  have HGa := Lib.hid hga
  have HGb := Lib.hid hgb
  have HFa := Lib.hid (set_fin z)
  have HFb := Lib.hid (set_fin y)
  have HLa : Hid (ln 32 z.natAbs ≤ 1073741824) := Lib.hid (Nat.le_trans (ln_le_bl 32 _ (by decide)) (Nat.le_trans hga.2.1 (by decide)))
  have HLb : Hid (ln 32 y.natAbs ≤ 1073741824) := Lib.hid (Nat.le_trans (ln_le_bl 32 _ (by decide)) (Nat.le_trans hgb.2.1 (by decide)))
  have HDO := Lib.hid hdo
  have HP := Lib.hid (And.intro hl (And.intro hT (And.intro hTs hg)))
  obtain ⟨aa, ca, rfl, -⟩ := hra
  obtain ⟨ab, cb, rfl, -⟩ := hrb
  clear hga hgb hdo hl hT hTs hg
  unfold DyV at *
  generalize decide (z < 0) = na at *
  generalize decide (y < 0) = nb at *
  generalize z.natAbs = Na at *
  generalize y.natAbs = Nb at *
  generalize ln 32 Na = la at *
  generalize ln 32 Nb = lb at *
  have HW0 := Lib.hid (Box3.start w na nb (.slice aa la ca) (.slice ab lb cb) e f)
  go_enter Tryd.func23, Tryd.ntmps23
  go_wp2_with fail
  refine (may_true _ z e _ (HA.out.below (below3 _ _ _ _)) HGa.out).mono ?_
  rintro e1 w1 ⟨rfl, hb1⟩
  have HW1 := Lib.hid (HW0.out.later hb1)
  obtain ⟨⟨⟨x0, x1⟩, x2⟩, ⟨x3, x4⟩, x5⟩ := HW1.out.cells
  clear HW0 hb1
  go_wp2_with fail
  refine (may_true _ y f _ (HB.out.below HW1.out.2.2.2) HGb.out).mono ?_
  rintro e1 w2 ⟨rfl, hb2⟩
  have HW2 := Lib.hid (HW1.out.later hb2)
  clear HW1 hb2 x0 x1 x2 x3 x4 x5
  go_wp2
  refine wp_region_pl (fun w' : World => ((w'.cell? ⟨w.heap.size, 0, none⟩ = some (.bool na) ∧ w'.cell? ⟨w.heap.size, 1, none⟩ = some (.slice aa la ca)) ∧ w'.cell? ⟨w.heap.size, 2, none⟩ = some (.int .i64 e)) ∧ (w'.cell? ⟨w.heap.size + 1, 0, none⟩ = some (.bool nb) ∧ w'.cell? ⟨w.heap.size + 1, 1, none⟩ = some (.slice ab lb cb)) ∧ w'.cell? ⟨w.heap.size + 1, 2, none⟩ = some (.int .i64 f)) 9 (.take 0 (.take 1 (.take 3 (.run 2 (.run 4 (.run 5 (.run 6 (.take 7 (.take 8 .nil))))))))) (by kernel_rfl) (by kernel_rfl) ?_
  have HW3 := Lib.hid (HW2.out.later (drew_below w2))
  generalize w2.drew = W3 at HW3 ⊢
  clear HW2
  have hS : (fun w' : World => ((w'.cell? ⟨w.heap.size, 0, none⟩ = some (.bool na) ∧ w'.cell? ⟨w.heap.size, 1, none⟩ = some (.slice aa la ca)) ∧ w'.cell? ⟨w.heap.size, 2, none⟩ = some (.int .i64 e)) ∧ (w'.cell? ⟨w.heap.size + 1, 0, none⟩ = some (.bool nb) ∧ w'.cell? ⟨w.heap.size + 1, 1, none⟩ = some (.slice ab lb cb)) ∧ w'.cell? ⟨w.heap.size + 1, 2, none⟩ = some (.int .i64 f)) W3 := HW3.out.cells
  repeat (refine wpPl_take (v := ?_) rfl (fun _ _ _ h => h) rfl (fun w' hSw => ?_) hS ?_; rotate_left; focus (go_simp; with_reducible rfl); try simp only [Act.put, List.setIfInBounds_toArray, List.set_cons_zero, List.set_cons_succ])
  clear hS
  refine wpPl_run rfl fun K' hK => ?_
  go_simp
  refine (take_any na e _ la Na _ (HRa.out.below HW3.out.2.2.2) HLa.out).mono ?_
  rintro e1 W4 ⟨p1, rfl, hp1, hi1, hb1⟩
  rw [HFa.out] at hi1
  have HW4 := Lib.hid (HW3.out.later hb1)
  have HI1 := Lib.hid hi1
  refine hK _ _ HW4.out.cells ?_
  clear hK K' hp1 hi1 hb1 HW3
  refine wpPl_run rfl fun K' hK => ?_
  go_simp
  refine (take_any nb f _ lb Nb _ (HRb.out.below HW4.out.2.2.2) HLb.out).mono ?_
  rintro e1 W5 ⟨p2, rfl, hp2, hi2, hb2⟩
  rw [HFb.out] at hi2
  have HW5 := Lib.hid (HW4.out.later hb2)
  have HI2 := Lib.hid hi2
  have HI3 := Lib.hid (HI1.out.below hb2)
  refine hK _ _ HW5.out.cells ?_
  clear hK K' hp2 hi2 hb2 HW4 HI1
  refine wpPl_run rfl fun K' hK => ?_
  go_simp
  refine (HDO.out p1 p2 _ HI3.out HI2.out).mono ?_
  rintro e1 W6 ⟨d, rfl, hi4, hb4⟩
  have HW6 := Lib.hid (HW5.out.later hb4)
  have HI4 := Lib.hid hi4
  refine hK _ _ HW6.out.cells ?_
  clear hK K' hi4 hb4 HW5 HI2 HI3
  refine wpPl_run rfl fun K' hK => ?_
  go_simp
  refine (put_any d R RE _ HI4.out HP.out.1 h1 h2 (HP.out.2.1.below HP.out.2.2.1 HW6.out.2.2.2) (Nat.lt_of_lt_of_le HP.out.2.2.1 HW6.out.2.2.2.size) HP.out.2.2.2).mono ?_
  rintro e1 W7 ⟨sl, rfl, hr7, ho7, hb7⟩
  have HW7 := Lib.hid (HW6.out.later hb7)
  have HF7 := Lib.hid (fun x0 x1 x2 => dy_store HW6.out.2.2.2 hr7 ho7 hb7 HW7.out.2.2.1 objT_dyad HW6.out.2.2.1.lt (by omega) x0 x1 x2)
  obtain ⟨ao7, cs7, hsl, -⟩ := hr7
  have hS : (fun w' : World => ((w'.cell? ⟨w.heap.size, 0, none⟩ = some (.bool na) ∧ w'.cell? ⟨w.heap.size, 1, none⟩ = some (.slice aa la ca)) ∧ w'.cell? ⟨w.heap.size, 2, none⟩ = some (.int .i64 e)) ∧ (w'.cell? ⟨w.heap.size + 1, 0, none⟩ = some (.bool nb) ∧ w'.cell? ⟨w.heap.size + 1, 1, none⟩ = some (.slice ab lb cb)) ∧ w'.cell? ⟨w.heap.size + 1, 2, none⟩ = some (.int .i64 f)) W7 := HW7.out.cells
  refine hK _ _ hS ?_
  unfold DyV at *
  rw [hsl] at HF7 ⊢
  clear hK K' ho7 hb7 hsl
  repeat (refine wpPl_take (v := ?_) rfl (fun _ _ _ h => h) rfl (fun w' hSw => ?_) hS ?_; rotate_left; focus (go_simp; with_reducible rfl); try simp only [Act.put, List.setIfInBounds_toArray, List.set_cons_zero, List.set_cons_succ])
  clear hS
  refine wpPl_nil ?_
  simp only [List.drop_succ_cons, List.drop_zero]
  obtain ⟨q0, q1, q2, q3, q4, q5⟩ := HW7.out.2.2.1.cells3
  have HN : Hid (DyNew (hvZ R) (nrE R RE) w (.returned (.tuple #[DyV (decide (hvZ R < 0)) (.slice ao7 (ln 32 (hvZ R).natAbs) cs7) (nrE R RE), .int .i64 0])) (((W7.setCell ⟨w.heap.size + 1 + 1, 0, none⟩ (.bool (decide (hvZ R < 0)))).setCell ⟨w.heap.size + 1 + 1, 1, none⟩ (.slice ao7 (ln 32 (hvZ R).natAbs) cs7)).setCell ⟨w.heap.size + 1 + 1, 2, none⟩ (.int .i64 (nrE R RE)))) :=
    Lib.hid ⟨_, rfl, HF7.out _ _ _⟩
  clear HF7 HW7 HW6
  generalize hP : DyNew (hvZ R) (nrE R RE) w = P at *
  clear hP
  unfold DyV at *
  generalize decide (hvZ R < 0) = nr at *
  generalize nrE R RE = er at *
  generalize ln 32 (hvZ R).natAbs = lr at *
  go_wp2
  refine bodyPost_ret (v := .tuple #[.agg #[.bool nr, .slice ao7 lr cs7, .int .i64 er], .int .i64 0]) (by simp [results, Tryd.results23, go_sem, q0, q1, q2]) rfl HN.out

end Go.Proofs.YtfcddnccmdjhfaaDoor
