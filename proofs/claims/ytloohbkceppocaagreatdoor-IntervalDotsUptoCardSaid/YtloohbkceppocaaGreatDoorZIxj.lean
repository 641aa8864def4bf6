/- Walk: IntervalDots. Printed by wip/gen/iv26.py. -/
import Derived.Test.YtloohbkceppocaaGreatDoorIM
import Derived.Test.YtloohbkceppocaaGreatDoorZBw1
namespace Go.Proofs.YtloohbkceppocaaGreatDoor
open Go.RowKit
attribute [local go_sem] run_store_f

theorem USl.cells {w : World} {ao : Option Addr} {n cap : Nat} {l : List Nat} (h : USl w (.slice ao n cap) l) :
    l.length = n ∧ n ≤ cap ∧ n ≤ 1099511627776 ∧ (∀ k, W64 (l.getD k 0)) ∧ (0 < n → ∃ b off, ao = some ⟨b, off, none⟩ ∧ b < w.heap.size ∧ ∀ i, i < n → w.cell? ⟨b, off + i, none⟩ = some (.int .u64 (l.getD i 0))) := by
  obtain ⟨ao', cap', hv, h1, h2, h3, h4⟩ := h
  simp only [Value.slice.injEq] at hv
  obtain ⟨rfl, rfl, rfl⟩ := hv
  refine ⟨rfl, h1, h2, fun k => ?_, fun h0 => ?_⟩
  · rw [List.getD_eq_getElem?_getD]
    cases e : l[k]? with
    | none => decide
    | some p => exact h3 p (List.mem_of_getElem? e)
  · obtain ⟨b, off, e1, e2, e3⟩ := h4 h0
    refine ⟨b, off, e1, e2, fun i hi => ?_⟩
    have := e3 i hi
    rw [List.getD_eq_getElem?_getD, List.getElem?_eq_getElem hi, Option.getD_some]
    exact this

def Cel1 (W : World) (b o : Nat) (x : Value) : Prop := b < W.heap.size ∧ W.cell? ⟨b, o, none⟩ = some x
theorem Cel1.below {W V : World} {b o : Nat} {x : Value} (h : Cel1 W b o x) (hb : Below W.heap.size W V) : Cel1 V b o x := ⟨Nat.lt_of_lt_of_le h.1 hb.size, (hb.cell (p := ⟨b, o, none⟩) h.1).trans h.2⟩

theorem run_min4 (a b c d : Int) (ts : Array TypeId) (t : TypeId) (w : World) : (Builtin.min_ ts t #[.int .i64 a, .int .i64 b, .int .i64 c, .int .i64 d]).run Tryz.prog w = .ok (.int .i64 (min (min (min a b) c) d)) w := by
  have e : ∀ x y : Int, (if y < x then y else x) = min x y := by intro x y; split <;> omega
  simp [Builtin.min_, Builtin.min2, e]

theorem getD_take {l : List (Nat × Nat)} {n i : Nat} (h : i < n) : (l.take n).getD i (0, 0) = l.getD i (0, 0) := by
  rw [List.getD_eq_getElem?_getD, List.getD_eq_getElem?_getD, List.getElem?_take_of_lt h]
theorem dotK_take (us vs : List (Nat × Nat)) {n : Nat} : ∀ k, k ≤ n → dotK (us.take n) (vs.take n) k = dotK us vs k := by
  intro k
  induction k with
  | zero => intro _; rfl
  | succ k ih =>
    intro h
    show addK _ _ = addK _ _
    rw [ih (by omega), getD_take (by omega), getD_take (by omega)]

theorem llist_n (ao : Option Addr) (n cap : Nat) (l : List (Nat × Nat)) (w : World) (hl : ESl w (.slice ao n cap) l) :
    Calls Tryz.prog 16 #[.slice ao n cap] w fun en w' => ∃ (a : Option Addr) (c : Nat), en = .returned (.slice a n c) ∧ VSl w' (.slice a n c) l ∧ Below w.heap.size w w' := by
  have hn := (PSl.cells hl).1
  refine (llist_any _ l w hl).mono ?_
  rintro e w' ⟨u, rfl, hv, hb⟩
  have hv' := hv
  obtain ⟨a, c, rfl, -⟩ := hv'
  rw [hn] at hv ⊢
  exact ⟨a, c, rfl, hv, hb⟩

set_option maxRecDepth 100000 in
set_option maxHeartbeats 12800000 in
theorem intervalDots_any (vu vv vx vy : Value) (us vs : List (Nat × Nat)) (xs ys : List Nat) (w : World) (hu : ESl w vu us) (hv : ESl w vv vs) (hx : USl w vx xs) (hy : USl w vy ys) (hT : TabB w) :
    Calls Tryz.prog 3 #[vu, vv, vx, vy] w (Gives (.bool true) w) := by
  have hu' := hu
  have hv' := hv
  have hx' := hx
  have hy' := hy
  obtain ⟨au, cu, rfl, -⟩ := hu'
  obtain ⟨av, cv, rfl, -⟩ := hv'
  obtain ⟨ax, cx, rfl, -⟩ := hx'
  obtain ⟨ay, cy, rfl, -⟩ := hy'
  obtain ⟨-, u1, u2, u3, u4⟩ := PSl.cells hu
  obtain ⟨-, v1, v2, v3, v4⟩ := PSl.cells hv
  obtain ⟨-, x1, x2, x3, x4⟩ := USl.cells hx
  obtain ⟨-, y1, y2, y3, y4⟩ := USl.cells hy
  obtain ⟨n, hn⟩ : ∃ n : Nat, min (min (min us.length vs.length) xs.length) ys.length = n := ⟨_, rfl⟩
  have HU := Lib.hid (PSl.take hu (n := n) (by omega))
  have HV := Lib.hid (PSl.take hv (n := n) (by omega))
  generalize us.length = lu at *
  generalize vs.length = lv at *
  generalize xs.length = lx at *
  generalize ys.length = ly at *
  have hmin : ∀ ts t w, (Builtin.min_ ts t #[.int .i64 (lu : Int), .int .i64 (lv : Int), .int .i64 (lx : Int), .int .i64 (ly : Int)]).run Tryz.prog w = .ok (.int .i64 (n : Int)) w := fun ts t w => by rw [run_min4, show min (min (min (lu : Int) (lv : Int)) (lx : Int)) (ly : Int) = (n : Int) by omega]
  have nu : n ≤ lu := by omega
  have nv : n ≤ lv := by omega
  have nx : n ≤ lx := by omega
  have ny : n ≤ ly := by omega
  have iu : (n : Int) ≤ (cu : Int) := by omega
  have iv : (n : Int) ≤ (cv : Int) := by omega
  have HCU := Lib.hid u4
  have HCV := Lib.hid v4
  have HCX := Lib.hid x4
  have HCY := Lib.hid y4
  have HEU := Lib.hid u3
  have HEV := Lib.hid v3
  have HWX := Lib.hid x3
  have HWY := Lib.hid y3
  have HT := Lib.hid hT
  have HAW := Lib.hid fun W ht => awake6_any W ht
  have HWH := Lib.hid fun W => rWhole_any 0 W (by decide) (by decide)
  clear u3 u4 v3 v4 x3 x4 y3 y4 hu hv hx hy hT hn
  have HS0 := Lib.hid (Bks.nil w)
  go_enter Tryz.func3, Tryz.ntmps3
  go_wp2_with fail
  refine (HAW.out _ (HT.out.below HS0.out.2)).mono ?_
  rintro e1 w1 ⟨rfl, hb1⟩
  replace HS0 := Lib.hid (HS0.out.later hb1)
  clear hb1 HAW
  go_wp2_with fail
  refine (HWH.out _).mono ?_
  rintro e2 w2 ⟨p0, rfl, -, hi2, hb2⟩
  replace HS0 := Lib.hid (HS0.out.later hb2)
  have HI0 := Lib.hid (hi2.below (Below.alloc_self w2 (.cells #[.pointer (some ⟨p0, 0, none⟩), .int .i64 0] 27)))
  unfold ExV
  clear hb2 hi2 HWH
  have HW0 := Lib.hid (HS0.out.alloc #[.pointer (some ⟨p0, 0, none⟩), .int .i64 0] 27)
  have HLB : Hid (w.heap.size ≤ w2.heap.size) := Lib.hid HS0.out.size
  clear HS0
  obtain ⟨bb, hbb⟩ : ∃ i, w2.heap.size = i := ⟨_, rfl⟩
  rw [hbb] at HW0 HLB
  go_wp2
  go_loopw [11, 12] (fun u i wr => ∃ (k p s : Nat), k ≤ n ∧ u = .float .f64 s ∧ i = .int .i64 k ∧ Hid (W64 s ∧ DotOk us vs xs ys k ∧ (finB s = true → hasK (dotK us vs k) s = true)) ∧ Hid (Bks w wr [(bb, 27, #[.pointer (some ⟨p, 0, none⟩), .int .i64 (dotX xs ys k).2])]) ∧ Hid (RInt wr p (dotX xs ys k).1)) (fun _ i _ => n - (intOf i).toNat)
  case atStart => exact ⟨0, p0, 0, Nat.zero_le _, rfl, rfl, Lib.hid ⟨by decide, fun i h => absurd h (Nat.not_lt_zero _), fun _ => by show hasK (some (0, 0)) 0 = true; decide⟩, HW0, HI0⟩
  case round =>
    clear HW0 HI0 hbb
    obtain ⟨k, p, s, hk, rfl, rfl, HF, HS, HI⟩ := hrel
    by_cases hlt : k < n
    · obtain ⟨ub, uo, rfl, hub, huc⟩ := HCU.out (by omega)
      obtain ⟨vb, vo, rfl, hvb, hvc⟩ := HCV.out (by omega)
      obtain ⟨xb, xo, rfl, hxb, hxc⟩ := HCX.out (by omega)
      obtain ⟨yb, yo, rfl, hyb, hyc⟩ := HCY.out (by omega)
      have hs := HF.out.1
      have hok := HF.out.2.1
      have hfin := HF.out.2.2
      have wu := HEU.out.at k
      have wv := HEV.out.at k
      have wx := HWX.out k
      have wy := HWY.out k
      have okD := dotK_ok HEU.out HEV.out k
      have HQU : Hid (Cel2 wr ub (uo + k * 2) (.int .u64 ((us.getD k (0, 0)).1 : Nat)) (.int .u64 ((us.getD k (0, 0)).2 : Nat))) := Lib.hid (Cel2.below ⟨hub, huc k (by omega)⟩ HS.out.2)
      have HQV : Hid (Cel2 wr vb (vo + k * 2) (.int .u64 ((vs.getD k (0, 0)).1 : Nat)) (.int .u64 ((vs.getD k (0, 0)).2 : Nat))) := Lib.hid (Cel2.below ⟨hvb, hvc k (by omega)⟩ HS.out.2)
      have HQX : Hid (Cel1 wr xb (xo + k) (.int .u64 (xs.getD k 0 : Nat))) := Lib.hid (Cel1.below ⟨hxb, hxc k (by omega)⟩ HS.out.2)
      have HQY : Hid (Cel1 wr yb (yo + k) (.int .u64 (ys.getD k 0 : Nat))) := Lib.hid (Cel1.below ⟨hyb, hyc k (by omega)⟩ HS.out.2)
      clear huc hvc hxc hyc HF
      have HZ1 : Hid (dotK us vs (k + 1) = addK (dotK us vs k) (mulK (ivK (us.getD k (0, 0)).1 (us.getD k (0, 0)).2) (ivK (vs.getD k (0, 0)).1 (vs.getD k (0, 0)).2))) := Lib.hid rfl
      have HZ2 : Hid ((dotX xs ys (k + 1)).1 = plZ (dotX xs ys k).1 (dotX xs ys k).2 (valZ (xs.getD k 0) * valZ (ys.getD k 0)) (pE (xs.getD k 0) + pE (ys.getD k 0)) ∧ (dotX xs ys (k + 1)).2 = plE (dotX xs ys k).1 (dotX xs ys k).2 (valZ (xs.getD k 0) * valZ (ys.getD k 0)) (pE (xs.getD k 0) + pE (ys.getD k 0))) := Lib.hid ⟨rfl, rfl⟩
      have HZ3 : Hid (hasK (ivK (us.getD k (0, 0)).1 (us.getD k (0, 0)).2) (xs.getD k 0) = true → hasK (ivK (vs.getD k (0, 0)).1 (vs.getD k (0, 0)).2) (ys.getD k 0) = true → DotOk us vs xs ys (k + 1)) := Lib.hid fun h1 h2 i hi => by
        by_cases e : i = k
        · subst e; exact ⟨h1, h2⟩
        · exact hok i (by omega)
      have hdx := dotX_ok HEU.out HEV.out HWX.out HWY.out k hok
      have hbl := dotX_bl HEU.out HEV.out HWX.out HWY.out hok (by omega)
      obtain ⟨-, hd1, hd2, -⟩ := hdx
      clear hok
      generalize (us.getD k (0, 0)).1 = a0 at *
      generalize (us.getD k (0, 0)).2 = a1 at *
      generalize (vs.getD k (0, 0)).1 = c0 at *
      generalize (vs.getD k (0, 0)).2 = c1 at *
      generalize xs.getD k 0 = x at *
      generalize ys.getD k 0 = y at *
      have HOA := Lib.hid fun W => lof_any a0 a1 W
      have HOC := Lib.hid fun W => lof_any c0 c1 W
      have HFX := Lib.hid fun W => lf_any x W
      have HFY := Lib.hid fun W => lf_any y W
      have HHU := Lib.hid fun W => has_any a0 a1 x W wu.1 wu.2 wx
      have HHV := Lib.hid fun W => has_any c0 c1 y W wv.1 wv.2 wy
      have t9 : decide ((k : Int) < (n : Int)) = true := decide_eq_true (by omega)
      have q1 : (k : Int) < (lu : Int) := by omega
      have q2 : (k : Int) < (lv : Int) := by omega
      have q3 : (k : Int) < (lx : Int) := by omega
      have q4 : (k : Int) < (ly : Int) := by omega
      generalize hZ : (dotX xs ys k).1 = Z at *
      generalize hE : (dotX xs ys k).2 = E at *
      clear hZ hE
      cases hbu : hasK (ivK a0 a1) x
      · rw [hbu] at HHU
        clear okD wu wv wx wy hs hfin hd1 hd2 hbl
        clear hbu HHV HZ1 HZ2 HZ3
        go_upto_region 8 with fail
        refine wp_region_pl (fun w' : World => w'.cell? ⟨xb, xo + k, none⟩ = some (.int .u64 (x : Nat)) ∧ w'.cell? ⟨yb, yo + k, none⟩ = some (.int .u64 (y : Nat))) 9 (.take 0 (.take 1 (.take 2 (.take 3 (.take 5 (.take 6 (.take 7 (.take 8 (.run 4 (.nil)))))))))) (by kernel_rfl) (by kernel_rfl) ?_
        replace HS := Lib.hid (HS.out.later (drew_below _))
        replace HI := Lib.hid (HI.out.below (drew_below _))
        replace HQU := Lib.hid (HQU.out.below (drew_below _))
        replace HQV := Lib.hid (HQV.out.below (drew_below _))
        replace HQX := Lib.hid (HQX.out.below (drew_below _))
        replace HQY := Lib.hid (HQY.out.below (drew_below _))
        generalize World.drew _ = W8 at HS HI HQU HQV HQX HQY ⊢
        repeat (first | (refine wpPl_takeL (v := ?_) rfl rfl (fun _ _ _ h => h) rfl (fun w' hSw => ?_) (⟨HQX.out.2, HQY.out.2⟩) ?_; rotate_left; (focus (go_simp; with_reducible rfl)); simp only [setL]) | (refine wpPl_skipL rfl rfl (fun _ _ _ h => h) rfl (⟨HQX.out.2, HQY.out.2⟩) ?_; simp only [setL]))
        refine wpPl_goL rfl rfl fun K' hK => ?_
        go_simp
        refine (HFX.out _).mono ?_
        rintro e1 W8v1 ⟨rfl, hb1⟩
        replace HS := Lib.hid (HS.out.later hb1)
        replace HI := Lib.hid (HI.out.below hb1)
        replace HQU := Lib.hid (HQU.out.below hb1)
        replace HQV := Lib.hid (HQV.out.below hb1)
        replace HQX := Lib.hid (HQX.out.below hb1)
        replace HQY := Lib.hid (HQY.out.below hb1)
        refine hK _ _ (⟨HQX.out.2, HQY.out.2⟩) ?_
        clear hK K' hb1
        try simp only [Act.put, setL]
        repeat (first | (refine wpPl_takeL (v := ?_) rfl rfl (fun _ _ _ h => h) rfl (fun w' hSw => ?_) (⟨HQX.out.2, HQY.out.2⟩) ?_; rotate_left; (focus (go_simp; with_reducible rfl)); simp only [setL]) | (refine wpPl_skipL rfl rfl (fun _ _ _ h => h) rfl (⟨HQX.out.2, HQY.out.2⟩) ?_; simp only [setL]))
        refine wpPl_nil ?_
        simp only [List.drop_succ_cons, List.drop_zero]
        clear HQX HQY
        go_wp2_with fail
        refine (HFY.out _).mono ?_
        rintro e5 w5 ⟨rfl, hb5⟩
        replace HS := Lib.hid (HS.out.later hb5)
        replace HI := Lib.hid (HI.out.below hb5)
        replace HQU := Lib.hid (HQU.out.below hb5)
        replace HQV := Lib.hid (HQV.out.below hb5)
        clear hb5
        obtain ⟨g0, g1, g2⟩ := HQU.out
        go_wp2_with fail
        refine (HOA.out _).mono ?_
        rintro e6 w6 ⟨rfl, hb6⟩
        replace HS := Lib.hid (HS.out.later hb6)
        replace HI := Lib.hid (HI.out.below hb6)
        replace HQU := Lib.hid (HQU.out.below hb6)
        replace HQV := Lib.hid (HQV.out.below hb6)
        clear hb6
        clear g0 g1 g2
        go_wp2_with fail
        refine (HHU.out _).mono ?_
        rintro e7 w7 ⟨rfl, hb7⟩
        replace HS := Lib.hid (HS.out.later hb7)
        replace HI := Lib.hid (HI.out.below hb7)
        replace HQU := Lib.hid (HQU.out.below hb7)
        replace HQV := Lib.hid (HQV.out.below hb7)
        clear hb7
        go_wp2
        go_ret
        exact ⟨rfl, HS.out.2⟩
      cases hbv : hasK (ivK c0 c1) y
      · rw [hbu] at HHU
        rw [hbv] at HHV
        clear okD wu wv wx wy hs hfin hd1 hd2 hbl
        clear hbu hbv HZ1 HZ2 HZ3
        go_upto_region 8 with fail
        refine wp_region_pl (fun w' : World => w'.cell? ⟨xb, xo + k, none⟩ = some (.int .u64 (x : Nat)) ∧ w'.cell? ⟨yb, yo + k, none⟩ = some (.int .u64 (y : Nat))) 9 (.take 0 (.take 1 (.take 2 (.take 3 (.take 5 (.take 6 (.take 7 (.take 8 (.run 4 (.nil)))))))))) (by kernel_rfl) (by kernel_rfl) ?_
        replace HS := Lib.hid (HS.out.later (drew_below _))
        replace HI := Lib.hid (HI.out.below (drew_below _))
        replace HQU := Lib.hid (HQU.out.below (drew_below _))
        replace HQV := Lib.hid (HQV.out.below (drew_below _))
        replace HQX := Lib.hid (HQX.out.below (drew_below _))
        replace HQY := Lib.hid (HQY.out.below (drew_below _))
        generalize World.drew _ = W8 at HS HI HQU HQV HQX HQY ⊢
        repeat (first | (refine wpPl_takeL (v := ?_) rfl rfl (fun _ _ _ h => h) rfl (fun w' hSw => ?_) (⟨HQX.out.2, HQY.out.2⟩) ?_; rotate_left; (focus (go_simp; with_reducible rfl)); simp only [setL]) | (refine wpPl_skipL rfl rfl (fun _ _ _ h => h) rfl (⟨HQX.out.2, HQY.out.2⟩) ?_; simp only [setL]))
        refine wpPl_goL rfl rfl fun K' hK => ?_
        go_simp
        refine (HFX.out _).mono ?_
        rintro e1 W8v1 ⟨rfl, hb1⟩
        replace HS := Lib.hid (HS.out.later hb1)
        replace HI := Lib.hid (HI.out.below hb1)
        replace HQU := Lib.hid (HQU.out.below hb1)
        replace HQV := Lib.hid (HQV.out.below hb1)
        replace HQX := Lib.hid (HQX.out.below hb1)
        replace HQY := Lib.hid (HQY.out.below hb1)
        refine hK _ _ (⟨HQX.out.2, HQY.out.2⟩) ?_
        clear hK K' hb1
        try simp only [Act.put, setL]
        repeat (first | (refine wpPl_takeL (v := ?_) rfl rfl (fun _ _ _ h => h) rfl (fun w' hSw => ?_) (⟨HQX.out.2, HQY.out.2⟩) ?_; rotate_left; (focus (go_simp; with_reducible rfl)); simp only [setL]) | (refine wpPl_skipL rfl rfl (fun _ _ _ h => h) rfl (⟨HQX.out.2, HQY.out.2⟩) ?_; simp only [setL]))
        refine wpPl_nil ?_
        simp only [List.drop_succ_cons, List.drop_zero]
        clear HQX HQY
        go_wp2_with fail
        refine (HFY.out _).mono ?_
        rintro e5 w5 ⟨rfl, hb5⟩
        replace HS := Lib.hid (HS.out.later hb5)
        replace HI := Lib.hid (HI.out.below hb5)
        replace HQU := Lib.hid (HQU.out.below hb5)
        replace HQV := Lib.hid (HQV.out.below hb5)
        clear hb5
        obtain ⟨g0, g1, g2⟩ := HQU.out
        go_wp2_with fail
        refine (HOA.out _).mono ?_
        rintro e6 w6 ⟨rfl, hb6⟩
        replace HS := Lib.hid (HS.out.later hb6)
        replace HI := Lib.hid (HI.out.below hb6)
        replace HQU := Lib.hid (HQU.out.below hb6)
        replace HQV := Lib.hid (HQV.out.below hb6)
        clear hb6
        clear g0 g1 g2
        go_wp2_with fail
        refine (HHU.out _).mono ?_
        rintro e7 w7 ⟨rfl, hb7⟩
        replace HS := Lib.hid (HS.out.later hb7)
        replace HI := Lib.hid (HI.out.below hb7)
        replace HQU := Lib.hid (HQU.out.below hb7)
        replace HQV := Lib.hid (HQV.out.below hb7)
        clear hb7
        obtain ⟨g3, g4, g5⟩ := HQV.out
        go_wp2_with fail
        refine (HOC.out _).mono ?_
        rintro e9 w9 ⟨rfl, hb9⟩
        replace HS := Lib.hid (HS.out.later hb9)
        replace HI := Lib.hid (HI.out.below hb9)
        replace HQU := Lib.hid (HQU.out.below hb9)
        replace HQV := Lib.hid (HQV.out.below hb9)
        clear hb9
        clear g3 g4 g5
        go_wp2_with fail
        refine (HHV.out _).mono ?_
        rintro e10 w10 ⟨rfl, hb10⟩
        replace HS := Lib.hid (HS.out.later hb10)
        replace HI := Lib.hid (HI.out.below hb10)
        replace HQU := Lib.hid (HQU.out.below hb10)
        replace HQV := Lib.hid (HQV.out.below hb10)
        clear hb10
        go_wp2
        go_ret
        exact ⟨rfl, HS.out.2⟩
      obtain ⟨fx, ix⟩ := pt_in hbu
      obtain ⟨fy, iy⟩ := pt_in hbv
      have okA := ivK_ok wu.1 wu.2
      have okB := ivK_ok wv.1 wv.2
      have encM := enc_mul okA okB wx wy hbu hbv
      have okM := mulK_ok okA okB
      obtain ⟨m, m1, m2, m3⟩ := times_word wx wy fx fy
      have hmul : ∀ t w, (binOp .mul t (.float .f64 x) (.float .f64 y)).run Tryz.prog w = .ok (.float .f64 m) w := fun t w => run_float_arith w .mul t .f64 _ _ _ m1
      have hadd : ∀ t u v w, (binOp .add t (.float .f64 u) (.float .f64 v)).run Tryz.prog w = .ok (.float .f64 (fV .add u v w)) (fN .add u v w) := fun t u v w => run_float_any .add (.inl rfl) t u v w
      have HRO := Lib.hid fun W => dot_round okD okM hs m2 hfin (fun hf => encM.has hf m3) W
      rw [← HZ1.out] at HRO
      have HOK := Lib.hid (HZ3.out hbu hbv)
      have ex := pE_bd fx
      have ey := pE_bd fy
      have bx := val_bl (b := x)
      have bY := val_bl (b := y)
      have y3 := bl_mul (valZ x).natAbs (valZ y).natAbs
      rw [← Int.natAbs_mul] at y3
      have HOX := Lib.hid fun W => rOf_any x W wx fx
      have HOY := Lib.hid fun W => rOf_any y W wy fy
      have HXM := Lib.hid fun b c W (h1 : RInt W b (valZ x)) (h2 : RInt W c (valZ y)) => rMulX_any b c _ (pE x) _ (pE y) W h1 h2 (by omega) (by omega) (by omega) (by omega) (by omega) (by omega)
      have HXA := Lib.hid fun b c W (h1 : RInt W b Z) (h2 : RInt W c (valZ x * valZ y)) => rAddX_any b c _ E _ (pE x + pE y) W h1 h2 (by omega) (by omega) (by omega) (by omega) (by omega) (by omega)
      rw [← HZ2.out.1, ← HZ2.out.2] at HXA
      rw [hbu] at HHU
      rw [hbv] at HHV
      clear hbu hbv fx fy ix iy okA okB encM okM m1 m2 m3 ex ey bx bY y3 HZ1 HZ2 HZ3
      clear okD wu wv wx wy hs hfin hd1 hd2 hbl
      obtain ⟨Z2, hZ2⟩ : ∃ t, (dotX xs ys (k + 1)).1 = t := ⟨_, rfl⟩
      obtain ⟨E2, hE2⟩ : ∃ t, (dotX xs ys (k + 1)).2 = t := ⟨_, rfl⟩
      rw [hZ2, hE2] at HXA
      have HZN := Lib.hid (And.intro hZ2 hE2)
      clear hZ2 hE2
      generalize valZ x * valZ y = zxy at *
      generalize pE x + pE y = exy at *
      generalize valZ x = zx at *
      generalize valZ y = zy at *
      generalize pE x = ex at *
      generalize pE y = ey at *
      go_upto_region 8 with fail
      refine wp_region_pl (fun w' : World => w'.cell? ⟨xb, xo + k, none⟩ = some (.int .u64 (x : Nat)) ∧ w'.cell? ⟨yb, yo + k, none⟩ = some (.int .u64 (y : Nat))) 9 (.take 0 (.take 1 (.take 2 (.take 3 (.take 5 (.take 6 (.take 7 (.take 8 (.run 4 (.nil)))))))))) (by kernel_rfl) (by kernel_rfl) ?_
      replace HS := Lib.hid (HS.out.later (drew_below _))
      replace HI := Lib.hid (HI.out.below (drew_below _))
      replace HQU := Lib.hid (HQU.out.below (drew_below _))
      replace HQV := Lib.hid (HQV.out.below (drew_below _))
      replace HQX := Lib.hid (HQX.out.below (drew_below _))
      replace HQY := Lib.hid (HQY.out.below (drew_below _))
      generalize World.drew _ = W8 at HS HI HQU HQV HQX HQY ⊢
      repeat (first | (refine wpPl_takeL (v := ?_) rfl rfl (fun _ _ _ h => h) rfl (fun w' hSw => ?_) (⟨HQX.out.2, HQY.out.2⟩) ?_; rotate_left; (focus (go_simp; with_reducible rfl)); simp only [setL]) | (refine wpPl_skipL rfl rfl (fun _ _ _ h => h) rfl (⟨HQX.out.2, HQY.out.2⟩) ?_; simp only [setL]))
      refine wpPl_goL rfl rfl fun K' hK => ?_
      go_simp
      refine (HFX.out _).mono ?_
      rintro e1 W8v1 ⟨rfl, hb1⟩
      replace HS := Lib.hid (HS.out.later hb1)
      replace HI := Lib.hid (HI.out.below hb1)
      replace HQU := Lib.hid (HQU.out.below hb1)
      replace HQV := Lib.hid (HQV.out.below hb1)
      replace HQX := Lib.hid (HQX.out.below hb1)
      replace HQY := Lib.hid (HQY.out.below hb1)
      refine hK _ _ (⟨HQX.out.2, HQY.out.2⟩) ?_
      clear hK K' hb1
      try simp only [Act.put, setL]
      repeat (first | (refine wpPl_takeL (v := ?_) rfl rfl (fun _ _ _ h => h) rfl (fun w' hSw => ?_) (⟨HQX.out.2, HQY.out.2⟩) ?_; rotate_left; (focus (go_simp; with_reducible rfl)); simp only [setL]) | (refine wpPl_skipL rfl rfl (fun _ _ _ h => h) rfl (⟨HQX.out.2, HQY.out.2⟩) ?_; simp only [setL]))
      refine wpPl_nil ?_
      simp only [List.drop_succ_cons, List.drop_zero]
      clear HQX HQY
      go_wp2_with fail
      refine (HFY.out _).mono ?_
      rintro e5 w5 ⟨rfl, hb5⟩
      replace HS := Lib.hid (HS.out.later hb5)
      replace HI := Lib.hid (HI.out.below hb5)
      replace HQU := Lib.hid (HQU.out.below hb5)
      replace HQV := Lib.hid (HQV.out.below hb5)
      clear hb5
      obtain ⟨g0, g1, g2⟩ := HQU.out
      go_wp2_with fail
      refine (HOA.out _).mono ?_
      rintro e6 w6 ⟨rfl, hb6⟩
      replace HS := Lib.hid (HS.out.later hb6)
      replace HI := Lib.hid (HI.out.below hb6)
      replace HQU := Lib.hid (HQU.out.below hb6)
      replace HQV := Lib.hid (HQV.out.below hb6)
      clear hb6
      clear g0 g1 g2
      go_wp2_with fail
      refine (HHU.out _).mono ?_
      rintro e7 w7 ⟨rfl, hb7⟩
      replace HS := Lib.hid (HS.out.later hb7)
      replace HI := Lib.hid (HI.out.below hb7)
      replace HQU := Lib.hid (HQU.out.below hb7)
      replace HQV := Lib.hid (HQV.out.below hb7)
      clear hb7
      obtain ⟨g3, g4, g5⟩ := HQV.out
      go_wp2_with fail
      refine (HOC.out _).mono ?_
      rintro e9 w9 ⟨rfl, hb9⟩
      replace HS := Lib.hid (HS.out.later hb9)
      replace HI := Lib.hid (HI.out.below hb9)
      replace HQU := Lib.hid (HQU.out.below hb9)
      replace HQV := Lib.hid (HQV.out.below hb9)
      clear hb9
      clear g3 g4 g5
      go_wp2_with fail
      refine (HHV.out _).mono ?_
      rintro e10 w10 ⟨rfl, hb10⟩
      replace HS := Lib.hid (HS.out.later hb10)
      replace HI := Lib.hid (HI.out.below hb10)
      replace HQU := Lib.hid (HQU.out.below hb10)
      replace HQV := Lib.hid (HQV.out.below hb10)
      clear hb10
      go_upto_region 11 with fail
      refine wp_region_pl (fun w' : World => w'.cell? ⟨bb, 0, none⟩ = some (.pointer (some ⟨p, 0, none⟩)) ∧ w'.cell? ⟨bb, 1, none⟩ = some (.int .i64 E)) 6 (.take 0 (.take 1 (.take 3 (.run 2 (.run 4 (.run 5 (.nil))))))) (by kernel_rfl) (by kernel_rfl) ?_
      replace HS := Lib.hid (HS.out.later (drew_below _))
      replace HI := Lib.hid (HI.out.below (drew_below _))
      generalize World.drew _ = W11 at HS HI ⊢
      repeat (first | (refine wpPl_takeL (v := ?_) rfl rfl (fun _ _ _ h => h) rfl (fun w' hSw => ?_) (HS.out.two (.head _)) ?_; rotate_left; (focus (go_simp; with_reducible rfl)); simp only [setL]) | (refine wpPl_skipL rfl rfl (fun _ _ _ h => h) rfl (HS.out.two (.head _)) ?_; simp only [setL]))
      refine wpPl_goL rfl rfl fun K' hK => ?_
      go_simp
      refine (HOX.out _).mono ?_
      rintro e1 W11v1 ⟨o1, rfl, -, hi1, hb1⟩
      replace HS := Lib.hid (HS.out.later hb1)
      replace HI := Lib.hid (HI.out.below hb1)
      have HX1 := Lib.hid hi1
      clear hi1
      unfold ExV
      refine hK _ _ (HS.out.two (.head _)) ?_
      clear hK K' hb1
      try simp only [Act.put, setL]
      repeat (first | (refine wpPl_takeL (v := ?_) rfl rfl (fun _ _ _ h => h) rfl (fun w' hSw => ?_) (HS.out.two (.head _)) ?_; rotate_left; (focus (go_simp; with_reducible rfl)); simp only [setL]) | (refine wpPl_skipL rfl rfl (fun _ _ _ h => h) rfl (HS.out.two (.head _)) ?_; simp only [setL]))
      refine wpPl_goL rfl rfl fun K' hK => ?_
      go_simp
      refine (HOY.out _).mono ?_
      rintro e1 W11v2 ⟨o2, rfl, -, hi1, hb1⟩
      replace HS := Lib.hid (HS.out.later hb1)
      replace HI := Lib.hid (HI.out.below hb1)
      replace HX1 := Lib.hid (HX1.out.below hb1)
      have HX2 := Lib.hid hi1
      clear hi1
      unfold ExV
      refine hK _ _ (HS.out.two (.head _)) ?_
      clear hK K' hb1
      try simp only [Act.put, setL]
      repeat (first | (refine wpPl_takeL (v := ?_) rfl rfl (fun _ _ _ h => h) rfl (fun w' hSw => ?_) (HS.out.two (.head _)) ?_; rotate_left; (focus (go_simp; with_reducible rfl)); simp only [setL]) | (refine wpPl_skipL rfl rfl (fun _ _ _ h => h) rfl (HS.out.two (.head _)) ?_; simp only [setL]))
      refine wpPl_goL rfl rfl fun K' hK => ?_
      go_simp
      refine (HXM.out _ _ _ HX1.out HX2.out).mono ?_
      rintro e1 W11v3 ⟨o3, rfl, -, hi1, hb1⟩
      replace HS := Lib.hid (HS.out.later hb1)
      replace HI := Lib.hid (HI.out.below hb1)
      clear HX1 HX2
      have HX3 := Lib.hid hi1
      clear hi1
      unfold ExV
      refine hK _ _ (HS.out.two (.head _)) ?_
      clear hK K' hb1
      try simp only [Act.put, setL]
      repeat (first | (refine wpPl_takeL (v := ?_) rfl rfl (fun _ _ _ h => h) rfl (fun w' hSw => ?_) (HS.out.two (.head _)) ?_; rotate_left; (focus (go_simp; with_reducible rfl)); simp only [setL]) | (refine wpPl_skipL rfl rfl (fun _ _ _ h => h) rfl (HS.out.two (.head _)) ?_; simp only [setL]))
      refine wpPl_nil ?_
      simp only [List.drop_succ_cons, List.drop_zero]
      obtain ⟨k0, k1, k2, k3⟩ := (HS.out.get (.head _)).cells2
      go_wp2_with fail
      refine (HXA.out _ _ _ HI.out HX3.out).mono ?_
      rintro e12 w12 ⟨p2, rfl, hi12, hb12⟩
      replace HS := Lib.hid (HS.out.later hb12)
      have HN := Lib.hid hi12
      unfold ExV
      clear hb12 hi12 HI HX3 k0 k1 k2 k3
      obtain ⟨k0, k1, k2, k3⟩ := (HS.out.get (.head _)).cells2
      have HBB := Lib.hid (HS.out.get (.head _))
      replace HS := Lib.hid (HS.out.set2 HLB.out (fun q m => by cases m) (.pointer (some ⟨p2, 0, none⟩)) (.int .i64 E2))
      replace HN := Lib.hid (RInt.st2 HN.out HBB.out (.pointer (some ⟨p2, 0, none⟩)) (.int .i64 E2))
      clear HBB
      go_upto_region 12 with fail
      clear k0 k1 k2 k3
      generalize World.setCell (World.setCell w12 _ _) _ _ = W12 at HS HN ⊢
      replace HS := Lib.hid (HS.out.later (fN_below .add s m W12))
      replace HN := Lib.hid (HN.out.below (fN_below .add s m W12))
      go_wp2
      go_roundw
      case rel => exact ⟨k + 1, p2, fV .add s m W12, by omega, rfl, by go_num, Lib.hid ⟨(HRO.out W12).1, HOK.out, (HRO.out W12).2⟩, Lib.hid (by rw [HZN.out.2]; exact HS.out), Lib.hid (by rw [HZN.out.1]; exact HN.out)⟩
      case measure => simp [intOf]; omega
    · obtain rfl : k = n := by omega
      have t9 : decide ((k : Int) < (k : Int)) = false := decide_eq_false (by omega)
      have hs := HF.out.1
      have hok := HF.out.2.1
      have hfin := HF.out.2.2
      have okD := dotK_ok HEU.out HEV.out k
      have hdx := dotX_ok HEU.out HEV.out HWX.out HWY.out k hok
      have hbl := dotX_bl HEU.out HEV.out HWX.out HWY.out hok (by omega)
      obtain ⟨hd0, hd1, hd2, -⟩ := hdx
      have HHO := Lib.hid fun b W h => holdV_of okD (by omega) (by omega) hd0 (by omega) (by omega) (by omega) b W h
      have HRD := Lib.hid fun W => round_of okD hs hfin W
      have HLU := Lib.hid fun W h => llist_n au k cu (us.take k) W h
      have HLV := Lib.hid fun W h => llist_n av k cv (vs.take k) W h
      have HDT := Lib.hid fun va vb W (h1 : VSl W va (us.take k)) (h2 : VSl W vb (vs.take k)) (hl1 : (us.take k).length = k) (hl2 : (vs.take k).length = k) ht => iDot_any va vb (us.take k) (vs.take k) W h1 h2 (by rw [hl1, hl2]) ht
      have HL1 : Hid ((us.take k).length = k) := Lib.hid (PSl.cells HU.out).1
      have HL2 : Hid ((vs.take k).length = k) := Lib.hid (PSl.cells HV.out).1
      replace HDT := Lib.hid fun va vb W h1 h2 ht => HDT.out va vb W h1 h2 HL1.out HL2.out ht
      rw [HL1.out, dotK_take us vs k (Nat.le_refl _)] at HDT
      clear HL1 HL2
      replace HU := Lib.hid (PSl.below HU.out HS.out.2)
      replace HV := Lib.hid (PSl.below HV.out HS.out.2)
      clear hs hok hfin okD hbl hd0 hd1 hd2 HF
      generalize ivL (dotK us vs k) = D0 at *
      generalize ivH (dotK us vs k) = D1 at *
      generalize (dotX xs ys k).1 = Z at *
      generalize (dotX xs ys k).2 = E at *
      go_upto_region 13 with fail
      refine wp_region_q (fun w' : World => w'.cell? ⟨bb, 0, none⟩ = some (.pointer (some ⟨p, 0, none⟩)) ∧ w'.cell? ⟨bb, 1, none⟩ = some (.int .i64 E)) 14 (.take 0 (.take 1 (.take 2 (.take 4 (.take 5 (.take 6 (.bag [(3, 78, []), (7, 82, []), (8, 83, [(9, 74), (10, 84), (11, 85)]), (12, 15, [])] (.run 13 .nil)))))))) (by kernel_rfl) (by kernel_rfl) ?_
      replace HS := Lib.hid (HS.out.later (drew_below _))
      replace HI := Lib.hid (HI.out.below (drew_below _))
      replace HU := Lib.hid (HU.out.below (drew_below _))
      replace HV := Lib.hid (HV.out.below (drew_below _))
      generalize World.drew _ = W13 at HS HI HU HV ⊢
      have HSZ : Hid (SzLe W13 W13.heap.size) := Lib.hid (Nat.le_refl _)
      have HLT := Lib.hid HS.out.lt
      have HSW : Hid (w.heap.size ≤ W13.heap.size) := Lib.hid HS.out.size
      generalize W13.heap.size = nB at HSZ HLT HSW
      have hS : (fun w' : World => w'.cell? ⟨bb, 0, none⟩ = some (.pointer (some ⟨p, 0, none⟩)) ∧ w'.cell? ⟨bb, 1, none⟩ = some (.int .i64 E)) W13 := (HS.out.two (.head _))
      repeat (refine wpPq_takeL (v := ?_) rfl rfl (fun _ _ _ h => h) rfl (fun w' hSw => ?_) hS ?_; rotate_left; (focus (go_simp; with_reducible rfl)); simp only [setL])
      clear hS
      refine wpPq_bag (pick [(3, fun v w' => ∃ (ao : Option Addr) (c : Nat), v = .slice ao k c ∧ PSl wdF w' (.slice ao k c) (us.take k)), (7, fun v w' => ∃ (ao : Option Addr) (c : Nat), v = .slice ao k c ∧ PSl wdF w' (.slice ao k c) (vs.take k)), (8, fun v w' => v = .tuple #[.agg #[.float .f64 D0, .float .f64 D1], .int .i64 0]), (9, fun v w' => v = .tuple #[.agg #[.float .f64 D0, .float .f64 D1], .int .i64 0]), (10, fun v w' => v = .agg #[.float .f64 D0, .float .f64 D1]), (11, fun v w' => v = .int .i64 0), (12, fun v w' => ∃ r, v = .pointer (some ⟨r, 0, none⟩) ∧ nB ≤ r ∧ BlkT w' r 34 #[.float .f64 0, .float .f64 0])]) (pick_mono (bag_cons (fun v w1 w2 ⟨ao3, c3, hv3, hr3⟩ hb => ⟨ao3, c3, hv3, hr3.below hb⟩) (bag_cons (fun v w1 w2 ⟨ao7, c7, hv7, hr7⟩ hb => ⟨ao7, c7, hv7, hr7.below hb⟩) (bag_cons (fun v w1 w2 hv8 hb => hv8) (bag_cons (fun v w1 w2 hv9 hb => hv9) (bag_cons (fun v w1 w2 hv10 hb => hv10) (bag_cons (fun v w1 w2 hv11 hb => hv11) (bag_cons (fun v w1 w2 ⟨r12, hv12, hl12, hB12⟩ hb => ⟨r12, hv12, hl12, hB12.below hb⟩) bag_nil)))))))) (fun w' hb => ((HS.out.later hb).two (.head _))) (by simp [prE]) (fun _ _ _ _ _ h => h) (bag_cons (bag_one rfl ?_) (bag_cons (bag_one rfl ?_) (bag_cons (bag_one rfl ?_) (bag_cons (bag_one rfl ?_) bag_nil)))) (bag_cons (read_one rfl ?_) (bag_cons (read_one rfl ?_) (bag_cons (read_one rfl ?_) bag_nil))) ?_
      · intro a' V hdf hin hdep hb1 K hK
        have i77 : a'.tmps[77]?.getD undef = .slice au k cu := evT (hin 77 (by decide))
        clear hin hdep hdf
        have HS := Lib.hid (HS.out.later hb1)
        have HSZ := Lib.hid (HSZ.out.below hb1)
        have HI := Lib.hid (HI.out.below hb1)
        have HU := Lib.hid (HU.out.below hb1)
        have HV := Lib.hid (HV.out.below hb1)
        go_simp
        refine (HLU.out _ HU.out).mono ?_
        rintro e1 V2 ⟨ao, c, rfl, hr, hb2⟩
        exact hK _ _ ⟨ao, c, rfl, hr⟩ hb2
      · intro a' V hdf hin hdep hb1 K hK
        have i81 : a'.tmps[81]?.getD undef = .slice av k cv := evT (hin 81 (by decide))
        clear hin hdep hdf
        have HS := Lib.hid (HS.out.later hb1)
        have HSZ := Lib.hid (HSZ.out.below hb1)
        have HI := Lib.hid (HI.out.below hb1)
        have HU := Lib.hid (HU.out.below hb1)
        have HV := Lib.hid (HV.out.below hb1)
        go_simp
        refine (HLV.out _ HV.out).mono ?_
        rintro e1 V2 ⟨ao, c, rfl, hr, hb2⟩
        exact hK _ _ ⟨ao, c, rfl, hr⟩ hb2
      · intro a' V hdf hin hdep hb1 K hK
        obtain ⟨ao3, c3, hv3, hr3⟩ : (fun (v : Value) (w' : World) => ∃ (ao : Option Addr) (c : Nat), v = .slice ao k c ∧ PSl wdF w' (.slice ao k c) (us.take k)) (a'.tmps.getD 78 undef) V := hdep ⟨3, .data⟩ (by simp) rfl 78 (by decide)
        replace hv3 := evT hv3
        obtain ⟨ao7, c7, hv7, hr7⟩ : (fun (v : Value) (w' : World) => ∃ (ao : Option Addr) (c : Nat), v = .slice ao k c ∧ PSl wdF w' (.slice ao k c) (vs.take k)) (a'.tmps.getD 82 undef) V := hdep ⟨7, .data⟩ (by simp) rfl 82 (by decide)
        replace hv7 := evT hv7
        clear hin hdep hdf
        have HS := Lib.hid (HS.out.later hb1)
        have HSZ := Lib.hid (HSZ.out.below hb1)
        have HI := Lib.hid (HI.out.below hb1)
        have HU := Lib.hid (HU.out.below hb1)
        have HV := Lib.hid (HV.out.below hb1)
        go_simp
        refine (HDT.out _ _ _ hr3 hr7 (HT.out.below HS.out.2)).mono ?_
        rintro e1 V2 ⟨rfl, hb2⟩
        exact hK _ _ rfl hb2
      · intro a' V hdf hin hdep hb1 K hK
        clear hin hdep hdf
        have HS := Lib.hid (HS.out.later hb1)
        have HSZ := Lib.hid (HSZ.out.below hb1)
        have HI := Lib.hid (HI.out.below hb1)
        have HU := Lib.hid (HU.out.below hb1)
        have HV := Lib.hid (HV.out.below hb1)
        go_simp
        exact hK _ _ ⟨_, rfl, HSZ.out, BlkT.new V _ _⟩ (Below.alloc_self _ _)
      · intro a' V hdf hin hdep hb1
        obtain hv8 : (fun (v : Value) (w' : World) => v = .tuple #[.agg #[.float .f64 D0, .float .f64 D1], .int .i64 0]) (a'.tmps.getD 83 undef) V := hdep ⟨8, .data⟩ (by simp) rfl 83 (by decide)
        dsimp only at hv8
        replace hv8 := evT hv8
        clear hin hdep hdf
        have HS := Lib.hid (HS.out.later hb1)
        have HSZ := Lib.hid (HSZ.out.below hb1)
        have HI := Lib.hid (HI.out.below hb1)
        have HU := Lib.hid (HU.out.below hb1)
        have HV := Lib.hid (HV.out.below hb1)
        refine ⟨.tuple #[.agg #[.float .f64 D0, .float .f64 D1], .int .i64 0], fun W hSw => ?_, rfl⟩
        go_simp
      · intro a' V hdf hin hdep hb1
        obtain hv9 : (fun (v : Value) (w' : World) => v = .tuple #[.agg #[.float .f64 D0, .float .f64 D1], .int .i64 0]) (a'.tmps.getD 74 undef) V := hdep ⟨9, .data⟩ (by simp) rfl 74 (by decide)
        dsimp only at hv9
        replace hv9 := evT hv9
        clear hin hdep hdf
        have HS := Lib.hid (HS.out.later hb1)
        have HSZ := Lib.hid (HSZ.out.below hb1)
        have HI := Lib.hid (HI.out.below hb1)
        have HU := Lib.hid (HU.out.below hb1)
        have HV := Lib.hid (HV.out.below hb1)
        refine ⟨.agg #[.float .f64 D0, .float .f64 D1], fun W hSw => ?_, rfl⟩
        go_simp
      · intro a' V hdf hin hdep hb1
        obtain hv9 : (fun (v : Value) (w' : World) => v = .tuple #[.agg #[.float .f64 D0, .float .f64 D1], .int .i64 0]) (a'.tmps.getD 74 undef) V := hdep ⟨9, .data⟩ (by simp) rfl 74 (by decide)
        dsimp only at hv9
        replace hv9 := evT hv9
        clear hin hdep hdf
        have HS := Lib.hid (HS.out.later hb1)
        have HSZ := Lib.hid (HSZ.out.below hb1)
        have HI := Lib.hid (HI.out.below hb1)
        have HU := Lib.hid (HU.out.below hb1)
        have HV := Lib.hid (HV.out.below hb1)
        refine ⟨.int .i64 0, fun W hSw => ?_, rfl⟩
        go_simp
      intro vals B1 hb1 hR
      replace HS := Lib.hid (HS.out.later hb1)
      replace HSZ := Lib.hid (HSZ.out.below hb1)
      replace HI := Lib.hid (HI.out.below hb1)
      replace HU := Lib.hid (HU.out.below hb1)
      replace HV := Lib.hid (HV.out.below hb1)
      obtain ⟨ao3, c3, hv3, hr3⟩ : (fun (v : Value) (w' : World) => ∃ (ao : Option Addr) (c : Nat), v = .slice ao k c ∧ PSl wdF w' (.slice ao k c) (us.take k)) (vals 3) B1 := hR (3, 78) (by decide)
      obtain ⟨ao7, c7, hv7, hr7⟩ : (fun (v : Value) (w' : World) => ∃ (ao : Option Addr) (c : Nat), v = .slice ao k c ∧ PSl wdF w' (.slice ao k c) (vs.take k)) (vals 7) B1 := hR (7, 82) (by decide)
      obtain hv8 : (fun (v : Value) (w' : World) => v = .tuple #[.agg #[.float .f64 D0, .float .f64 D1], .int .i64 0]) (vals 8) B1 := hR (8, 83) (by decide)
      dsimp only at hv8
      obtain hv9 : (fun (v : Value) (w' : World) => v = .tuple #[.agg #[.float .f64 D0, .float .f64 D1], .int .i64 0]) (vals 9) B1 := hR (9, 74) (by decide)
      dsimp only at hv9
      obtain hv10 : (fun (v : Value) (w' : World) => v = .agg #[.float .f64 D0, .float .f64 D1]) (vals 10) B1 := hR (10, 84) (by decide)
      dsimp only at hv10
      obtain hv11 : (fun (v : Value) (w' : World) => v = .int .i64 0) (vals 11) B1 := hR (11, 85) (by decide)
      dsimp only at hv11
      obtain ⟨r12, hv12, hl12, hB12⟩ : (fun (v : Value) (w' : World) => ∃ r, v = .pointer (some ⟨r, 0, none⟩) ∧ nB ≤ r ∧ BlkT w' r 34 #[.float .f64 0, .float .f64 0]) (vals 12) B1 := hR (12, 15) (by decide)
      obtain ⟨k0, k1, k2, k3⟩ := hB12.cells2
      clear hb1 hR
      simp only [prE, List.flatMap_cons, List.flatMap_nil, List.cons_append, List.nil_append, List.append_nil, setD, List.setIfInBounds_toArray, List.set_cons_zero, List.set_cons_succ, hv3, hv7, hv8, hv9, hv10, hv11, hv12]
      clear vals hv3 hv7 hv8 hv9 hv10 hv11 hv12
      refine wpPq_goL rfl rfl fun K' hK => ?_
      go_simp
      have HN12 : Hid (w.heap.size ≤ r12 ∧ ∀ q ∈ ([(bb, 27, #[.pointer (some ⟨p, 0, none⟩), .int .i64 E])] : List (Nat × Nat × Array Value)), q.1 ≠ r12) := Lib.hid ⟨Nat.le_trans HSW.out hl12, fun q m e => by have := HLT.out q m; omega⟩
      replace HS := Lib.hid ((HS.out.cons hB12).set2 HN12.out.1 HN12.out.2 (.float .f64 D0) (.float .f64 D1)).swap
      replace HI := Lib.hid (RInt.stI HI.out hB12 D0 D1)
      have hm1 := trivial
      clear hB12 hl12 k0 k1 k2 k3 HN12 HSZ HLT HSW hr3 hr7
      generalize World.setCell (World.setCell B1 _ _) _ _ = V2 at HS HI ⊢
      refine hK _ _ (HS.out.two (.head _)) ?_
      clear hK K' hm1
      refine wpPq_nil ?_
      simp only [List.drop_succ_cons, List.drop_zero]
      skip
      obtain ⟨g0, g1⟩ := HS.out.two (.head _)
      obtain ⟨g2, g3⟩ := HS.out.two (.tail _ (.head _))
      go_wp2_with fail
      refine (HHO.out _ _ HI.out).mono ?_
      rintro e15 w15 ⟨rfl, hb15⟩
      replace HS := Lib.hid (HS.out.later hb15)
      replace HI := Lib.hid (HI.out.below hb15)
      clear hb15
      clear g0 g1 g2 g3
      obtain ⟨g2, g3⟩ := HS.out.two (.tail _ (.head _))
      go_wp2_with fail
      refine (HRD.out _).mono ?_
      rintro e16 w16 ⟨rfl, hb16⟩
      replace HS := Lib.hid (HS.out.later hb16)
      clear hb16
      clear g2 g3
      go_wp2
      go_ret
      exact ⟨rfl, HS.out.2⟩

end Go.Proofs.YtloohbkceppocaaGreatDoor
