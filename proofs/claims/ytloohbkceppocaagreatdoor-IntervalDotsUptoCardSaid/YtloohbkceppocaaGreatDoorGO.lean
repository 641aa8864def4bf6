/- Walks: the references' whole numbers (binnacleref00): Neg, Abs, Lsh, Mul, sums. Printed by wip/gen/rf6.py. -/
import Derived.Test.YtloohbkceppocaaGreatDoorGF
import Derived.Test.YtloohbkceppocaaGreatDoorGK
import Derived.Test.YtloohbkceppocaaGreatDoorGC
namespace Go.Proofs.YtloohbkceppocaaGreatDoor
open Go.RowKit

/-- append to nothing: the words in new memory. -/
theorem wp_clone {o : Oper} {a : Act} {W : World} {K : Act → World → Prop} {Q : Exit → Act → World → Prop} {v : Value} {n N : Nat} (s x : Operand)
    (ho : o.op = .call { callee := .builtin .append, args := #[s, x], argTypes := #[65, 65] }) (hot : o.type = 65)
    (hs : a.eval s = .slice none 0 0) (hx : a.eval x = v) (hr : Raw .u32 32 W v n N)
    (h : ∀ v' W2, Raw .u32 32 W2 v' n N → OwnS W2 W.heap.size 147 v' → Below W.heap.size W W2 → K (a.put o.dst v') W2) : o.wp Tryz.prog a W K Q := by
  obtain ⟨i0, hi, hz0, hz1, hz2⟩ := info_parts Tryz.info147
  obtain ⟨aa, ca, rfl, hcap, hN, hn, hc⟩ := hr
  by_cases h0 : 0 < n
  · obtain ⟨b, off, rfl, hb, -, hcc⟩ := hc h0
    have hcells : ∀ (j : Nat) (u : Value), (digs N n)[j]? = some u → W.cell? ((⟨b, off, none⟩ : Addr).add j) = some u := by
      intro j u hu
      by_cases hj : j < n
      · rw [digs_get hj] at hu
        simp only [Option.some.injEq] at hu
        rw [← hu, ← hcc j hj]
        unfold Addr.add
        by_cases hj0 : j = 0
        · subst hj0; simp
        · rw [if_neg hj0]
      · rw [List.getElem?_eq_none (by rw [digs_length]; omega)] at hu; simp at hu
    have hone : ∀ u ∈ digs N n, u.oneCell' = true := by
      intro u hu
      obtain ⟨i, -, rfl⟩ := List.mem_map.1 hu
      rfl
    refine wp_append_own _ s x 65 ho W.heap.size 147 i0 (.int .u32 0) 1 4 Tryz.underlying65 hi hz0 hz1 hz2 rfl (by decide) (.slice none 0 0) 0 [] hs (World.ownsRow_nil _ _ _ _) ⟨b, off, none⟩ n ca (digs N n) hx (by rw [digs_length]; simp) hcells hone (by unfold maxLen; omega) (by omega) (Nat.le_refl _) ?_
    intro v' W2 hown hgrow _
    rw [Nat.zero_add, List.nil_append] at hown
    exact h v' W2 (Raw.of_owns hown rfl (fun i hi => digs_get hi) hN (by omega)) (OwnS.of_owns hown) ((Below.refl _ _).grown hgrow (Nat.le_refl _) (fun k hk => by simp [Value.ownBlock] at hk))
  · obtain rfl : n = 0 := by omega
    have hz : N = 0 := by simp at hN; omega
    subst hz
    have happ : (Builtin.append_ #[65, 65] o.type #[.slice none 0 0, .slice aa 0 ca]).run Tryz.prog W = .ok (.slice none 0 0) W := by
      rw [hot]
      cases aa <;> simp [Builtin.append_, go_sem]
    exact wp_append_run s x 65 ho _ _ _ _ hs hx happ (h _ _ (Raw.nil .u32 32 W) ⟨none, 0, 0, rfl, fun a ha => by cases ha⟩ (Below.refl _ _))

set_option maxRecDepth 100000 in
set_option maxHeartbeats 600000 in
theorem rNeg_any (b o c p : Nat) (X : Int) (w : World) (hz : Spot w b o) (hx : IntK .u32 32 w c p X) :
    Calls Tryz.prog 56 #[.pointer (some ⟨b, o, none⟩), .pointer (some ⟨c, p, none⟩)] w (Puts .u32 32 b o (-X) w) := by
  obtain ⟨hxs, hx0, vx, hx1, hrx⟩ := hx
  have hcx := hxs.1
  have HRx := Lib.hid hrx
  obtain ⟨avx, cvx, rfl, -⟩ := hrx
  have HZ := Lib.hid hz
  have HF := Lib.hid (neg_fin X)
  generalize decide (X < 0) = sx at *
  generalize X.natAbs = ax at *
  clear hxs hz
  go_enter Tryz.func56, Tryz.ntmps56
  go_wp2_with fail
  refine wp_region_pl (fun w' : World => w'.cell? ⟨c, p, none⟩ = some (.bool sx) ∧ w'.cell? ⟨c, p + 1, none⟩ = some (.slice avx (ln 32 ax) cvx)) 11 (.take 0 (.take 1 (.take 2 (.take 3 (.take 4 (.take 5 (.take 6 (.take 7 (.take 8 (.take 9 (.run 10 .nil))))))))))) (by kernel_rfl) (by kernel_rfl) ?_
  have hS : (fun w' : World => w'.cell? ⟨c, p, none⟩ = some (.bool sx) ∧ w'.cell? ⟨c, p + 1, none⟩ = some (.slice avx (ln 32 ax) cvx)) w.drew := ⟨by go_simp, by go_simp⟩
  repeat (refine wpPl_takeL (v := ?_) rfl rfl (fun _ _ _ h => h) rfl (fun w' hSw => ?_) hS ?_; rotate_left; (focus (go_simp; with_reducible rfl)); simp only [setL])
  refine wpPl_goL rfl rfl fun K' hK => ?_
  refine wp_clone _ _ rfl rfl rfl rfl (HRx.out.below (drew_below w)) fun v1 w1 hr1 _ hb1 => ?_
  have HB := Lib.hid ((drew_below w).trans hb1)
  have HR1 := Lib.hid hr1
  have hS : (fun w' : World => w'.cell? ⟨c, p, none⟩ = some (.bool sx) ∧ w'.cell? ⟨c, p + 1, none⟩ = some (.slice avx (ln 32 ax) cvx)) w1 := ⟨(HB.out.cell (p := ⟨c, p, none⟩) hcx).trans hx0, (HB.out.cell (p := ⟨c, p + 1, none⟩) hcx).trans hx1⟩
  refine hK _ _ hS ?_
  clear hK K'
  obtain ⟨av, cv, rfl, -⟩ := hr1
  clear hb1
  try simp only [Act.put, setL]
  repeat (refine wpPl_takeL (v := ?_) rfl rfl (fun _ _ _ h => h) rfl (fun w' hSw => ?_) hS ?_; rotate_left; (focus (go_simp; with_reducible rfl)); simp only [setL])
  clear hS
  refine wpPl_nil ?_
  simp only [List.drop_succ_cons, List.drop_zero]
  go_wp2_with fail
  refine (rput_any b o _ _ _ _ _ (HZ.out.below HB.out) HR1.out).mono ?_
  rintro e w2 ⟨rfl, hi2, hm2⟩
  have HF2 := Lib.hid hi2
  have HM := Lib.hid ((Mod.of_below HB.out HZ.out.1).trans HZ.out.1 hm2)
  clear hi2 hm2
  go_wp2
  go_ret
  rw [← HF.out]
  exact ⟨rfl, HF2.out, HM.out⟩

theorem PutsB.fresh {b o B : Nat} {z : Int} {v : Value} {w w' : World} {e : Ending} (h : PutsB b o z v w e w') (hf : FrS B v) : ∀ a n c, w'.cell? ⟨b, o + 1, none⟩ = some (.slice (some a) n c) → B ≤ a.block := by
  intro a n c hc
  obtain ⟨-, ao, m, n', c', rfl, h2⟩ := h
  rw [hc] at h2
  simp only [Option.some.injEq, Value.slice.injEq] at h2
  exact hf a m c' (by rw [← h2.1])

set_option maxRecDepth 100000 in
set_option maxHeartbeats 600000 in
theorem rLsh_any (b o c p n : Nat) (X : Int) (w : World) (hz : Spot w b o) (hx : IntK .u32 32 w c p X) (hl : ln 32 X.natAbs ≤ 68719476736) (hn : n ≤ 1099511627776) :
    Calls Tryz.prog 99 #[.pointer (some ⟨b, o, none⟩), .pointer (some ⟨c, p, none⟩), .int .u64 n] w (Puts .u32 32 b o (X * 2 ^ n) w) := by
  obtain ⟨hxs, hx0, vx, hx1, hrx⟩ := hx
  have hcx := hxs.1
  have HRx := Lib.hid hrx
  have HZ := Lib.hid hz
  have HF := Lib.hid (lsh_fin X n)
  generalize decide (X < 0) = sx at *
  generalize X.natAbs = ax at *
  clear hrx hxs hz
  go_enter Tryz.func99, Tryz.ntmps99
  go_wp2_with fail
  refine wp_region_pl (fun w' : World => w'.cell? ⟨c, p, none⟩ = some (.bool sx) ∧ w'.cell? ⟨c, p + 1, none⟩ = some vx) 11 (.take 0 (.take 1 (.take 2 (.take 3 (.take 4 (.take 5 (.take 6 (.take 7 (.take 8 (.take 9 (.run 10 .nil))))))))))) (by kernel_rfl) (by kernel_rfl) ?_
  have hS : (fun w' : World => w'.cell? ⟨c, p, none⟩ = some (.bool sx) ∧ w'.cell? ⟨c, p + 1, none⟩ = some vx) w.drew := ⟨by go_simp, by go_simp⟩
  repeat (refine wpPl_takeL (v := ?_) rfl rfl (fun _ _ _ h => h) rfl (fun w' hSw => ?_) hS ?_; rotate_left; (focus (go_simp; with_reducible rfl)); simp only [setL])
  refine wpPl_goL rfl rfl fun K' hK => ?_
  go_simp
  refine (rleft_any _ ax n _ _ (HRx.out.below (drew_below w)) hn hl).mono ?_
  rintro e w1 ⟨v1, rfl, hb1, hr1⟩
  have HB := Lib.hid ((drew_below w).trans hb1)
  have HR1 := Lib.hid hr1
  have hS : (fun w' : World => w'.cell? ⟨c, p, none⟩ = some (.bool sx) ∧ w'.cell? ⟨c, p + 1, none⟩ = some vx) w1 := ⟨(HB.out.cell (p := ⟨c, p, none⟩) hcx).trans hx0, (HB.out.cell (p := ⟨c, p + 1, none⟩) hcx).trans hx1⟩
  refine hK _ _ hS ?_
  clear hK K'
  clear hb1 hr1
  try simp only [Act.put, setL]
  repeat (refine wpPl_takeL (v := ?_) rfl rfl (fun _ _ _ h => h) rfl (fun w' hSw => ?_) hS ?_; rotate_left; (focus (go_simp; with_reducible rfl)); simp only [setL])
  clear hS
  refine wpPl_nil ?_
  simp only [List.drop_succ_cons, List.drop_zero]
  go_wp2_with fail
  refine (rput_any b o _ _ _ _ _ (HZ.out.below HB.out) HR1.out).mono ?_
  rintro e w2 ⟨rfl, hi2, hm2⟩
  have HF2 := Lib.hid hi2
  have HM := Lib.hid ((Mod.of_below HB.out HZ.out.1).trans HZ.out.1 hm2)
  clear hi2 hm2
  go_wp2
  go_ret
  rw [← HF.out]
  exact ⟨rfl, HF2.out, HM.out⟩

set_option maxRecDepth 100000 in
set_option maxHeartbeats 600000 in
theorem rMul_any (b o c p d q : Nat) (X Y : Int) (w : World) (hz : Spot w b o) (hx : IntK .u32 32 w c p X) (hy : IntK .u32 32 w d q Y) (hl : ln 32 X.natAbs ≤ 68719476736) (hk : ln 32 Y.natAbs ≤ 68719476736) :
    Calls Tryz.prog 57 #[.pointer (some ⟨b, o, none⟩), .pointer (some ⟨c, p, none⟩), .pointer (some ⟨d, q, none⟩)] w (Puts .u32 32 b o (X * Y) w) := by
  obtain ⟨hxs, hx0, vx, hx1, hrx⟩ := hx
  have hcx := hxs.1
  have HRx := Lib.hid hrx
  obtain ⟨hys, hy0, vy, hy1, hry⟩ := hy
  have hcy := hys.1
  have HRy := Lib.hid hry
  have HZ := Lib.hid hz
  have HF := Lib.hid (mul_fin X Y)
  generalize decide (X < 0) = sx at *
  generalize decide (Y < 0) = sy at *
  generalize X.natAbs = ax at *
  generalize Y.natAbs = ay at *
  clear hrx hxs hz hry hys
  go_enter Tryz.func57, Tryz.ntmps57
  go_wp2_with fail
  refine wp_region_pl (fun w' : World => ((w'.cell? ⟨c, p, none⟩ = some (.bool sx) ∧ w'.cell? ⟨c, p + 1, none⟩ = some vx) ∧ w'.cell? ⟨d, q, none⟩ = some (.bool sy)) ∧ w'.cell? ⟨d, q + 1, none⟩ = some vy) 19 (.take 0 (.take 1 (.take 2 (.take 3 (.take 4 (.take 5 (.take 6 (.take 7 (.take 8 (.take 9 (.take 10 (.take 11 (.take 12 (.take 13 (.take 14 (.take 15 (.take 16 (.take 17 (.run 18 .nil))))))))))))))))))) (by kernel_rfl) (by kernel_rfl) ?_
  have hS : (fun w' : World => ((w'.cell? ⟨c, p, none⟩ = some (.bool sx) ∧ w'.cell? ⟨c, p + 1, none⟩ = some vx) ∧ w'.cell? ⟨d, q, none⟩ = some (.bool sy)) ∧ w'.cell? ⟨d, q + 1, none⟩ = some vy) w.drew := ⟨⟨⟨by go_simp, by go_simp⟩, by go_simp⟩, by go_simp⟩
  repeat (refine wpPl_takeL (v := ?_) rfl rfl (fun _ _ _ h => h) rfl (fun w' hSw => ?_) hS ?_; rotate_left; (focus (go_simp; with_reducible rfl)); simp only [setL])
  refine wpPl_goL rfl rfl fun K' hK => ?_
  go_simp
  refine (rtimes_any _ _ _ _ ax ay _ (HRx.out.below (drew_below w)) (HRy.out.below (drew_below w)) (by omega)).mono ?_
  rintro e w1 ⟨v1, rfl, hb1, hr1⟩
  have HB := Lib.hid ((drew_below w).trans hb1)
  have HR1 := Lib.hid hr1
  have hS : (fun w' : World => ((w'.cell? ⟨c, p, none⟩ = some (.bool sx) ∧ w'.cell? ⟨c, p + 1, none⟩ = some vx) ∧ w'.cell? ⟨d, q, none⟩ = some (.bool sy)) ∧ w'.cell? ⟨d, q + 1, none⟩ = some vy) w1 := ⟨⟨⟨(HB.out.cell (p := ⟨c, p, none⟩) hcx).trans hx0, (HB.out.cell (p := ⟨c, p + 1, none⟩) hcx).trans hx1⟩, (HB.out.cell (p := ⟨d, q, none⟩) hcy).trans hy0⟩, (HB.out.cell (p := ⟨d, q + 1, none⟩) hcy).trans hy1⟩
  refine hK _ _ hS ?_
  clear hK K'
  clear hb1 hr1
  try simp only [Act.put, setL]
  repeat (refine wpPl_takeL (v := ?_) rfl rfl (fun _ _ _ h => h) rfl (fun w' hSw => ?_) hS ?_; rotate_left; (focus (go_simp; with_reducible rfl)); simp only [setL])
  clear hS
  refine wpPl_nil ?_
  simp only [List.drop_succ_cons, List.drop_zero]
  go_wp2_with fail
  refine (rput_any b o _ _ _ _ _ (HZ.out.below HB.out) HR1.out).mono ?_
  rintro e w2 ⟨rfl, hi2, hm2⟩
  have HF2 := Lib.hid hi2
  have HM := Lib.hid ((Mod.of_below HB.out HZ.out.1).trans HZ.out.1 hm2)
  clear hi2 hm2
  go_wp2
  go_ret
  rw [← HF.out]
  exact ⟨rfl, HF2.out, HM.out⟩

theorem turn_fin (Y : Int) (turn : Bool) : (if (decide (Y < 0) != turn) then -(Y.natAbs : Int) else Y.natAbs) = if turn then -Y else Y := by
  by_cases h : Y < 0 <;> cases turn <;> simp [h] <;> omega

set_option maxRecDepth 100000 in
set_option maxHeartbeats 1000000 in
theorem rsum_any (b o c p d q : Nat) (turn : Bool) (X Y : Int) (w : World) (hz : Spot w b o) (hx : IntK .u32 32 w c p X) (hy : IntK .u32 32 w d q Y) (hl : ln 32 X.natAbs ≤ 68719476736) (hk : ln 32 Y.natAbs ≤ 68719476736) :
    Calls Tryz.prog 98 #[.pointer (some ⟨b, o, none⟩), .pointer (some ⟨c, p, none⟩), .pointer (some ⟨d, q, none⟩), .bool turn] w (Puts .u32 32 b o (X + if turn then -Y else Y) w) := by
  obtain ⟨hxs, hx0, vx, hx1, hrx⟩ := hx
  have hcx := hxs.1
  have HRx := Lib.hid hrx
  obtain ⟨hys, hy0, vy, hy1, hry⟩ := hy
  have hcy := hys.1
  have HRy := Lib.hid hry
  have HZ := Lib.hid hz
  have ht := turn_fin Y turn
  obtain ⟨f1, f2⟩ := plus_fin X Y.natAbs (decide (Y < 0) != turn)
  rw [ht] at f1 f2
  generalize X + (if turn then -Y else Y) = R at *
  generalize decide (X < 0) = sx at *
  generalize X.natAbs = ax at *
  clear ht
  generalize hneg : (decide (Y < 0) != turn) = neg at f1 f2
  generalize decide (Y < 0) = sy at *
  generalize Y.natAbs = ay at *
  have hneg2 : (!(sy == turn)) = neg := hneg
  clear hrx hxs hz hry hys hneg
  go_enter Tryz.func98, Tryz.ntmps98
  by_cases hs : sx = neg
  · have HF := Lib.hid (f1 hs)
    have hb : (sx == neg) = true := by subst hs; simp
    clear f1 f2 hs
    go_wp2_with fail
    refine wp_region_pl (fun w' : World => w'.cell? ⟨c, p + 1, none⟩ = some vx ∧ w'.cell? ⟨d, q + 1, none⟩ = some vy) 11 (.take 0 (.take 1 (.take 2 (.take 3 (.take 4 (.take 5 (.take 6 (.take 7 (.take 8 (.take 9 (.run 10 .nil))))))))))) (by kernel_rfl) (by kernel_rfl) ?_
    have hS : (fun w' : World => w'.cell? ⟨c, p + 1, none⟩ = some vx ∧ w'.cell? ⟨d, q + 1, none⟩ = some vy) w.drew := ⟨((drew_below w).cell (p := ⟨c, p + 1, none⟩) hcx).trans hx1, ((drew_below w).cell (p := ⟨d, q + 1, none⟩) hcy).trans hy1⟩
    repeat (refine wpPl_takeL (v := ?_) rfl rfl (fun _ _ _ h => h) rfl (fun w' hSw => ?_) hS ?_; rotate_left; (focus (go_simp; with_reducible rfl)); simp only [setL])
    refine wpPl_goL rfl rfl fun K' hK => ?_
    go_simp
    refine (rplus_any _ _ _ _ ax ay _ (HRx.out.below (drew_below w)) (HRy.out.below (drew_below w)) ⟨by omega, by omega⟩).mono ?_
    rintro e w1 ⟨v1, rfl, hb1, hr1⟩
    have HB1 := Lib.hid ((drew_below w).trans hb1)
    have HR1 := Lib.hid hr1
    have hS : (fun w' : World => w'.cell? ⟨c, p + 1, none⟩ = some vx ∧ w'.cell? ⟨d, q + 1, none⟩ = some vy) w1 := ⟨(HB1.out.cell (p := ⟨c, p + 1, none⟩) hcx).trans hx1, (HB1.out.cell (p := ⟨d, q + 1, none⟩) hcy).trans hy1⟩
    refine hK _ _ hS ?_
    clear hK K'
    clear hb1 hr1
    try simp only [Act.put, setL]
    repeat (refine wpPl_takeL (v := ?_) rfl rfl (fun _ _ _ h => h) rfl (fun w' hSw => ?_) hS ?_; rotate_left; (focus (go_simp; with_reducible rfl)); simp only [setL])
    clear hS
    refine wpPl_nil ?_
    simp only [List.drop_succ_cons, List.drop_zero]
    go_wp2_with fail
    refine (rput_any b o _ _ neg _ _ (HZ.out.below HB1.out) HR1.out).mono ?_
    rintro e w2 ⟨rfl, hi2, hm2⟩
    have HF2 := Lib.hid hi2
    have HM := Lib.hid ((Mod.of_below HB1.out HZ.out.1).trans HZ.out.1 hm2)
    clear hi2 hm2
    go_wp2
    go_ret
    rw [← HF.out]
    exact ⟨rfl, HF2.out, HM.out⟩
  · obtain ⟨g2, g3⟩ := f2 (by revert hs; cases sx <;> cases neg <;> simp)
    have hb : (sx == neg) = false := by revert hs; cases sx <;> cases neg <;> simp
    clear f1 f2 hs
    go_wp2_with fail
    refine wp_region_pl (fun w' : World => w'.cell? ⟨c, p + 1, none⟩ = some vx ∧ w'.cell? ⟨d, q + 1, none⟩ = some vy) 8 (.take 0 (.take 1 (.take 2 (.take 3 (.take 4 (.take 5 (.take 6 (.take 7 .nil)))))))) (by kernel_rfl) (by kernel_rfl) ?_
    have hS : (fun w' : World => w'.cell? ⟨c, p + 1, none⟩ = some vx ∧ w'.cell? ⟨d, q + 1, none⟩ = some vy) w.drew := ⟨((drew_below w).cell (p := ⟨c, p + 1, none⟩) hcx).trans hx1, ((drew_below w).cell (p := ⟨d, q + 1, none⟩) hcy).trans hy1⟩
    repeat (refine wpPl_takeL (v := ?_) rfl rfl (fun _ _ _ h => h) rfl (fun w' hSw => ?_) hS ?_; rotate_left; (focus (go_simp; with_reducible rfl)); simp only [setL])
    clear hS
    refine wpPl_nil ?_
    simp only [List.drop_succ_cons, List.drop_zero]
    by_cases hge : ay ≤ ax
    · have HF := Lib.hid (g2 hge)
      have HGE := Lib.hid hge
      have hcmp : decide (cmpZ ax ay < 0) = false := by
        rw [decide_eq_false_iff_not]; unfold cmpZ; rw [if_neg (by omega)]; split <;> omega
      have hcmp2 : (0 : Int) ≤ cmpZ ax ay := by simpa using hcmp
      clear g2 g3 hge hcmp
      generalize hcz : cmpZ (ax : Int) ay = cz at hcmp2
      have HCZ := Lib.hid hcz
      clear hcz
      go_wp2_with fail
      refine (rcompare_any _ _ ax ay _ (HRx.out.below (drew_below w)) (HRy.out.below (drew_below w))).mono ?_
      rintro e wd ⟨rfl, nd, rfl⟩
      rw [HCZ.out]
      have HB : Hid (Below w.heap.size w (w.drew.drewN nd)) := Lib.hid ⟨rfl, rfl, rfl, Nat.le_refl _, fun _ _ => rfl⟩
      generalize w.drew.drewN nd = W at HB ⊢
      have hx0' : W.cell? ⟨c, p, none⟩ = some (.bool sx) := (HB.out.cell (p := ⟨c, p, none⟩) hcx).trans hx0
      go_wp2_with fail
      refine wp_region_pl (fun w' : World => (w'.cell? ⟨c, p, none⟩ = some (.bool sx) ∧ w'.cell? ⟨c, p + 1, none⟩ = some vx) ∧ w'.cell? ⟨d, q + 1, none⟩ = some vy) 14 (.take 0 (.take 1 (.take 2 (.take 3 (.take 4 (.take 5 (.take 6 (.take 7 (.take 8 (.take 9 (.take 10 (.take 11 (.take 12 (.run 13 .nil)))))))))))))) (by kernel_rfl) (by kernel_rfl) ?_
      have hS : (fun w' : World => (w'.cell? ⟨c, p, none⟩ = some (.bool sx) ∧ w'.cell? ⟨c, p + 1, none⟩ = some vx) ∧ w'.cell? ⟨d, q + 1, none⟩ = some vy) W.drew := ⟨⟨(HB.out.cell (p := ⟨c, p, none⟩) hcx).trans hx0, (HB.out.cell (p := ⟨c, p + 1, none⟩) hcx).trans hx1⟩, (HB.out.cell (p := ⟨d, q + 1, none⟩) hcy).trans hy1⟩
      repeat (refine wpPl_takeL (v := ?_) rfl rfl (fun _ _ _ h => h) rfl (fun w' hSw => ?_) hS ?_; rotate_left; (focus (go_simp; with_reducible rfl)); simp only [setL])
      refine wpPl_goL rfl rfl fun K' hK => ?_
      go_simp
      refine (rminus_any _ _ _ _ ax ay _ (HRx.out.below HB.out.drew) (HRy.out.below HB.out.drew) (by omega) HGE.out).mono ?_
      rintro e w1 ⟨v1, rfl, hb1, hr1⟩
      have HB1 := Lib.hid (HB.out.drew.trans (hb1.mono HB.out.size))
      have HR1 := Lib.hid hr1
      have hS : (fun w' : World => (w'.cell? ⟨c, p, none⟩ = some (.bool sx) ∧ w'.cell? ⟨c, p + 1, none⟩ = some vx) ∧ w'.cell? ⟨d, q + 1, none⟩ = some vy) w1 := ⟨⟨(HB1.out.cell (p := ⟨c, p, none⟩) hcx).trans hx0, (HB1.out.cell (p := ⟨c, p + 1, none⟩) hcx).trans hx1⟩, (HB1.out.cell (p := ⟨d, q + 1, none⟩) hcy).trans hy1⟩
      refine hK _ _ hS ?_
      clear hK K'
      clear hb1 hr1
      try simp only [Act.put, setL]
      repeat (refine wpPl_takeL (v := ?_) rfl rfl (fun _ _ _ h => h) rfl (fun w' hSw => ?_) hS ?_; rotate_left; (focus (go_simp; with_reducible rfl)); simp only [setL])
      clear hS
      refine wpPl_nil ?_
      simp only [List.drop_succ_cons, List.drop_zero]
      go_wp2_with fail
      refine (rput_any b o _ _ sx _ _ (HZ.out.below HB1.out) HR1.out).mono ?_
      rintro e w2 ⟨rfl, hi2, hm2⟩
      have HF2 := Lib.hid hi2
      have HM := Lib.hid ((Mod.of_below HB1.out HZ.out.1).trans HZ.out.1 hm2)
      clear hi2 hm2
      go_wp2
      go_ret
      rw [← HF.out]
      exact ⟨rfl, HF2.out, HM.out⟩
    · have HF := Lib.hid (g3 (by omega))
      have HLE : Hid (ax ≤ ay) := Lib.hid (by omega)
      have hcmp2 : cmpZ ax ay < 0 := by unfold cmpZ; rw [if_pos (by omega)]; decide
      clear g2 g3 hge
      generalize hcz : cmpZ (ax : Int) ay = cz at hcmp2
      have HCZ := Lib.hid hcz
      clear hcz
      go_wp2_with fail
      refine (rcompare_any _ _ ax ay _ (HRx.out.below (drew_below w)) (HRy.out.below (drew_below w))).mono ?_
      rintro e wd ⟨rfl, nd, rfl⟩
      rw [HCZ.out]
      have HB : Hid (Below w.heap.size w (w.drew.drewN nd)) := Lib.hid ⟨rfl, rfl, rfl, Nat.le_refl _, fun _ _ => rfl⟩
      generalize w.drew.drewN nd = W at HB ⊢
      go_wp2_with fail
      refine wp_region_pl (fun w' : World => w'.cell? ⟨c, p + 1, none⟩ = some vx ∧ w'.cell? ⟨d, q + 1, none⟩ = some vy) 11 (.take 0 (.take 1 (.take 2 (.take 3 (.take 4 (.take 5 (.take 6 (.take 7 (.take 8 (.take 9 (.run 10 .nil))))))))))) (by kernel_rfl) (by kernel_rfl) ?_
      have hS : (fun w' : World => w'.cell? ⟨c, p + 1, none⟩ = some vx ∧ w'.cell? ⟨d, q + 1, none⟩ = some vy) W.drew := ⟨(HB.out.cell (p := ⟨c, p + 1, none⟩) hcx).trans hx1, (HB.out.cell (p := ⟨d, q + 1, none⟩) hcy).trans hy1⟩
      repeat (refine wpPl_takeL (v := ?_) rfl rfl (fun _ _ _ h => h) rfl (fun w' hSw => ?_) hS ?_; rotate_left; (focus (go_simp; with_reducible rfl)); simp only [setL])
      refine wpPl_goL rfl rfl fun K' hK => ?_
      go_simp
      refine (rminus_any _ _ _ _ ay ax _ (HRy.out.below HB.out.drew) (HRx.out.below HB.out.drew) (by omega) HLE.out).mono ?_
      rintro e w1 ⟨v1, rfl, hb1, hr1⟩
      have HB1 := Lib.hid (HB.out.drew.trans (hb1.mono HB.out.size))
      have HR1 := Lib.hid hr1
      have hS : (fun w' : World => w'.cell? ⟨c, p + 1, none⟩ = some vx ∧ w'.cell? ⟨d, q + 1, none⟩ = some vy) w1 := ⟨(HB1.out.cell (p := ⟨c, p + 1, none⟩) hcx).trans hx1, (HB1.out.cell (p := ⟨d, q + 1, none⟩) hcy).trans hy1⟩
      refine hK _ _ hS ?_
      clear hK K'
      clear hb1 hr1
      try simp only [Act.put, setL]
      repeat (refine wpPl_takeL (v := ?_) rfl rfl (fun _ _ _ h => h) rfl (fun w' hSw => ?_) hS ?_; rotate_left; (focus (go_simp; with_reducible rfl)); simp only [setL])
      clear hS
      refine wpPl_nil ?_
      simp only [List.drop_succ_cons, List.drop_zero]
      go_wp2_with fail
      refine (rput_any b o _ _ neg _ _ (HZ.out.below HB1.out) HR1.out).mono ?_
      rintro e w2 ⟨rfl, hi2, hm2⟩
      have HF2 := Lib.hid hi2
      have HM := Lib.hid ((Mod.of_below HB1.out HZ.out.1).trans HZ.out.1 hm2)
      clear hi2 hm2
      go_wp2
      go_ret
      rw [← HF.out]
      exact ⟨rfl, HF2.out, HM.out⟩

set_option maxRecDepth 100000 in
set_option maxHeartbeats 600000 in
theorem rAdd_any (b o c p d q : Nat) (X Y : Int) (w : World) (hz : Spot w b o) (hx : IntK .u32 32 w c p X) (hy : IntK .u32 32 w d q Y) (hl : ln 32 X.natAbs ≤ 68719476736) (hk : ln 32 Y.natAbs ≤ 68719476736) :
    Calls Tryz.prog 52 #[.pointer (some ⟨b, o, none⟩), .pointer (some ⟨c, p, none⟩), .pointer (some ⟨d, q, none⟩)] w (Puts .u32 32 b o (X + Y) w) := by
  have HS := Lib.hid (rsum_any b o c p d q false X Y w hz hx hy hl hk)
  clear hz hx hy
  go_enter Tryz.func52, Tryz.ntmps52
  go_wp2_with fail
  refine HS.out.mono ?_
  rintro e w2 ⟨rfl, hi2, hm2⟩
  have HF2 := Lib.hid hi2
  have HM := Lib.hid hm2
  clear hi2 hm2
  go_wp2
  go_ret
  exact ⟨rfl, HF2.out, HM.out⟩

end Go.Proofs.YtloohbkceppocaaGreatDoor
