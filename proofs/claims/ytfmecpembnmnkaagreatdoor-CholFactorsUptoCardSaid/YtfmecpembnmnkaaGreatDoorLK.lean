/- Walk: the references' LDL. Printed by wip/gen/ch24.py. -/
import Derived.Test.YtfmecpembnmnkaaGreatDoorLJ
import Derived.Test.YtfmecpembnmnkaaGreatDoorLD
import Derived.Test.YtfmecpembnmnkaaGreatDoorLH
import Derived.Test.YtfmecpembnmnkaaGreatDoorLI
namespace Go.Proofs.YtfmecpembnmnkaaGreatDoor
section
open Go.RowKit
attribute [local go_sem] run_store_f
structure LqR (w0 W : World) (sb g ob n N : Nat) (lv : Value) (f : Bool) (vs : Nat → Nat) (pv : Value) (j : Nat) (H : Nat → Fo) (hs : Nat → Nat) : Prop where
 c : CqR w0 W sb g ob n N lv f vs
 o : OwF W (sb + 1) pv j hs
 p : RepF j H hs
 lt : g < sb ∧ ob < sb
section
variable {w0 W V : World} {sb g ob n N j : Nat} {lv pv : Value} {f f' : Bool} {vs vs' hs : Nat → Nat} {H : Nat → Fo}
theorem LqR.later (h : LqR w0 W sb g ob n N lv f vs pv j H hs) (hb : Below W.heap.size W V) : LqR w0 V sb g ob n N lv f vs pv j H hs := ⟨h.c.later hb, h.o.later hb, h.p, h.lt⟩
theorem LqR.step (h : LqR w0 W sb g ob n N lv f vs pv j H hs) (hu : Upd sb W V) (hs2 : BlkT V sb 109 #[.bool f']) : LqR w0 V sb g ob n N lv f' vs pv j H hs := ⟨h.c.step hu hs2, h.o.upd hu (by omega), h.p, h.lt⟩
theorem LqR.put (h : LqR w0 W sb g ob n N lv f vs pv j H hs) (hu : Upd g W V) (hg : FMs V g N vs') : LqR w0 V sb g ob n N lv f vs' pv j H hs := ⟨h.c.put hu hg, h.o.upd hu (by have := h.lt; omega), h.p, h.lt⟩
theorem LqR.rd (h : LqR w0 W sb g ob n N lv f vs pv j H hs) : W.cell? ⟨ob, 0, none⟩ = some (.int .i64 n) ∧ W.cell? ⟨ob, 1, none⟩ = some (.int .i64 n) ∧ W.cell? ⟨ob, 2, none⟩ = some (.slice (some ⟨g, 0, none⟩) N N) := h.c.r.rd.1
theorem LqR.rd2 {q gg cap : Nat} (h : LqR w0 W sb g ob n N lv f vs (.slice (some ⟨gg, 0, none⟩) j cap) j H hs) (hq : q < j) : (W.cell? ⟨ob, 0, none⟩ = some (.int .i64 n) ∧ W.cell? ⟨ob, 1, none⟩ = some (.int .i64 n) ∧ W.cell? ⟨ob, 2, none⟩ = some (.slice (some ⟨g, 0, none⟩) N N)) ∧ W.cell? ⟨gg, q, none⟩ = some (.float .f64 (hs q)) := by
 obtain ⟨g2, e, h1, -⟩ := h.o.cell hq
 cases e
 exact ⟨h.rd, h1⟩
end
theorem LqR.grown {w0 W V U : World} {sb g ob n N j z : Nat} {lv pv v' : Value} {f : Bool} {vs hs : Nat → Nat} {H : Nat → Fo} {d : Fo} (h : LqR w0 W sb g ob n N lv f vs pv j H hs) (hb : Below W.heap.size W V) (hg : V.grownBy U pv.ownBlock)
  (ho : U.ownsRow (sb + 1) 35 1 v' (j + 1) (((List.range j).map fun i => Value.float .f64 (hs i)) ++ [.float .f64 z])) (hd : Rep d z) : LqR w0 U sb g ob n N lv f vs v' (j + 1) (updF H j d) (updF hs j z) := by
 have h2 := h.later hb
 have hlt := h.lt
 have hx := h2.o.lt
 have hr : ∀ k, k < sb + 1 → k < V.heap.size → U.heap[k]? = V.heap[k]? := fun k h1 h3 => hg.block k h3 fun e => by have := (hx k e.symm).1; omega
 have hsl := h2.c.s.lt
 have hB : Below (sb + 1) V U := ⟨hg.os, hg.tape, hg.output, hg.size, fun k hk => hr k hk (by omega)⟩
 have hne := h2.c.ne
 refine ⟨⟨⟨h2.c.r.B.of_mod hB (by omega), h2.c.r.gm.of_block (hB.block g (by omega)), (hB.block ob (by omega)).trans h2.c.r.om, h2.c.r.ne⟩, (hB.block sb (by omega)).trans h2.c.s, hne⟩, OwF.push ho, fun i hi => ?_, hlt⟩
 by_cases e : i = j
 ·subst e; rw [updF_self, updF_self]; exact hd
 ·rw [updF_ne e, updF_ne e]; exact h2.p i (by omega)
theorem LqR.done {w0 W : World} {sb g ob n : Nat} {lv pv : Value} {f : Bool} {vs hs : Nat → Nat} {L : Nat → Nat → Fo} {H : Nat → Fo} (h : LqR w0 W sb g ob n (n * n) lv f vs pv n H hs) (hl : LowR n L vs) (hf : ∀ i j, finO (L i j) = true) (hd : ∀ i, finO (H i) = true) (hn : n ≤ 12) :
  LdA 0 0 n (matL n L) (lstO n H) w0 (.returned (.tuple #[MatV n n (.slice (some ⟨g, 0, none⟩) (n * n) (n * n)), pv, .int .i64 0, .int .i64 0])) (((W.setCell ⟨w0.heap.size + 1, 0, none⟩ (.int .i64 n)).setCell ⟨w0.heap.size + 1, 1, none⟩ (.int .i64 n)).setCell ⟨w0.heap.size + 1, 2, none⟩ (.slice (some ⟨g, 0, none⟩) (n * n) (n * n))) := by
 have hne := h.c.r.ne
 have hlt := h.lt
 have hg : FMs (((W.setCell ⟨w0.heap.size + 1, 0, none⟩ (.int .i64 n)).setCell ⟨w0.heap.size + 1, 1, none⟩ (.int .i64 n)).setCell ⟨w0.heap.size + 1, 2, none⟩ (.slice (some ⟨g, 0, none⟩) (n * n) (n * n))) g (n * n) vs :=
  ((h.c.r.gm.upd (Upd.set (b := w0.heap.size + 1) _) (by omega)).upd (Upd.set (b := w0.heap.size + 1) _) (by omega)).upd (Upd.set (b := w0.heap.size + 1) _) (by omega)
 have ho : OwF (((W.setCell ⟨w0.heap.size + 1, 0, none⟩ (.int .i64 n)).setCell ⟨w0.heap.size + 1, 1, none⟩ (.int .i64 n)).setCell ⟨w0.heap.size + 1, 2, none⟩ (.slice (some ⟨g, 0, none⟩) (n * n) (n * n))) (sb + 1) pv n hs :=
  ((h.o.upd (Upd.set (b := w0.heap.size + 1) _) (by omega)).upd (Upd.set (b := w0.heap.size + 1) _) (by omega)).upd (Upd.set (b := w0.heap.size + 1) _) (by omega)
 refine ⟨_, _, rfl, hg.matF hl hf hn, ?_, (by intro a c d e; cases e; show w0.heap.size ≤ g; omega), (fun a c d e => by have := h.o.new a c d e; omega), below_three h.c.r.B.b _ (Nat.le_succ _) _ _ _⟩
 rw [← ldl_lst h.p hd]
 exact ho.fsl (by omega) fun i hi => (h.p i hi).lt
set_option maxRecDepth 100000 in
set_option maxHeartbeats 6400000 in
theorem rldl_any (r c : Int) (sl : Value) (l : List Nat) (w : World) (hl : FSl w sl l) :
  Calls Tryz.prog 19 #[MatV r c sl] w (LdA (ldlE r c l) (ldlP r c l) (ldlN r c l) (ldlL r c l) (ldlD r c l) w) := by
 obtain ⟨i0, hi, hz0, hz1, hz2⟩ := info_parts Tryz.info35
 have HB := Lib.hid (ChB.new w r c sl)
 have HSQ := Lib.hid (rsymm_any r c sl l _ (hl.below (below2 w (.cells #[.int .i64 r, .int .i64 c, sl] 25) (.cells #[.int .i64 0, .int .i64 0, .slice none 0 0] 25))))
 by_cases h0 : sqrB r c l = 0
 ·obtain ⟨n, rfl, rfl, hq, -⟩ := sqr_zero h0
  have HEND := Lib.hid (fun er pl he => ldl_end h0 er pl he)
  rw [h0] at HSQ
  have HFIT := Lib.hid ((ldW_fit w).all (a := atO n l) (fun i j => atO_rep hl.elem_lt hq.fin i j) n)
  have hn := hq.hn
  have HAT := Lib.hid (atG_of hl hq.len rAt_any)
  have HRA := Lib.hid fun (i j : Nat) (hi : i < n) (hj : j < n) => (show Rep (atO n l i j) (atN n l i j) from ⟨hl.at_lt hq hi hj, rfl⟩)
  have HZ := Lib.hid fun W => rzero_any n n hn hn W
  have hnn : n * n ≤ 144 := Nat.mul_le_mul hn hn
  clear h0 hq hl
  generalize ldlE n n l = E at *
  generalize ldlP n n l = P at *
  generalize ldlN n n l = Nn at *
  generalize ldlL n n l = R at *
  generalize ldlD n n l = D at *
  have HFM := Lib.hid fun (g i j : Nat) (vs : Nat → Nat) (M : Nat → Nat → Fo) W (hg : FMs W g (n * n) vs) (hM : LowR n M vs) (hi : i < n) (hj : j < n) => fm_at hn hg hM hi hj
  obtain ⟨N, hN⟩ : ∃ N, n * n = N := ⟨_, rfl⟩
  rw [hN] at HZ HFM hnn
  have HN := Lib.hid hN
  clear hN
  obtain ⟨⟨m0, m1, m2⟩, ⟨q0, q1, q2⟩, f0, f1, f2⟩ := HB.out.cells
  go_enter Tryz.func19, Tryz.ntmps19
  go_wp2_with fail
  refine HSQ.out.mono ?_
  rintro e1 w1 ⟨rfl, hb1⟩
  replace HB := Lib.hid (HB.out.later hb1)
  clear hb1 m0 m1 m2 q0 q1 q2 f0 f1 f2 HSQ
  obtain ⟨⟨m0, m1, m2⟩, ⟨q0, q1, q2⟩, f0, f1, f2⟩ := HB.out.cells
  go_wp2_with fail
  refine (HZ.out _).mono ?_
  rintro e2 w2 ⟨g, rfl, hg, hgl, hb2⟩
  have HGL : Hid (w.heap.size + 1 < g) := Lib.hid (by have := HB.out.q.lt; omega)
  replace HB := Lib.hid (HB.out.later hb2)
  have HG := Lib.hid hg
  clear hb2 hg hgl m0 m1 m2 q0 q1 q2 f0 f1 f2 HZ
  go_upto_region 6 with fail
  have HM0 : Hid (MrR w (w2.alloc (.cells #[.int .i64 n, .int .i64 n, .slice (some ⟨g, 0, none⟩) N N] 25)) g w2.heap.size n N sl (fun _ => 0)) := Lib.hid ⟨HB.out.later (Below.alloc_self w2 _), HG.out.below (Below.alloc_self w2 _), BlkT.new w2 _ _, HGL.out, HG.out.lt⟩
  obtain ⟨ob, hob⟩ : ∃ b, w2.heap.size = b := ⟨_, rfl⟩
  rw [hob] at HM0 ⊢
  generalize World.alloc w2 _ = W2 at *
  clear hob HB HG HGL
  go_upto_region 8 with fail
  have HLT0 : Hid (g < W2.heap.size ∧ ob < W2.heap.size) := Lib.hid ⟨HM0.out.gm.lt, HM0.out.om.lt⟩
  have HC0 := Lib.hid (CqR.start HM0.out)
  obtain ⟨sb, hsb⟩ : ∃ b, W2.heap.size = b := ⟨_, rfl⟩
  rw [hsb] at HC0 HLT0 ⊢
  generalize World.alloc W2 _ = W3 at *
  clear hsb HM0
  have HD0 : Hid (LqR w W3 sb g ob n N sl false (fun _ => 0) (.slice none 0 0) 0 (ldW.all (atO n l) n 0).H (fun _ => 0)) := Lib.hid ⟨HC0.out, OwF.nil _ _ _, fun i h => absurd h (Nat.not_lt_zero i), HLT0.out⟩
  clear HC0 HLT0
  have HL0 : Hid (LowR n (dgL (ldW.all (atO n l) n 0).L (fun _ => oneO) 0) (fun _ => 0)) := Lib.hid (by rw [dgL_zero]; exact LowR.zero n)
  have HE0 : Hid ((ldW.all (atO n l) n 0).e = 0 ∧ (ldW.all (atO n l) n 0).f = false) := Lib.hid ⟨rfl, rfl⟩
  generalize atO n l = a at *
  go_wp2
  go_loopw [9, 11] (fun pv j wr => ∃ (k : Nat) (vs hs : Nat → Nat) (po : Option Addr) (pc : Nat), k ≤ n ∧ j = .int .i64 k ∧ pv = .slice po k pc ∧ Hid ((ldW.all a n k).e = 0 ∧ (ldW.all a n k).f = false) ∧ Hid (LowR n (dgL (ldW.all a n k).L (fun _ => oneO) k) vs) ∧ Hid (LqR w wr sb g ob n N sl false vs (.slice po k pc) k (ldW.all a n k).H hs)) (fun _ j _ => n - (intOf j).toNat)
  case atStart => exact ⟨0, _, _, _, _, Nat.zero_le _, rfl, rfl, HE0, HL0, HD0⟩
  case round =>
   clear HL0 HD0 HE0
   obtain ⟨wo, rfl⟩ : ∃ wo : World, wo = wr := ⟨_, rfl⟩
   obtain ⟨k, vs, hs, po, pc, hk, rfl, rfl, HE, HL, HD⟩ := hrel
   obtain ⟨m0, m1, m2⟩ := HD.out.c.r.B.cells.1
   by_cases hlt : k < n
   ·have HBAD := Lib.hid fun h => Way.Sticky.bad_end (ov := 5) hlt HE.out.1 h
    have HGOOD := Lib.hid fun h => ldW.all_good HE.out.1 h
    have HOV := Lib.hid fun h0 h1 => ldW_sticky.over_all (a := a) (n := n) (m := k + 1) (by omega) h0 h1
    have HPV : Hid (ldW.pv a k (ldW.all a n k) = ldW.dw (ldW.all a n k).L (ldW.all a n k).H k k (a k k, false) k) := Lib.hid (by rw [← HE.out.2]; rfl)
    rw [HPV.out] at HBAD HGOOD
    clear HPV HE
    generalize ldW.all a n k = st at *
    go_wp2_with fail
    refine (HAT.out k k _ hlt hlt HD.out.c.r.B.b).mono ?_
    rintro e3 w3 ⟨rfl, hb3⟩
    replace HD := Lib.hid (HD.out.later hb3)
    have HT0 : Hid (Rep (ldW.dw st.L st.H k k (a k k, false) 0).1 (atN n l k k)) := Lib.hid (HRA.out k k hlt hlt)
    have HD1 : Hid (LqR w w3 sb g ob n N sl (ldW.dw st.L st.H k k (a k k, false) 0).2 vs (.slice po k pc) k st.H hs) := HD
    clear hb3 m0 m1 m2 HD
    generalize atN n l k k = x0 at HT0 ⊢
    go_wp2
    go_loopw [12, 13] (fun tv j wr => ∃ (q u : Nat), q ≤ k ∧ j = .int .i64 q ∧ tv = .float .f64 u ∧ Hid (Rep (ldW.dw st.L st.H k k (a k k, false) q).1 u) ∧ Hid (LqR w wr sb g ob n N sl (ldW.dw st.L st.H k k (a k k, false) q).2 vs (.slice po (k) pc) (k) st.H hs)) (fun _ j _ => k - (intOf j).toNat)
    case atStart => exact ⟨0, _, Nat.zero_le _, rfl, rfl, HT0, HD1⟩
    case round =>
     clear HT0 HD1
     obtain ⟨q, u, hq, rfl, rfl, HU, HD⟩ := hrel
     by_cases hql : q < k
     ·have hqn : q < n := by omega
      have hqj : q < k := by omega
      have HSQ : Hid (ldW.dw st.L st.H k k (a k k, false) (q + 1) = les3 (ldW.dw st.L st.H k k (a k k, false) q) (st.L k q) (st.L k q) (st.H q)) := Lib.hid rfl
      generalize ldW.dw st.L st.H k k (a k k, false) q = t0 at *
      have HM1 := Lib.hid fun W (hg : FMs W g N vs) => HFM.out g k q vs _ W hg HL.out hlt hqn
      have HM2 := Lib.hid fun W (hg : FMs W g N vs) => HFM.out g k q vs _ W hg HL.out hlt hqn
      rw [dgL_ne (by omega)] at HM1 HM2
      have HPQ := Lib.hid (HD.out.p q hqj)
      obtain ⟨gg, rfl, -⟩ := HD.out.o.cell hqj
      have hmul : ∀ ty u v w, (binOp .mul ty (.float .f64 u) (.float .f64 v)).run Tryz.prog w = .ok (.float .f64 (fV .mul u v w)) (fN .mul u v w) := fun ty u v w => run_float_any .mul (.inr (.inr (.inl rfl))) ty u v w
      have hsub : ∀ ty u v w, (binOp .sub ty (.float .f64 u) (.float .f64 v)).run Tryz.prog w = .ok (.float .f64 (fV .sub u v w)) (fN .sub u v w) := fun ty u v w => run_float_any .sub (.inr (.inl rfl)) ty u v w
      go_upto_region 15 with fail
      refine wp_region_pl (fun w' : World => (w'.cell? ⟨ob, 0, none⟩ = some (.int .i64 n) ∧ w'.cell? ⟨ob, 1, none⟩ = some (.int .i64 n) ∧ w'.cell? ⟨ob, 2, none⟩ = some (.slice (some ⟨g, 0, none⟩) N N)) ∧ w'.cell? ⟨gg, q, none⟩ = some (.float .f64 (hs q))) 21 (.take 0 (.take 1 (.take 2 (.take 3 (.take 4 (.take 5 (.take 6 (.take 8 (.take 9 (.take 10 (.take 14 (.take 15 (.take 16 (.take 17 (.run 7 (.run 11 (.run 12 (.run 13 (.run 18 (.run 19 (.run 20 .nil))))))))))))))))))))) (by kernel_rfl) (by kernel_rfl) ?_
      replace HD := Lib.hid (HD.out.later (drew_below _))
      generalize World.drew _ = W5 at HD ⊢
      repeat (refine tkL (v := ?_) rfl rfl rfl (fun w' hSw => ?_) (HD.out.rd2 hqj) ?_; rotate_left; (focus (go_simp; with_reducible rfl)); simp only [setL])
      refine wpPl_goL rfl rfl fun K' hK => ?_
      go_simp
      refine (HM1.out _ HD.out.c.r.gm).mono ?_
      rintro e1 W5v1 ⟨x, rfl, hx, hb1⟩
      replace HD := Lib.hid (HD.out.later hb1)
      have HX := Lib.hid hx
      clear hx
      refine hK _ _ (HD.out.rd2 hqj) ?_
      clear hK K' hb1
      try simp only [Act.put, setL]
      repeat (refine tkL (v := ?_) rfl rfl rfl (fun w' hSw => ?_) (HD.out.rd2 hqj) ?_; rotate_left; (focus (go_simp; with_reducible rfl)); simp only [setL])
      refine wpPl_goL rfl rfl fun K' hK => ?_
      go_simp
      refine (HM2.out _ HD.out.c.r.gm).mono ?_
      rintro e1 W5v2 ⟨y, rfl, hy, hb1⟩
      replace HD := Lib.hid (HD.out.later hb1)
      have HY := Lib.hid hy
      clear hy
      refine hK _ _ (HD.out.rd2 hqj) ?_
      clear hK K' hb1
      try simp only [Act.put, setL]
      repeat (refine tkL (v := ?_) rfl rfl rfl (fun w' hSw => ?_) (HD.out.rd2 hqj) ?_; rotate_left; (focus (go_simp; with_reducible rfl)); simp only [setL])
      refine wpPl_goL rfl rfl fun K' hK => ?_
      go_simp
      replace HD := Lib.hid (HD.out.later (fN_below .mul x y W5v2))
      have HP := Lib.hid (HX.out.op (op := .mul) HY.out W5v2)
      generalize fN .mul x y W5v2 = W5v3 at *
      generalize fV .mul x y _ = p0 at *
      refine hK _ _ (HD.out.rd2 hqj) ?_
      clear hK K'
      try simp only [Act.put, setL]
      repeat (refine tkL (v := ?_) rfl rfl rfl (fun w' hSw => ?_) (HD.out.rd2 hqj) ?_; rotate_left; (focus (go_simp; with_reducible rfl)); simp only [setL])
      refine wpPl_goL rfl rfl fun K' hK => ?_
      go_simp
      refine (rS_any sb _ _ p0 _ HD.out.c.s HP.out).mono ?_
      rintro e1 W5v4 ⟨p, rfl, hp, hs1, hu1⟩
      replace HD := Lib.hid (HD.out.step hu1 hs1)
      have HP2 := Lib.hid hp
      clear hp hs1 hu1 HX HY HP
      refine hK _ _ (HD.out.rd2 hqj) ?_
      clear hK K'
      try simp only [Act.put, setL]
      repeat (refine tkL (v := ?_) rfl rfl rfl (fun w' hSw => ?_) (HD.out.rd2 hqj) ?_; rotate_left; (focus (go_simp; with_reducible rfl)); simp only [setL])
      refine wpPl_goL rfl rfl fun K' hK => ?_
      go_simp
      replace HD := Lib.hid (HD.out.later (fN_below .mul p (hs q) W5v4))
      have HP := Lib.hid (HP2.out.op (op := .mul) HPQ.out W5v4)
      generalize fN .mul p (hs q) W5v4 = W5v5 at *
      generalize fV .mul p (hs q) _ = p1 at *
      refine hK _ _ (HD.out.rd2 hqj) ?_
      clear hK K'
      try simp only [Act.put, setL]
      repeat (refine tkL (v := ?_) rfl rfl rfl (fun w' hSw => ?_) (HD.out.rd2 hqj) ?_; rotate_left; (focus (go_simp; with_reducible rfl)); simp only [setL])
      refine wpPl_goL rfl rfl fun K' hK => ?_
      go_simp
      refine (rS_any sb _ _ p1 _ HD.out.c.s HP.out).mono ?_
      rintro e1 W5v6 ⟨p3, rfl, hp, hs1, hu1⟩
      replace HD := Lib.hid (HD.out.step hu1 hs1)
      have HP3 := Lib.hid hp
      clear hp hs1 hu1 HP HP2
      refine hK _ _ (HD.out.rd2 hqj) ?_
      clear hK K'
      try simp only [Act.put, setL]
      repeat (refine tkL (v := ?_) rfl rfl rfl (fun w' hSw => ?_) (HD.out.rd2 hqj) ?_; rotate_left; (focus (go_simp; with_reducible rfl)); simp only [setL])
      refine wpPl_goL rfl rfl fun K' hK => ?_
      go_simp
      replace HD := Lib.hid (HD.out.later (fN_below .sub u p3 W5v6))
      have HT := Lib.hid (HU.out.op (op := .sub) HP3.out W5v6)
      generalize fN .sub u p3 W5v6 = W5v7 at *
      generalize fV .sub u p3 _ = t1 at *
      refine hK _ _ (HD.out.rd2 hqj) ?_
      clear hK K'
      try simp only [Act.put, setL]
      repeat (refine tkL (v := ?_) rfl rfl rfl (fun w' hSw => ?_) (HD.out.rd2 hqj) ?_; rotate_left; (focus (go_simp; with_reducible rfl)); simp only [setL])
      refine wpPl_nil ?_
      simp only [drL]
      go_wp2_with fail
      refine (rS_any sb _ _ t1 _ HD.out.c.s HT.out).mono ?_
      rintro e7 w7 ⟨u2, rfl, hr, hs1, hu1⟩
      replace HD := Lib.hid (HD.out.step hu1 hs1)
      have HU2 := Lib.hid hr
      clear hr hs1 hu1 HU HP3 HT hmul hsub
      go_wp2
      go_roundw
      case rel => exact ⟨q + 1, u2, by omega, by go_num, rfl, Lib.hid (by rw [HSQ.out]; exact HU2.out), Lib.hid (by rw [HSQ.out]; exact HD.out)⟩
      case measure => simp [intOf] <;> omega
     ·obtain rfl : q = k := by omega
      obtain ⟨pv, hpv⟩ : ∃ x, ldW.dw st.L st.H q q (a q q, false) q = x := ⟨_, rfl⟩
      rw [hpv] at HU HD HBAD HGOOD
      clear hpv
      obtain ⟨d, f⟩ := pv
      dsimp only at HU HD
      have s0 := HD.out.c.s.cell 0
      obtain ⟨⟨m0, m1, m2⟩, ⟨q0, q1, q2⟩, f0, f1, f2⟩ := HD.out.c.r.B.cells
      cases f
      ·have HG := Lib.hid (eqz_rep HU.out)
       obtain ⟨gb, hgb⟩ : ∃ b, eqzO d = b := ⟨_, rfl⟩
       have hg0 := HG.out
       rw [hgb] at hg0
       cases gb
       ·have HHD : Hid (ldW.head (d, false) = (d, 0)) := Lib.hid (by show (if eqzO d then ((some 0 : Fo), (92 : Int)) else (d, 0)) = _; rw [hgb]; rfl)
        have HGD := Lib.hid (HGOOD.out (by rw [HHD.out]))
        rw [HHD.out] at HGD
        dsimp only at HGD
        clear HBAD HGOOD q0 q1 q2 f0 f1 f2 m0 m1 m2
        have HOW := Lib.hid fun o => HD.out.o.later (Below.alloc_self _ o)
        have HNW := Lib.hid fun W => cell_one_new W (.float .f64 u) 35
        have HSZ := Lib.hid HD.out.c.s.lt
        go_wp2_with (at_builtin; refine wpList_append_own_at _ rfl _ _ 23 rfl (sb + 1) 35 i0 (.float .f64 0) 1 8 Tryz.underlying23 hi hz0 hz1 hz2 rfl (by decide) _ _ _ rfl (HOW.out _) ⟨_, 0, none⟩ 1 1 [.float .f64 u] rfl rfl (HNW.out _) ?c2 ?c3 ?c4 ?c5 ?_)
        case c2 => first | rfl | intro u hu; simp only [List.mem_singleton] at hu; subst hu; rfl
        case c3 => unfold maxLen; omega
        case c4 => omega
        case c5 => have := HSZ.out; simp; omega
        intro v' U4 hown hgrow _ hat
        replace HD := Lib.hid (HD.out.grown (Below.alloc_self _ _) hgrow hown HU.out)
        obtain ⟨po2, pc2, hv'⟩ := owns_shape hown
        rw [hv'] at HD ⊢
        clear hown hgrow hat hv' HNW HOW HSZ HG hg0 hgb s0
        obtain ⟨ud, hud⟩ : ∃ x, u = x := ⟨_, rfl⟩
        have HUD : Hid (Rep d ud) := Lib.hid (hud ▸ HU.out)
        rw [hud] at HD ⊢
        clear hud HU
        generalize updF hs q ud = hs1 at *
        generalize hHH : updF st.H q d = H1 at *
        clear hHH
        obtain ⟨x0, x1, x2⟩ := HD.out.rd
        have HPN : Hid (q * n + q < N) := Lib.hid (by rw [← HN.out]; exact at_lt hlt hlt)
        go_wp2_with fail
        refine (r9put_any g n N q q _ 4607182418800017408 n _ _ HD.out.c.r.gm rfl HPN.out (by omega)).mono ?_
        rintro e8 w8 ⟨rfl, hg8, hu8⟩
        replace HD := Lib.hid (HD.out.put hu8 hg8)
        clear x0 x1 x2
        have HL1 : Hid (LowR n (dgL (ldW.rows a H1 d q (q + 1) (st.L, false)).1 (fun _ => oneO) (q + 1)) (updF vs (q * n + q) 4607182418800017408)) := Lib.hid (by rw [ldW.rows_skip _ _ _ _ _ _ (Nat.le_refl _), dgL_succ]; exact HL.out.set hlt rep1)
        have HD2 : Hid (LqR w w8 sb g ob n N sl (ldW.rows a H1 d q (q + 1) (st.L, false)).2 (updF vs (q * n + q) 4607182418800017408) (.slice po2 (q + 1) pc2) (q + 1) H1 hs1) := Lib.hid (by rw [ldW.rows_skip _ _ _ _ _ _ (Nat.le_refl _)]; exact HD.out)
        clear hg8 hu8 HL HD
        generalize updF vs (q * n + q) 4607182418800017408 = vs1 at *
        obtain ⟨po, hpo⟩ : ∃ x, po2 = x := ⟨_, rfl⟩
        obtain ⟨pc, hpc⟩ : ∃ x, pc2 = x := ⟨_, rfl⟩
        subst hpo hpc
        go_wp2
        go_loopw [14] (fun iv wr => ∃ (i : Nat) (vs : Nat → Nat), q + 1 ≤ i ∧ i ≤ n ∧ iv = .int .i64 i ∧ Hid (LowR n (dgL (ldW.rows a H1 d q i (st.L, false)).1 (fun _ => oneO) (q + 1)) vs) ∧ Hid (LqR w wr sb g ob n N sl (ldW.rows a H1 d q i (st.L, false)).2 vs (.slice po2 (q + 1) pc2) (q + 1) H1 hs1)) (fun iv _ => n - (intOf iv).toNat)
        case atStart => exact ⟨q + 1, vs1, Nat.le_refl _, by omega, by go_num, HL1, HD2⟩
        case round =>
         clear HL1 HD2
         obtain ⟨wo2, rfl⟩ : ∃ wo : World, wo = wr := ⟨_, rfl⟩
         obtain ⟨i, vs, hi1, hi2, rfl, HL, HD⟩ := hrel
         obtain ⟨m0, m1, m2⟩ := HD.out.c.r.B.cells.1
         by_cases hin : i < n
         ·have HSS := Lib.hid (ldW.rows_succ (a := a) (H := H1) (h := d) (s := (st.L, false)) (show q < i by omega))
          generalize ldW.rows a H1 d q i (st.L, false) = rs at *
          obtain ⟨L2, f2⟩ := rs
          dsimp only at HL HD HSS
          go_wp2_with fail
          refine (HAT.out i q _ hin hlt HD.out.c.r.B.b).mono ?_
          rintro e3 w3 ⟨rfl, hb3⟩
          replace HD := Lib.hid (HD.out.later hb3)
          have HT0 : Hid (Rep (ldW.dw L2 H1 i q (a i q, f2) 0).1 (atN n l i q)) := Lib.hid (HRA.out i q hin hlt)
          have HD1 : Hid (LqR w w3 sb g ob n N sl (ldW.dw L2 H1 i q (a i q, f2) 0).2 vs (.slice po2 (q + 1) pc2) (q + 1) H1 hs1) := HD
          clear hb3 m0 m1 m2 HD
          generalize atN n l i q = x0 at HT0 ⊢
          go_wp2
          go_loopw [15, 16] (fun tv j wr => ∃ (q2 u : Nat), q2 ≤ q ∧ j = .int .i64 q2 ∧ tv = .float .f64 u ∧ Hid (Rep (ldW.dw L2 H1 i q (a i q, f2) q2).1 u) ∧ Hid (LqR w wr sb g ob n N sl (ldW.dw L2 H1 i q (a i q, f2) q2).2 vs (.slice po2 (q + 1) pc2) (q + 1) H1 hs1)) (fun _ j _ => q - (intOf j).toNat)
          case atStart => exact ⟨0, _, Nat.zero_le _, rfl, rfl, HT0, HD1⟩
          case round =>
           clear HT0 HD1
           obtain ⟨q2, u, hq, rfl, rfl, HU, HD⟩ := hrel
           by_cases hql : q2 < q
           ·have hqn : q2 < n := by omega
            have hqj : q2 < q + 1 := by omega
            have HSQ : Hid (ldW.dw L2 H1 i q (a i q, f2) (q2 + 1) = les3 (ldW.dw L2 H1 i q (a i q, f2) q2) (L2 i q2) (L2 q q2) (H1 q2)) := Lib.hid rfl
            generalize ldW.dw L2 H1 i q (a i q, f2) q2 = t0 at *
            have HM1 := Lib.hid fun W (hg : FMs W g N vs) => HFM.out g i q2 vs _ W hg HL.out hin hqn
            have HM2 := Lib.hid fun W (hg : FMs W g N vs) => HFM.out g q q2 vs _ W hg HL.out hlt hqn
            rw [dgL_ne (by omega)] at HM1 HM2
            have HPQ := Lib.hid (HD.out.p q2 hqj)
            obtain ⟨gg, rfl, -⟩ := HD.out.o.cell hqj
            have hmul : ∀ ty u v w, (binOp .mul ty (.float .f64 u) (.float .f64 v)).run Tryz.prog w = .ok (.float .f64 (fV .mul u v w)) (fN .mul u v w) := fun ty u v w => run_float_any .mul (.inr (.inr (.inl rfl))) ty u v w
            have hsub : ∀ ty u v w, (binOp .sub ty (.float .f64 u) (.float .f64 v)).run Tryz.prog w = .ok (.float .f64 (fV .sub u v w)) (fN .sub u v w) := fun ty u v w => run_float_any .sub (.inr (.inl rfl)) ty u v w
            go_upto_region 29 with fail
            generalize hj1 : q + 1 = j1 at HD hqj ⊢
            refine wp_region_pl (fun w' : World => (w'.cell? ⟨ob, 0, none⟩ = some (.int .i64 n) ∧ w'.cell? ⟨ob, 1, none⟩ = some (.int .i64 n) ∧ w'.cell? ⟨ob, 2, none⟩ = some (.slice (some ⟨g, 0, none⟩) N N)) ∧ w'.cell? ⟨gg, q2, none⟩ = some (.float .f64 (hs1 q2))) 21 (.take 0 (.take 1 (.take 2 (.take 3 (.take 4 (.take 5 (.take 6 (.take 8 (.take 9 (.take 10 (.take 14 (.take 15 (.take 16 (.take 17 (.run 7 (.run 11 (.run 12 (.run 13 (.run 18 (.run 19 (.run 20 .nil))))))))))))))))))))) (by kernel_rfl) (by kernel_rfl) ?_
            replace HD := Lib.hid (HD.out.later (drew_below _))
            generalize World.drew _ = Wa at HD ⊢
            repeat (refine tkL (v := ?_) rfl rfl rfl (fun w' hSw => ?_) (HD.out.rd2 hqj) ?_; rotate_left; (focus (go_simp; with_reducible rfl)); simp only [setL])
            refine wpPl_goL rfl rfl fun K' hK => ?_
            go_simp
            refine (HM1.out _ HD.out.c.r.gm).mono ?_
            rintro e1 Wav1 ⟨x, rfl, hx, hb1⟩
            replace HD := Lib.hid (HD.out.later hb1)
            have HX := Lib.hid hx
            clear hx
            refine hK _ _ (HD.out.rd2 hqj) ?_
            clear hK K' hb1
            try simp only [Act.put, setL]
            repeat (refine tkL (v := ?_) rfl rfl rfl (fun w' hSw => ?_) (HD.out.rd2 hqj) ?_; rotate_left; (focus (go_simp; with_reducible rfl)); simp only [setL])
            refine wpPl_goL rfl rfl fun K' hK => ?_
            go_simp
            refine (HM2.out _ HD.out.c.r.gm).mono ?_
            rintro e1 Wav2 ⟨y, rfl, hy, hb1⟩
            replace HD := Lib.hid (HD.out.later hb1)
            have HY := Lib.hid hy
            clear hy
            refine hK _ _ (HD.out.rd2 hqj) ?_
            clear hK K' hb1
            try simp only [Act.put, setL]
            repeat (refine tkL (v := ?_) rfl rfl rfl (fun w' hSw => ?_) (HD.out.rd2 hqj) ?_; rotate_left; (focus (go_simp; with_reducible rfl)); simp only [setL])
            refine wpPl_goL rfl rfl fun K' hK => ?_
            go_simp
            replace HD := Lib.hid (HD.out.later (fN_below .mul x y Wav2))
            have HP := Lib.hid (HX.out.op (op := .mul) HY.out Wav2)
            generalize fN .mul x y Wav2 = Wav3 at *
            generalize fV .mul x y _ = p0 at *
            refine hK _ _ (HD.out.rd2 hqj) ?_
            clear hK K'
            try simp only [Act.put, setL]
            repeat (refine tkL (v := ?_) rfl rfl rfl (fun w' hSw => ?_) (HD.out.rd2 hqj) ?_; rotate_left; (focus (go_simp; with_reducible rfl)); simp only [setL])
            refine wpPl_goL rfl rfl fun K' hK => ?_
            go_simp
            refine (rS_any sb _ _ p0 _ HD.out.c.s HP.out).mono ?_
            rintro e1 Wav4 ⟨p, rfl, hp, hs1, hu1⟩
            replace HD := Lib.hid (HD.out.step hu1 hs1)
            have HP2 := Lib.hid hp
            clear hp hs1 hu1 HX HY HP
            refine hK _ _ (HD.out.rd2 hqj) ?_
            clear hK K'
            try simp only [Act.put, setL]
            repeat (refine tkL (v := ?_) rfl rfl rfl (fun w' hSw => ?_) (HD.out.rd2 hqj) ?_; rotate_left; (focus (go_simp; with_reducible rfl)); simp only [setL])
            refine wpPl_goL rfl rfl fun K' hK => ?_
            go_simp
            replace HD := Lib.hid (HD.out.later (fN_below .mul p (hs1 q2) Wav4))
            have HP := Lib.hid (HP2.out.op (op := .mul) HPQ.out Wav4)
            generalize fN .mul p (hs1 q2) Wav4 = Wav5 at *
            generalize fV .mul p (hs1 q2) _ = p1 at *
            refine hK _ _ (HD.out.rd2 hqj) ?_
            clear hK K'
            try simp only [Act.put, setL]
            repeat (refine tkL (v := ?_) rfl rfl rfl (fun w' hSw => ?_) (HD.out.rd2 hqj) ?_; rotate_left; (focus (go_simp; with_reducible rfl)); simp only [setL])
            refine wpPl_goL rfl rfl fun K' hK => ?_
            go_simp
            refine (rS_any sb _ _ p1 _ HD.out.c.s HP.out).mono ?_
            rintro e1 Wav6 ⟨p3, rfl, hp, hs1, hu1⟩
            replace HD := Lib.hid (HD.out.step hu1 hs1)
            have HP3 := Lib.hid hp
            clear hp hs1 hu1 HP HP2
            refine hK _ _ (HD.out.rd2 hqj) ?_
            clear hK K'
            try simp only [Act.put, setL]
            repeat (refine tkL (v := ?_) rfl rfl rfl (fun w' hSw => ?_) (HD.out.rd2 hqj) ?_; rotate_left; (focus (go_simp; with_reducible rfl)); simp only [setL])
            refine wpPl_goL rfl rfl fun K' hK => ?_
            go_simp
            replace HD := Lib.hid (HD.out.later (fN_below .sub u p3 Wav6))
            have HT := Lib.hid (HU.out.op (op := .sub) HP3.out Wav6)
            generalize fN .sub u p3 Wav6 = Wav7 at *
            generalize fV .sub u p3 _ = t1 at *
            refine hK _ _ (HD.out.rd2 hqj) ?_
            clear hK K'
            try simp only [Act.put, setL]
            repeat (refine tkL (v := ?_) rfl rfl rfl (fun w' hSw => ?_) (HD.out.rd2 hqj) ?_; rotate_left; (focus (go_simp; with_reducible rfl)); simp only [setL])
            refine wpPl_nil ?_
            simp only [drL]
            subst hj1
            go_wp2_with fail
            refine (rS_any sb _ _ t1 _ HD.out.c.s HT.out).mono ?_
            rintro e7 w7 ⟨u2, rfl, hr, hs1, hu1⟩
            replace HD := Lib.hid (HD.out.step hu1 hs1)
            have HU2 := Lib.hid hr
            clear hr hs1 hu1 HU HP3 HT hmul hsub
            go_wp2
            go_roundw
            case rel => exact ⟨q2 + 1, u2, by omega, by go_num, rfl, Lib.hid (by rw [HSQ.out]; exact HU2.out), Lib.hid (by rw [HSQ.out]; exact HD.out)⟩
            case measure => simp [intOf] <;> omega
           ·obtain rfl : q2 = q := by omega
            generalize ldW.dw L2 H1 i q2 (a i q2, f2) q2 = t0 at *
            obtain ⟨tt, ft⟩ := t0
            dsimp only at HU HD
            have HSE : Hid (ldW.rows a H1 d q2 (i + 1) (st.L, false) = (upd2 L2 i q2 (oA .quo tt d), ovr ft (oA .quo tt d))) := HSS
            clear HSS
            have hquo : ∀ ty u v w, (binOp .quo ty (.float .f64 u) (.float .f64 v)).run Tryz.prog w = .ok (.float .f64 (fV .quo u v w)) (fN .quo u v w) := fun ty u v w => run_float_any .quo (.inr (.inr (.inr rfl))) ty u v w
            go_upto_region 30 with fail
            refine wp_region_pl (fun w' : World => w'.cell? ⟨ob, 0, none⟩ = some (.int .i64 n) ∧ w'.cell? ⟨ob, 1, none⟩ = some (.int .i64 n) ∧ w'.cell? ⟨ob, 2, none⟩ = some (.slice (some ⟨g, 0, none⟩) N N)) 8 (.take 0 (.take 1 (.take 2 (.take 3 (.take 4 (.take 5 (.run 6 (.run 7 .nil)))))))) (by kernel_rfl) (by kernel_rfl) ?_
            replace HD := Lib.hid (HD.out.later (drew_below _))
            generalize World.drew _ = Wb at HD ⊢
            repeat (refine tkL (v := ?_) rfl rfl rfl (fun w' hSw => ?_) HD.out.rd ?_; rotate_left; (focus (go_simp; with_reducible rfl)); simp only [setL])
            refine wpPl_goL rfl rfl fun K' hK => ?_
            go_simp
            replace HD := Lib.hid (HD.out.later (fN_below .quo u ud Wb))
            have HP := Lib.hid (HU.out.op (op := .quo) HUD.out Wb)
            generalize fN .quo u ud Wb = Wbv1 at *
            generalize fV .quo u ud _ = p0 at *
            refine hK _ _ HD.out.rd ?_
            clear hK K'
            try simp only [Act.put, setL]
            repeat (refine tkL (v := ?_) rfl rfl rfl (fun w' hSw => ?_) HD.out.rd ?_; rotate_left; (focus (go_simp; with_reducible rfl)); simp only [setL])
            refine wpPl_goL rfl rfl fun K' hK => ?_
            go_simp
            refine (rS_any sb _ _ p0 _ HD.out.c.s HP.out).mono ?_
            rintro e1 Wbv2 ⟨z, rfl, hz, hs1, hu1⟩
            replace HD := Lib.hid (HD.out.step hu1 hs1)
            have HZZ := Lib.hid hz
            clear hz hs1 hu1 HP HU
            refine hK _ _ HD.out.rd ?_
            clear hK K'
            try simp only [Act.put, setL]
            repeat (refine tkL (v := ?_) rfl rfl rfl (fun w' hSw => ?_) HD.out.rd ?_; rotate_left; (focus (go_simp; with_reducible rfl)); simp only [setL])
            refine wpPl_nil ?_
            simp only [drL]
            have HPN : Hid (i * n + q2 < N) := Lib.hid (by rw [← HN.out]; exact at_lt hin hlt)
            go_wp2_with fail
            refine (r9put_any g n N i q2 _ z n _ _ HD.out.c.r.gm rfl HPN.out (by omega)).mono ?_
            rintro e8 w8 ⟨rfl, hg8, hu8⟩
            replace HD := Lib.hid (HD.out.put hu8 hg8)
            clear hg8 hu8 hquo
            go_wp2
            go_roundw
            case rel => exact ⟨i + 1, _, by omega, by omega, by go_num, Lib.hid (by rw [HSE.out, dgL_put (by omega)]; exact HL.out.set hlt HZZ.out), Lib.hid (by rw [HSE.out]; exact HD.out)⟩
            case measure => simp [intOf] <;> omega
         ·obtain rfl : i = n := by omega
          have s0 := HD.out.c.s.cell 0
          have HGE : Hid ((ldW.all a i (q + 1)).e = 0 ∧ (ldW.all a i (q + 1)).f = (ldW.rows a H1 d q i (st.L, false)).2 ∧ (ldW.all a i (q + 1)).L = (ldW.rows a H1 d q i (st.L, false)).1 ∧ (ldW.all a i (q + 1)).H = H1) := Lib.hid (by rw [HGD.out]; exact ⟨rfl, rfl, rfl, rfl⟩)
          obtain ⟨bf, hbf⟩ : ∃ b, (ldW.rows a H1 d q i (st.L, false)).2 = b := ⟨_, rfl⟩
          rw [hbf] at s0 HD HGE
          obtain ⟨-, ⟨q0, q1, q2⟩, f0, f1, f2⟩ := HD.out.c.r.B.cells
          cases bf
          ·clear q0 q1 q2 f0 f1 f2
           go_wp2
           go_roundw
           case rel => exact ⟨q + 1, vs, hs1, po2, pc2, by omega, by go_num, rfl, Lib.hid ⟨HGE.out.1, HGE.out.2.1⟩, Lib.hid (by rw [HGE.out.2.2.1]; exact HL.out), Lib.hid (by rw [HGE.out.2.2.2]; exact HD.out)⟩
           case measure => simp [intOf] <;> omega
          ·have hres := HOV.out HGE.out.1 HGE.out.2.1
           obtain ⟨rfl, rfl, hE, -⟩ := HEND.out 5 0 hres
           obtain ⟨rfl, rfl, rfl⟩ := hE (by decide)
           have HBB := Lib.hid HD.out.c.r.B
           clear HEND HFIT HD HOV hres
           go_wp2
           exact bodyPost_ret (v := .tuple #[MatV 0 0 (.slice none 0 0), .slice none 0 0, .int .i64 (((0 : Nat)) : Int), .int .i64 5]) (by simp [results, Tryz.results19, go_sem, q0, q1, q2]) rfl HBB.out.errL
       ·have HHD : Hid (ldW.head (d, false) = (some 0, 92)) := Lib.hid (by show (if eqzO d then ((some 0 : Fo), (92 : Int)) else (d, 0)) = _; rw [hgb]; rfl)
        have hres := HBAD.out (by rw [HHD.out]; exact (show (92 : Int) ≠ 0 by decide))
        rw [HHD.out] at hres
        obtain ⟨rfl, rfl, hE, -⟩ := HEND.out 92 q hres
        obtain ⟨rfl, rfl, rfl⟩ := hE (by decide)
        have HBB := Lib.hid HD.out.c.r.B
        clear HEND HFIT HD HBAD HGOOD HOV hres
        go_wp2
        exact bodyPost_ret (v := .tuple #[MatV 0 0 (.slice none 0 0), .slice none 0 0, .int .i64 ((P : Nat) : Int), .int .i64 92]) (by simp [results, Tryz.results19, go_sem, q0, q1, q2]) rfl HBB.out.errL
      ·have HHD : Hid (ldW.head (d, true) = (some 0, 5)) := Lib.hid rfl
       have hres := HBAD.out (by rw [HHD.out]; exact (show (5 : Int) ≠ 0 by decide))
       rw [HHD.out] at hres
       obtain ⟨rfl, rfl, hE, -⟩ := HEND.out 5 0 hres
       obtain ⟨rfl, rfl, rfl⟩ := hE (by decide)
       have HBB := Lib.hid HD.out.c.r.B
       clear HEND HFIT HD HBAD HGOOD HOV hres
       go_wp2
       exact bodyPost_ret (v := .tuple #[MatV 0 0 (.slice none 0 0), .slice none 0 0, .int .i64 (((0 : Nat)) : Int), .int .i64 5]) (by simp [results, Tryz.results19, go_sem, q0, q1, q2]) rfl HBB.out.errL
   ·obtain rfl : k = n := by omega
    have HF := Lib.hid ((HFIT.out k HE.out.1).2.2 HE.out.2)
    obtain ⟨rfl, rfl, -, hE⟩ := HEND.out 0 0 (res_ok HE.out.1 HE.out.2)
    obtain ⟨rfl, rfl, rfl⟩ := hE rfl
    have hN := HN.out
    subst hN
    have HDN := Lib.hid (HD.out.done HL.out (dg_fin HF.out.1 (fun _ => fin1)) HF.out.2 hn)
    obtain ⟨x0, x1, x2⟩ := HD.out.rd
    obtain ⟨-, ⟨q0, q1, q2⟩, f0, f1, f2⟩ := HD.out.c.r.B.cells
    clear HD HEND HFIT
    go_wp2
    exact bodyPost_ret (v := .tuple #[MatV k k (.slice (some ⟨g, 0, none⟩) (k * k) (k * k)), .slice po k pc, .int .i64 0, .int .i64 0]) (by simp [results, Tryz.results19, go_sem, q0, q1, q2]) rfl HDN.out
 ·obtain ⟨e1, e2, e3, e4, e5⟩ := ldlE_err h0
  rw [e1, e2, e3, e4, e5]
  have hp := beq_eq_false_iff_ne.2 h0
  generalize sqrB r c l = k at *
  clear hl h0 e1 e2 e3 e4 e5
  obtain ⟨⟨m0, m1, m2⟩, ⟨q0, q1, q2⟩, f0, f1, f2⟩ := HB.out.cells
  go_enter Tryz.func19, Tryz.ntmps19
  go_wp2_with fail
  refine HSQ.out.mono ?_
  rintro e1 w1 ⟨rfl, hb1⟩
  replace HB := Lib.hid (HB.out.later hb1)
  clear hb1 m0 m1 m2 q0 q1 q2 f0 f1 f2 HSQ
  obtain ⟨⟨m0, m1, m2⟩, ⟨q0, q1, q2⟩, f0, f1, f2⟩ := HB.out.cells
  go_wp2
  exact bodyPost_ret (v := .tuple #[MatV 0 0 (.slice none 0 0), .slice none 0 0, .int .i64 ((0 : Nat) : Int), .int .i64 k]) (by simp [results, Tryz.results19, go_sem, q0, q1, q2]) rfl HB.out.errL
end
section
open Go.RowKit
attribute [local go_sem] run_store_f
def dtS (L : Nat → Nat → Fo) : Nat → Sp
 | 0 => (oneO, false)
 | j + 1 => (oA .mul (oA .mul (dtS L j).1 (L j j)) (L j j), ovr (ovr (dtS L j).2 (oA .mul (dtS L j).1 (L j j))) (oA .mul (oA .mul (dtS L j).1 (L j j)) (L j j)))
theorem dtS_succ (L : Nat → Nat → Fo) (j : Nat) : dtS L (j + 1) = (oA .mul (oA .mul (dtS L j).1 (L j j)) (L j j), ovr (ovr (dtS L j).2 (oA .mul (dtS L j).1 (L j j))) (oA .mul (oA .mul (dtS L j).1 (L j j)) (L j j))) := rfl
theorem dtS_fin (L : Nat → Nat → Fo) : ∀ n, (dtS L n).2 = false → finO (dtS L n).1 = true
 | 0, _ => fin1
 | _ + 1, h => (ovr_false h).2
def detE (r c : Int) (l : List Nat) : Int := if cholE r c l ≠ 0 then cholE r c l else if (dtS (atO r.toNat (cholL r c l)) r.toNat).2 then 5 else 0
def detP (r c : Int) (l : List Nat) : Nat := cholP r c l
def detV (r c : Int) (l : List Nat) : Nat := if detE r c l = 0 then bitO (dtS (atO r.toNat (cholL r c l)) r.toNat).1 else 0
theorem det_err {r c : Int} {l : List Nat} (h : cholE r c l ≠ 0) : detE r c l = cholE r c l ∧ detP r c l = cholP r c l ∧ detV r c l = 0 := by
 have e : detE r c l = cholE r c l := if_pos h
 exact ⟨e, rfl, by unfold detV; rw [e, if_neg h]⟩
theorem det_ok {n : Nat} {l : List Nat} (h : cholE n n l = 0) (f : Bool) (hf : (dtS (atO n (cholL n n l)) n).2 = f) :
  detP n n l = 0 ∧ (f = true → detE n n l = 5 ∧ detV n n l = 0) ∧ (f = false → detE n n l = 0 ∧ detV n n l = bitO (dtS (atO n (cholL n n l)) n).1) := by
 have e : detE n n l = if f then 5 else 0 := by subst hf; unfold detE; rw [if_neg (fun t => t h)]; simp only [Int.toNat_natCast]
 refine ⟨chol_place h, fun e1 => ?_, fun e1 => ?_⟩
 ·rw [e1] at e; exact ⟨e, by unfold detV; rw [e]; rfl⟩
 ·rw [e1] at e; exact ⟨e, by unfold detV; rw [e]; rfl⟩
theorem chol_sq {r c : Int} {l : List Nat} (h : cholE r c l = 0) : sqrB r c l = 0 := by
 by_cases h1 : sqrB r c l = 0
 ·exact h1
 ·exact absurd ((cholE_err h1).1.symm.trans h) h1
structure DtR (t : Nat) (w0 W : World) (xb sb n : Nat) (lv : Value) (f : Bool) : Prop where
 x : BlkT W xb 25 #[.int .i64 n, .int .i64 n, lv]
 s : BlkT W sb t #[.bool f]
 b : Below w0.heap.size w0 W
 ne : xb ≠ sb ∧ w0.heap.size ≤ sb
theorem DtR.step {t xb sb n : Nat} {w0 W V : World} {lv : Value} {f g : Bool} (h : DtR t w0 W xb sb n lv f) (hu : Upd sb W V) (hs : BlkT V sb t #[.bool g]) : DtR t w0 V xb sb n lv g := ⟨h.x.upd hu h.ne.1, hs, hu.below h.b h.ne.2 h.b.size, h.ne⟩
theorem DtR.later {t xb sb n : Nat} {w0 W V : World} {lv : Value} {f : Bool} (h : DtR t w0 W xb sb n lv f) (hb : Below W.heap.size W V) : DtR t w0 V xb sb n lv f := h.step (Upd.of_below hb) (h.s.below hb)
theorem DtR.rd {t xb sb n : Nat} {w0 W : World} {lv : Value} {f : Bool} (h : DtR t w0 W xb sb n lv f) : W.cell? ⟨xb, 0, none⟩ = some (.int .i64 n) ∧ W.cell? ⟨xb, 1, none⟩ = some (.int .i64 n) ∧ W.cell? ⟨xb, 2, none⟩ = some lv := ⟨h.x.cell 0, h.x.cell 1, h.x.cell 2⟩
set_option maxRecDepth 100000 in
set_option maxHeartbeats 3200000 in
theorem det_any (r c : Int) (sl : Value) (l : List Nat) (w : World) (hl : FSl w sl l) :
  Calls Tryz.prog 21 #[MatV r c sl] w (Gives (.tuple #[.float .f64 (detV r c l), .int .i64 (detP r c l), .int .i64 (detE r c l)]) w) := by
 have HM := Lib.hid (MBx.new w r c sl)
 have HCH := Lib.hid (chol_any r c sl l _ (hl.below (Below.alloc_self w (.cells #[.int .i64 r, .int .i64 c, sl] 25))))
 by_cases h0 : cholE r c l = 0
 ·obtain ⟨n, rfl, rfl, hq, -⟩ := sqr_zero (chol_sq h0)
  have hn := hq.hn
  have HOK := Lib.hid fun f hf => det_ok h0 f hf
  have hRl := cholL_len h0
  rw [h0, cholN_ok h0, chol_place h0] at HCH
  have HFN := Lib.hid fun h => dtS_fin (atO n (cholL n n l)) n h
  clear h0 hq hl
  generalize detE n n l = E at *
  generalize detP n n l = P at *
  generalize detV n n l = V at *
  generalize cholL n n l = R at *
  obtain ⟨q0, q1, q2⟩ := HM.out.m3
  go_enter Tryz.func21, Tryz.ntmps21
  go_wp2_with fail
  refine HCH.out.mono ?_
  rintro e1 w1 ⟨u, rfl, hu, -, hb1⟩
  obtain ⟨ul, hul⟩ : ∃ ul, ul = u := ⟨_, rfl⟩
  obtain ⟨uo, uc, hue, -⟩ := id hu
  generalize List.length _ = un at hue
  subst hul
  subst hue
  replace HM := Lib.hid (HM.out.later hb1)
  clear hb1 q0 q1 q2 HCH
  have HAT := Lib.hid (atG_of hu hRl cAt_any)
  have HRA := Lib.hid fun (i j : Nat) (hi : i < n) (hj : j < n) => (show Rep (atO n R i j) (atN n R i j) from ⟨by rw [← atN_get (by rw [hRl]; exact at_lt hi hj)]; exact hu.elem_lt _ (List.getElem_mem _), rfl⟩)
  clear hu hRl
  go_upto_region 5 with fail
  have HD0 : Hid (DtR 94 w1 ((w1.alloc (.cells #[.int .i64 n, .int .i64 n, .slice uo un uc] 25)).alloc (.cells #[.bool false] 94)) w1.heap.size (w1.heap.size + 1) n (.slice uo un uc) false) := Lib.hid ⟨(BlkT.new w1 _ _).alloc _, BlkT.new1 w1 _ _ _, below2 w1 _ _, by omega, by omega⟩
  obtain ⟨xb, hxb⟩ : ∃ b, w1.heap.size = b := ⟨_, rfl⟩
  rw [hxb] at HD0 ⊢
  obtain ⟨sb, hsb⟩ : ∃ b, xb + 1 = b := ⟨_, rfl⟩
  rw [hsb] at HD0 ⊢
  generalize World.alloc (World.alloc w1 _) _ = W1 at *
  clear hxb hsb
  have HT0 : Hid (Rep (dtS (atO n R) 0).1 4607182418800017408) := Lib.hid rep1
  replace HD0 : Hid (DtR 94 w1 W1 xb sb n (.slice uo un uc) (dtS (atO n R) 0).2) := HD0
  generalize atO n R = a at *
  have m0 := HD0.out.x.cell 0
  go_wp2
  clear m0
  go_loopw [9, 25] (fun pv j wr => ∃ (k u : Nat), k ≤ n ∧ j = .int .i64 k ∧ pv = .float .f64 u ∧ Hid (Rep (dtS a k).1 u) ∧ Hid (DtR 94 w1 wr xb sb n (.slice uo un uc) (dtS a k).2)) (fun _ j _ => n - (intOf j).toNat)
  case atStart => exact ⟨0, _, Nat.zero_le _, rfl, rfl, HT0, HD0⟩
  case round =>
   clear HT0 HD0
   obtain ⟨k, u, hk, rfl, rfl, HU, HD⟩ := hrel
   by_cases hlt : k < n
   ·have HSQ := Lib.hid (dtS_succ a k)
    generalize dtS a k = t0 at *
    obtain ⟨z, f⟩ := t0
    dsimp only at HU HD HSQ
    have HX := HRA.out k k hlt hlt
    have HAK := Lib.hid fun W hb => HAT.out k k W hlt hlt hb
    replace HX := Lib.hid HX
    generalize atN n R k k = x at HX HAK
    go_upto_region 9 with fail
    refine wp_region_pl (fun w' : World => w'.cell? ⟨xb, 0, none⟩ = some (.int .i64 n) ∧ w'.cell? ⟨xb, 1, none⟩ = some (.int .i64 n) ∧ w'.cell? ⟨xb, 2, none⟩ = some (.slice uo un uc)) 12 (.take 0 (.take 1 (.take 2 (.take 3 (.take 4 (.take 5 (.take 8 (.take 9 (.take 10 (.run 6 (.run 7 (.run 11 .nil)))))))))))) (by kernel_rfl) (by kernel_rfl) ?_
    replace HD := Lib.hid (HD.out.later (drew_below _))
    generalize World.drew _ = W5 at HD ⊢
    repeat (refine tkL (v := ?_) rfl rfl rfl (fun w' hSw => ?_) HD.out.rd ?_; rotate_left; (focus (go_simp; with_reducible rfl)); simp only [setL])
    refine wpPl_goL rfl rfl fun K' hK => ?_
    go_simp
    refine (HAK.out _ HD.out.b).mono ?_
    rintro e1 W5v1 ⟨rfl, hb1⟩
    replace HD := Lib.hid (HD.out.later hb1)
    refine hK _ _ HD.out.rd ?_
    clear hK K' hb1
    try simp only [Act.put, setL]
    repeat (refine tkL (v := ?_) rfl rfl rfl (fun w' hSw => ?_) HD.out.rd ?_; rotate_left; (focus (go_simp; with_reducible rfl)); simp only [setL])
    refine wpPl_goL rfl rfl fun K' hK => ?_
    go_simp
    refine (stTimes_any sb _ _ _ u x _ HD.out.s HU.out HX.out).mono ?_
    rintro e1 W5v2 ⟨p, rfl, hp, hs1, hu1⟩
    replace HD := Lib.hid (HD.out.step hu1 hs1)
    have HP := Lib.hid hp
    clear hp hs1 hu1 HU
    refine hK _ _ HD.out.rd ?_
    clear hK K'
    try simp only [Act.put, setL]
    repeat (refine tkL (v := ?_) rfl rfl rfl (fun w' hSw => ?_) HD.out.rd ?_; rotate_left; (focus (go_simp; with_reducible rfl)); simp only [setL])
    refine wpPl_goL rfl rfl fun K' hK => ?_
    go_simp
    refine (HAK.out _ HD.out.b).mono ?_
    rintro e1 W5v3 ⟨rfl, hb1⟩
    replace HD := Lib.hid (HD.out.later hb1)
    refine hK _ _ HD.out.rd ?_
    clear hK K' hb1
    try simp only [Act.put, setL]
    repeat (refine tkL (v := ?_) rfl rfl rfl (fun w' hSw => ?_) HD.out.rd ?_; rotate_left; (focus (go_simp; with_reducible rfl)); simp only [setL])
    refine wpPl_nil ?_
    simp only [drL]
    go_wp2_with fail
    refine (stTimes_any sb _ _ _ p x _ HD.out.s HP.out HX.out).mono ?_
    rintro e7 w7 ⟨u2, rfl, hr, hs1, hu1⟩
    replace HD := Lib.hid (HD.out.step hu1 hs1)
    have HU2 := Lib.hid hr
    clear hr hs1 hu1 HP HX HAK
    go_wp2
    go_roundw
    case rel => exact ⟨k + 1, u2, by omega, by go_num, rfl, Lib.hid (by rw [HSQ.out]; exact HU2.out), Lib.hid (by rw [HSQ.out]; exact HD.out)⟩
    case measure => simp [intOf] <;> omega
   ·obtain rfl : k = n := by omega
    have s0 := HD.out.s.cell 0
    have HBW := Lib.hid (HM.out.b.trans (HD.out.b.mono HM.out.b.size))
    generalize dtS a k = t0 at *
    obtain ⟨z, f⟩ := t0
    dsimp only at HU HFN HOK s0
    clear HD HAT HRA HM
    cases f
    ·obtain ⟨rfl, -, hE⟩ := HOK.out false rfl
     obtain ⟨rfl, hV⟩ := hE rfl
     have HV : Hid (V = u) := Lib.hid (hV.trans (HU.out.bits (HFN.out rfl)).symm)
     have hVu := HV.out
     subst hVu
     clear HOK HFN HU hV HV hE
     go_wp2
     refine bodyPost_ret (v := .tuple #[.float .f64 V, .int .i64 0, .int .i64 0]) (by simp [results, Tryz.results21, go_sem]) rfl ⟨rfl, HBW.out⟩
    ·obtain ⟨rfl, hE, -⟩ := HOK.out true rfl
     obtain ⟨rfl, rfl⟩ := hE rfl
     clear HOK HFN HU hE
     go_wp2
     refine bodyPost_ret (v := .tuple #[.float .f64 0, .int .i64 0, .int .i64 5]) (by simp [results, Tryz.results21, go_sem]) rfl ⟨rfl, HBW.out⟩
 ·obtain ⟨e1, e2, e3⟩ := det_err h0
  rw [e1, e2, e3]
  have hp := beq_eq_false_iff_ne.2 h0
  generalize cholE r c l = k at *
  generalize cholP r c l = P at *
  generalize cholN r c l = Nn at *
  generalize cholL r c l = R at *
  clear hl h0 e1 e2 e3
  obtain ⟨q0, q1, q2⟩ := HM.out.m3
  go_enter Tryz.func21, Tryz.ntmps21
  go_wp2_with fail
  refine HCH.out.mono ?_
  rintro e1 w1 ⟨u, rfl, hu, -, hb1⟩
  obtain ⟨ul, hul⟩ : ∃ ul, ul = u := ⟨_, rfl⟩
  obtain ⟨uo, uc, hue, -⟩ := id hu
  generalize List.length _ = un at hue
  subst hul
  subst hue
  replace HM := Lib.hid (HM.out.later hb1)
  clear hb1 q0 q1 q2 HCH
  clear hu
  go_wp2
  refine bodyPost_ret (v := .tuple #[.float .f64 0, .int .i64 P, .int .i64 k]) (by simp [results, Tryz.results21, go_sem]) rfl ⟨rfl, (HM.out.later (Below.alloc_self w1 _)).b⟩
set_option maxRecDepth 100000 in
set_option maxHeartbeats 3200000 in
theorem rdet_any (r c : Int) (sl : Value) (l : List Nat) (w : World) (hl : FSl w sl l) :
  Calls Tryz.prog 22 #[MatV r c sl] w (Gives (.tuple #[.float .f64 (detV r c l), .int .i64 (detP r c l), .int .i64 (detE r c l)]) w) := by
 have HM := Lib.hid (MBx.new w r c sl)
 have HCH := Lib.hid (rchol_any r c sl l _ (hl.below (Below.alloc_self w (.cells #[.int .i64 r, .int .i64 c, sl] 25))))
 by_cases h0 : cholE r c l = 0
 ·obtain ⟨n, rfl, rfl, hq, -⟩ := sqr_zero (chol_sq h0)
  have hn := hq.hn
  have HOK := Lib.hid fun f hf => det_ok h0 f hf
  have hRl := cholL_len h0
  rw [h0, cholN_ok h0, chol_place h0] at HCH
  have HFN := Lib.hid fun h => dtS_fin (atO n (cholL n n l)) n h
  clear h0 hq hl
  generalize detE n n l = E at *
  generalize detP n n l = P at *
  generalize detV n n l = V at *
  generalize cholL n n l = R at *
  obtain ⟨q0, q1, q2⟩ := HM.out.m3
  go_enter Tryz.func22, Tryz.ntmps22
  go_wp2_with fail
  refine HCH.out.mono ?_
  rintro e1 w1 ⟨u, rfl, hu, -, hb1⟩
  obtain ⟨ul, hul⟩ : ∃ ul, ul = u := ⟨_, rfl⟩
  obtain ⟨uo, uc, hue, -⟩ := id hu
  generalize List.length _ = un at hue
  subst hul
  subst hue
  replace HM := Lib.hid (HM.out.later hb1)
  clear hb1 q0 q1 q2 HCH
  have HAT := Lib.hid (atG_of hu hRl rAt_any)
  have HRA := Lib.hid fun (i j : Nat) (hi : i < n) (hj : j < n) => (show Rep (atO n R i j) (atN n R i j) from ⟨by rw [← atN_get (by rw [hRl]; exact at_lt hi hj)]; exact hu.elem_lt _ (List.getElem_mem _), rfl⟩)
  clear hu hRl
  go_upto_region 5 with fail
  have HD0 : Hid (DtR 109 w1 ((w1.alloc (.cells #[.int .i64 n, .int .i64 n, .slice uo un uc] 25)).alloc (.cells #[.bool false] 109)) w1.heap.size (w1.heap.size + 1) n (.slice uo un uc) false) := Lib.hid ⟨(BlkT.new w1 _ _).alloc _, BlkT.new1 w1 _ _ _, below2 w1 _ _, by omega, by omega⟩
  obtain ⟨xb, hxb⟩ : ∃ b, w1.heap.size = b := ⟨_, rfl⟩
  rw [hxb] at HD0 ⊢
  obtain ⟨sb, hsb⟩ : ∃ b, xb + 1 = b := ⟨_, rfl⟩
  rw [hsb] at HD0 ⊢
  generalize World.alloc (World.alloc w1 _) _ = W1 at *
  clear hxb hsb
  have HT0 : Hid (Rep (dtS (atO n R) 0).1 4607182418800017408) := Lib.hid rep1
  replace HD0 : Hid (DtR 109 w1 W1 xb sb n (.slice uo un uc) (dtS (atO n R) 0).2) := HD0
  generalize atO n R = a at *
  have m0 := HD0.out.x.cell 0
  go_wp2
  clear m0
  go_loopw [9, 10] (fun pv j wr => ∃ (k u : Nat), k ≤ n ∧ j = .int .i64 k ∧ pv = .float .f64 u ∧ Hid (Rep (dtS a k).1 u) ∧ Hid (DtR 109 w1 wr xb sb n (.slice uo un uc) (dtS a k).2)) (fun _ j _ => n - (intOf j).toNat)
  case atStart => exact ⟨0, _, Nat.zero_le _, rfl, rfl, HT0, HD0⟩
  case round =>
   clear HT0 HD0
   obtain ⟨k, u, hk, rfl, rfl, HU, HD⟩ := hrel
   by_cases hlt : k < n
   ·have HSQ := Lib.hid (dtS_succ a k)
    generalize dtS a k = t0 at *
    obtain ⟨z, f⟩ := t0
    dsimp only at HU HD HSQ
    have HX := HRA.out k k hlt hlt
    have HAK := Lib.hid fun W hb => HAT.out k k W hlt hlt hb
    replace HX := Lib.hid HX
    generalize atN n R k k = x at HX HAK
    have hmul : ∀ ty u v w, (binOp .mul ty (.float .f64 u) (.float .f64 v)).run Tryz.prog w = .ok (.float .f64 (fV .mul u v w)) (fN .mul u v w) := fun ty u v w => run_float_any .mul (.inr (.inr (.inl rfl))) ty u v w
    have m0 := HD.out.x.cell 0
    go_upto_region 9 with fail
    clear m0
    refine wp_region_pl (fun w' : World => w'.cell? ⟨xb, 0, none⟩ = some (.int .i64 n) ∧ w'.cell? ⟨xb, 1, none⟩ = some (.int .i64 n) ∧ w'.cell? ⟨xb, 2, none⟩ = some (.slice uo un uc)) 14 (.take 0 (.take 1 (.take 2 (.take 3 (.take 4 (.take 5 (.take 9 (.take 10 (.take 11 (.run 6 (.run 7 (.run 8 (.run 12 (.run 13 .nil)))))))))))))) (by kernel_rfl) (by kernel_rfl) ?_
    replace HD := Lib.hid (HD.out.later (drew_below _))
    generalize World.drew _ = W5 at HD ⊢
    repeat (refine tkL (v := ?_) rfl rfl rfl (fun w' hSw => ?_) HD.out.rd ?_; rotate_left; (focus (go_simp; with_reducible rfl)); simp only [setL])
    refine wpPl_goL rfl rfl fun K' hK => ?_
    go_simp
    refine (HAK.out _ HD.out.b).mono ?_
    rintro e1 W5v1 ⟨rfl, hb1⟩
    replace HD := Lib.hid (HD.out.later hb1)
    refine hK _ _ HD.out.rd ?_
    clear hK K' hb1
    try simp only [Act.put, setL]
    repeat (refine tkL (v := ?_) rfl rfl rfl (fun w' hSw => ?_) HD.out.rd ?_; rotate_left; (focus (go_simp; with_reducible rfl)); simp only [setL])
    refine wpPl_goL rfl rfl fun K' hK => ?_
    go_simp
    replace HD := Lib.hid (HD.out.later (fN_below .mul u x W5v1))
    have HP0 := Lib.hid (HU.out.op (op := .mul) HX.out W5v1)
    generalize fN .mul u x W5v1 = W5v2 at *
    generalize fV .mul u x _ = p0 at *
    refine hK _ _ HD.out.rd ?_
    clear hK K'
    try simp only [Act.put, setL]
    repeat (refine tkL (v := ?_) rfl rfl rfl (fun w' hSw => ?_) HD.out.rd ?_; rotate_left; (focus (go_simp; with_reducible rfl)); simp only [setL])
    refine wpPl_goL rfl rfl fun K' hK => ?_
    go_simp
    refine (rS_any sb _ _ p0 _ HD.out.s HP0.out).mono ?_
    rintro e1 W5v3 ⟨p, rfl, hp, hs1, hu1⟩
    replace HD := Lib.hid (HD.out.step hu1 hs1)
    have HP := Lib.hid hp
    clear hp hs1 hu1 HU HP0
    refine hK _ _ HD.out.rd ?_
    clear hK K'
    try simp only [Act.put, setL]
    repeat (refine tkL (v := ?_) rfl rfl rfl (fun w' hSw => ?_) HD.out.rd ?_; rotate_left; (focus (go_simp; with_reducible rfl)); simp only [setL])
    refine wpPl_goL rfl rfl fun K' hK => ?_
    go_simp
    refine (HAK.out _ HD.out.b).mono ?_
    rintro e1 W5v4 ⟨rfl, hb1⟩
    replace HD := Lib.hid (HD.out.later hb1)
    refine hK _ _ HD.out.rd ?_
    clear hK K' hb1
    try simp only [Act.put, setL]
    repeat (refine tkL (v := ?_) rfl rfl rfl (fun w' hSw => ?_) HD.out.rd ?_; rotate_left; (focus (go_simp; with_reducible rfl)); simp only [setL])
    refine wpPl_goL rfl rfl fun K' hK => ?_
    go_simp
    replace HD := Lib.hid (HD.out.later (fN_below .mul p x W5v4))
    have HP1 := Lib.hid (HP.out.op (op := .mul) HX.out W5v4)
    generalize fN .mul p x W5v4 = W5v5 at *
    generalize fV .mul p x _ = p1 at *
    refine hK _ _ HD.out.rd ?_
    clear hK K'
    try simp only [Act.put, setL]
    repeat (refine tkL (v := ?_) rfl rfl rfl (fun w' hSw => ?_) HD.out.rd ?_; rotate_left; (focus (go_simp; with_reducible rfl)); simp only [setL])
    refine wpPl_nil ?_
    simp only [drL]
    go_wp2_with fail
    refine (rS_any sb _ _ p1 _ HD.out.s HP1.out).mono ?_
    rintro e7 w7 ⟨u2, rfl, hr, hs1, hu1⟩
    replace HD := Lib.hid (HD.out.step hu1 hs1)
    have HU2 := Lib.hid hr
    clear hr hs1 hu1 HP HX HAK HP1 hmul
    go_wp2
    go_roundw
    case rel => exact ⟨k + 1, u2, by omega, by go_num, rfl, Lib.hid (by rw [HSQ.out]; exact HU2.out), Lib.hid (by rw [HSQ.out]; exact HD.out)⟩
    case measure => simp [intOf] <;> omega
   ·obtain rfl : k = n := by omega
    have s0 := HD.out.s.cell 0
    have m0 := HD.out.x.cell 0
    have HBW := Lib.hid (HM.out.b.trans (HD.out.b.mono HM.out.b.size))
    generalize dtS a k = t0 at *
    obtain ⟨z, f⟩ := t0
    dsimp only at HU HFN HOK s0
    clear HD HAT HRA HM
    cases f
    ·obtain ⟨rfl, -, hE⟩ := HOK.out false rfl
     obtain ⟨rfl, hV⟩ := hE rfl
     have HV : Hid (V = u) := Lib.hid (hV.trans (HU.out.bits (HFN.out rfl)).symm)
     have hVu := HV.out
     subst hVu
     clear HOK HFN HU hV HV hE
     go_wp2
     refine bodyPost_ret (v := .tuple #[.float .f64 V, .int .i64 0, .int .i64 0]) (by simp [results, Tryz.results22, go_sem]) rfl ⟨rfl, HBW.out⟩
    ·obtain ⟨rfl, hE, -⟩ := HOK.out true rfl
     obtain ⟨rfl, rfl⟩ := hE rfl
     clear HOK HFN HU hE
     go_wp2
     refine bodyPost_ret (v := .tuple #[.float .f64 0, .int .i64 0, .int .i64 5]) (by simp [results, Tryz.results22, go_sem]) rfl ⟨rfl, HBW.out⟩
 ·obtain ⟨e1, e2, e3⟩ := det_err h0
  rw [e1, e2, e3]
  have hp := beq_eq_false_iff_ne.2 h0
  generalize cholE r c l = k at *
  generalize cholP r c l = P at *
  generalize cholN r c l = Nn at *
  generalize cholL r c l = R at *
  clear hl h0 e1 e2 e3
  obtain ⟨q0, q1, q2⟩ := HM.out.m3
  go_enter Tryz.func22, Tryz.ntmps22
  go_wp2_with fail
  refine HCH.out.mono ?_
  rintro e1 w1 ⟨u, rfl, hu, -, hb1⟩
  obtain ⟨ul, hul⟩ : ∃ ul, ul = u := ⟨_, rfl⟩
  obtain ⟨uo, uc, hue, -⟩ := id hu
  generalize List.length _ = un at hue
  subst hul
  subst hue
  replace HM := Lib.hid (HM.out.later hb1)
  clear hb1 q0 q1 q2 HCH
  clear hu
  go_wp2
  refine bodyPost_ret (v := .tuple #[.float .f64 0, .int .i64 P, .int .i64 k]) (by simp [results, Tryz.results22, go_sem]) rfl ⟨rfl, (HM.out.later (Below.alloc_self w1 _)).b⟩
end
section
open Go.RowKit
attribute [local go_sem] run_store_f
structure LwF (w0 W : World) (N mb : Nat) (r c : Int) (sl : Value) (l : List Nat) : Prop where
 m : BlkT W mb 25 #[.int .i64 r, .int .i64 c, sl]
 l : ∀ sb, N ≤ sb → FSn W sl l sb
 b : Below w0.heap.size w0 W
 ne : mb < N ∧ w0.heap.size ≤ N ∧ N ≤ W.heap.size
theorem LwF.later {w0 W V : World} {N mb : Nat} {r c : Int} {sl : Value} {l : List Nat} (h : LwF w0 W N mb r c sl l) (hb : Below W.heap.size W V) : LwF w0 V N mb r c sl l := ⟨h.m.below hb, fun sb hs => (h.l sb hs).below hb, h.b.trans (hb.mono h.b.size), by have := h.ne; have := hb.size; omega⟩
theorem LwF.fl {w0 W : World} {N mb : Nat} {r c : Int} {sl : Value} {l : List Nat} (h : LwF w0 W N mb r c sl l) : FSl W sl l := (h.l N (Nat.le_refl _)).1
theorem Upd.set3 {W : World} {b : Nat} (x y z : Value) : Upd b W (((W.setCell ⟨b, 0, none⟩ x).setCell ⟨b, 1, none⟩ y).setCell ⟨b, 2, none⟩ z) := ((Upd.set x).trans (Upd.set y)).trans (Upd.set z)
theorem FSl.upd_lt {W V : World} {v : Value} {l : List Nat} {sb : Nat} (h : FSl W v l) (hf : ∀ a c d, v = .slice (some a) c d → sb < a.block) (hu : Upd sb W V) : FSl V v l := (FSn.upd ⟨h, fun _ a c d e => by have := hf a c d e; omega⟩ hu).1
theorem LwF.upd {w0 W V : World} {N mb sb : Nat} {r c : Int} {sl : Value} {l : List Nat} (h : LwF w0 W N mb r c sl l) (hu : Upd sb W V) (hs : N ≤ sb) : LwF w0 V N mb r c sl l := by
 have hne := h.ne
 have hsz := hu.size
 refine ⟨h.m.upd hu (by omega), fun s h1 => ⟨((h.l sb hs).upd hu).1, (h.l s h1).2⟩, hu.below h.b (by omega) h.b.size, by omega⟩
theorem BlkT.set3 {W : World} {b : Nat} {x y z : Value} (u v w : Value) (h : BlkT W b 25 #[x, y, z]) : BlkT (((W.setCell ⟨b, 0, none⟩ u).setCell ⟨b, 1, none⟩ v).setCell ⟨b, 2, none⟩ w) b 25 #[u, v, w] := ((h.set (i := 0) u).set (i := 1) v).set (i := 2) w
set_option maxRecDepth 100000 in
set_option maxHeartbeats 3200000 in
theorem cholFactors_any (r c : Int) (vm : Value) (lm : List Nat) (w : World) (hm : USl w vm lm) (hT : TabB w) : Calls Tryz.prog 4 #[.int .i64 r, .int .i64 c, vm] w (Gives (.bool true) w) := by
 have HI := Lib.hid fun W (h : Below w.heap.size w W) => in9_any r c vm lm W (hm.below h)
 have HT := Lib.hid fun W (h : Below w.heap.size w W) => hT.below h
 have hE1 : ∀ E : Int, (E == E) = true := fun E => by simp
 have hE2 : ∀ E : Int, (E != E) = false := fun E => by simp
 clear hm hT
 go_enter Tryz.func4, Tryz.ntmps4
 go_wp2_with fail
 refine (HI.out _ (Below.refl _ _)).mono ?_
 rintro e0 w0 ⟨u, rfl, hu, hb0⟩
 obtain ⟨ul, hul⟩ : ∃ ul, ul = u := ⟨_, rfl⟩
 obtain ⟨uo, uc, hue, -⟩ := id hu
 generalize List.length _ = un at hue
 subst hul
 subst hue
 go_upto_region 2 with fail
 have HM : Hid (LwF w (w0.alloc (.cells #[.int .i64 r, .int .i64 c, .slice uo un uc] 25)) (w0.heap.size + 1) w0.heap.size r c (.slice uo un uc) lm) := Lib.hid ⟨BlkT.new w0 _ _, fun sb hs => (FSn.of hu (by omega)).below (Below.alloc_self _ _), hb0.alloc hb0.size _, by have := hb0.size; rw [size_alloc]; omega⟩
 obtain ⟨mb, hmb⟩ : ∃ b, w0.heap.size = b := ⟨_, rfl⟩
 rw [hmb] at HM ⊢
 generalize World.alloc w0 _ = W0 at *
 clear hmb hb0 hu HI
 obtain ⟨N0, hN0⟩ : ∃ b, mb + 1 = b := ⟨_, rfl⟩
 rw [hN0] at HM
 clear hN0
 obtain ⟨m0, m1, m2, -⟩ := HM.out.m.cells3
 go_wp2_with fail
 refine (chol_any r c _ lm _ HM.out.fl).mono ?_
 rintro e1 w1 ⟨x, rfl, hx, -, hb1⟩
 obtain ⟨xl, hxl⟩ : ∃ xl, xl = x := ⟨_, rfl⟩
 obtain ⟨xo, xc, hxe, -⟩ := id hx
 generalize List.length _ = xn at hxe
 subst hxl
 subst hxe
 replace HM := Lib.hid (HM.out.later hb1)
 have HX := Lib.hid hx
 clear hb1 hx m0 m1 m2
 have HRC := Lib.hid fun W (h : FSl W (.slice uo un uc) lm) => rchol_any r c _ lm W h
 generalize cholE r c lm = E at *
 generalize cholP r c lm = P at *
 generalize cholN r c lm = N at *
 generalize cholL r c lm = R at *
 go_upto_region 3 with fail
 have HxN : Hid (mb < w1.heap.size ∧ N0 ≤ w1.heap.size) := Lib.hid ⟨by have := HM.out.ne; omega, by have := HM.out.ne; omega⟩
 have HxB : Hid (BlkT (w1.alloc (.cells #[.int .i64 N, .int .i64 N, .slice xo xn xc] 25)) w1.heap.size 25 #[.int .i64 N, .int .i64 N, .slice xo xn xc]) := Lib.hid (BlkT.new w1 _ _)
 have HB2 := Below.alloc_self w1 (.cells #[.int .i64 N, .int .i64 N, .slice xo xn xc] 25)
 replace HX := Lib.hid (HX.out.below HB2)
 replace HM := Lib.hid (HM.out.later HB2)
 clear HB2
 obtain ⟨xb, hxb⟩ : ∃ b, w1.heap.size = b := ⟨_, rfl⟩
 rw [hxb] at HxB HxN ⊢
 generalize World.alloc w1 _ = W1 at *
 clear hxb
 obtain ⟨m0, m1, m2, -⟩ := HM.out.m.cells3
 go_wp2_with fail
 refine (HRC.out _ HM.out.fl).mono ?_
 rintro e2 w2 ⟨y, rfl, hy, -, hb1⟩
 obtain ⟨yl, hyl⟩ : ∃ yl, yl = y := ⟨_, rfl⟩
 obtain ⟨yo, yc, hye, -⟩ := id hy
 generalize List.length _ = yn at hye
 subst hyl
 subst hye
 replace HM := Lib.hid (HM.out.later hb1)
 replace HX := Lib.hid (HX.out.below hb1)
 replace HxB := Lib.hid (HxB.out.below hb1)
 have HY := Lib.hid hy
 clear hb1 hy m0 m1 m2 HRC
 go_upto_region 4 with fail
 have HXL : Hid (xb < w2.heap.size) := Lib.hid HxB.out.lt
 have HyN : Hid (mb < w2.heap.size ∧ N0 ≤ w2.heap.size) := Lib.hid ⟨by have := HM.out.ne; omega, by have := HM.out.ne; omega⟩
 have HyB : Hid (BlkT (w2.alloc (.cells #[.int .i64 N, .int .i64 N, .slice yo yn yc] 25)) w2.heap.size 25 #[.int .i64 N, .int .i64 N, .slice yo yn yc]) := Lib.hid (BlkT.new w2 _ _)
 have HB2 := Below.alloc_self w2 (.cells #[.int .i64 N, .int .i64 N, .slice yo yn yc] 25)
 replace HX := Lib.hid (HX.out.below HB2)
 replace HY := Lib.hid (HY.out.below HB2)
 replace HM := Lib.hid (HM.out.later HB2)
 replace HxB := Lib.hid (HxB.out.below HB2)
 clear HB2
 obtain ⟨yb, hyb⟩ : ∃ b, w2.heap.size = b := ⟨_, rfl⟩
 rw [hyb] at HyB HyN HXL ⊢
 have HXY : Hid (xb ≠ yb) := Lib.hid (Nat.ne_of_lt HXL.out)
 generalize World.alloc w2 _ = W2 at *
 clear hyb
 obtain ⟨x0, x1, x2, -⟩ := HxB.out.cells3
 obtain ⟨y0, y1, y2, -⟩ := HyB.out.cells3
 go_wp2_with fail
 refine (mat9_same N N _ _ _ _ HX.out HY.out).mono ?_
 rintro e3 w3 ⟨rfl, hb1⟩
 replace HM := Lib.hid (HM.out.later hb1)
 replace HxB := Lib.hid (HxB.out.below hb1)
 replace HyB := Lib.hid (HyB.out.below hb1)
 clear hb1 HX HY x0 x1 x2 y0 y1 y2
 obtain ⟨m0, m1, m2, -⟩ := HM.out.m.cells3
 go_wp2_with fail
 refine (ldl_any r c _ lm _ HM.out.fl).mono ?_
 rintro e4 w4 ⟨u, v, rfl, hu, hv, hnu, hnv, hb1⟩
 have HXM : Hid (xb < w3.heap.size ∧ yb < w3.heap.size) := Lib.hid ⟨HxB.out.lt, HyB.out.lt⟩
 replace HM := Lib.hid (HM.out.later hb1)
 replace HxB := Lib.hid (HxB.out.below hb1)
 replace HyB := Lib.hid (HyB.out.below hb1)
 have HNU : Hid (∀ a c d, u = .slice (some a) c d → xb < a.block ∧ yb < a.block) := Lib.hid fun a c d e => by have := hnu a c d e; have := HXM.out; omega
 have HNV : Hid (∀ a c d, v = .slice (some a) c d → xb < a.block ∧ yb < a.block) := Lib.hid fun a c d e => by have := hnv a c d e; have := HXM.out; omega
 have HU := Lib.hid hu
 have HV := Lib.hid hv
 obtain ⟨ao, ac, hue, -⟩ := id hu
 obtain ⟨bo, bc, hve, -⟩ := id hv
 generalize List.length _ = an at hue
 generalize List.length _ = bn at hve
 subst hue
 subst hve
 clear hb1 hu hv hnu hnv HXM m0 m1 m2
 have HRL := Lib.hid fun W (h : FSl W (.slice uo un uc) lm) => rldl_any r c _ lm W h
 generalize ldlE r c lm = E2 at *
 generalize ldlP r c lm = P2 at *
 generalize ldlN r c lm = N2 at *
 generalize ldlL r c lm = R2 at *
 generalize ldlD r c lm = D2 at *
 obtain ⟨x0, x1, x2, -⟩ := HxB.out.cells3
 have z0 := HxB.out.frozen 0
 have z1 := HxB.out.frozen 1
 have z2 := HxB.out.frozen 2
 go_upto_region 7 with fail
 clear x0 x1 x2 z0 z1 z2
 have HUP : Hid (Upd xb w4 (((w4.setCell ⟨xb, 0, none⟩ (.int .i64 N2)).setCell ⟨xb, 1, none⟩ (.int .i64 N2)).setCell ⟨xb, 2, none⟩ (.slice ao an ac))) := Lib.hid (Upd.set3 _ _ _)
 replace HxB := Lib.hid (BlkT.set3 (.int .i64 N2) (.int .i64 N2) (.slice ao an ac) HxB.out)
 replace HyB := Lib.hid (HyB.out.upd HUP.out HXY.out.symm)
 replace HM := Lib.hid (HM.out.upd HUP.out HxN.out.2)
 replace HU := Lib.hid (HU.out.upd_lt (fun a c d e => (HNU.out a c d e).1) HUP.out)
 replace HV := Lib.hid (HV.out.upd_lt (fun a c d e => (HNV.out a c d e).1) HUP.out)
 clear HUP
 generalize World.setCell (World.setCell (World.setCell w4 _ _) _ _) _ _ = W4 at *
 obtain ⟨m0, m1, m2, -⟩ := HM.out.m.cells3
 go_wp2_with fail
 refine (HRL.out _ HM.out.fl).mono ?_
 rintro e5 w5 ⟨p, q, rfl, hp, hq, hnp, hnq, hb1⟩
 have HXM : Hid (xb < W4.heap.size ∧ yb < W4.heap.size) := Lib.hid ⟨HxB.out.lt, HyB.out.lt⟩
 replace HM := Lib.hid (HM.out.later hb1)
 replace HxB := Lib.hid (HxB.out.below hb1)
 replace HyB := Lib.hid (HyB.out.below hb1)
 replace HU := Lib.hid (HU.out.below hb1)
 replace HV := Lib.hid (HV.out.below hb1)
 have HNP : Hid (∀ a c d, p = .slice (some a) c d → yb < a.block) := Lib.hid fun a c d e => by have := hnp a c d e; have := HXM.out; omega
 have HNQ : Hid (∀ a c d, q = .slice (some a) c d → yb < a.block) := Lib.hid fun a c d e => by have := hnq a c d e; have := HXM.out; omega
 have HP := Lib.hid hp
 have HQ := Lib.hid hq
 obtain ⟨co, cc, hpe, -⟩ := id hp
 obtain ⟨do', dc, hqe, -⟩ := id hq
 generalize List.length _ = cn at hpe
 generalize List.length _ = dn' at hqe
 subst hpe
 subst hqe
 clear hb1 hp hq hnp hnq HXM m0 m1 m2 HRL
 obtain ⟨y0, y1, y2, -⟩ := HyB.out.cells3
 have z0 := HyB.out.frozen 0
 have z1 := HyB.out.frozen 1
 have z2 := HyB.out.frozen 2
 go_upto_region 8 with fail
 clear y0 y1 y2 z0 z1 z2
 have HUP : Hid (Upd yb w5 (((w5.setCell ⟨yb, 0, none⟩ (.int .i64 N2)).setCell ⟨yb, 1, none⟩ (.int .i64 N2)).setCell ⟨yb, 2, none⟩ (.slice co cn cc))) := Lib.hid (Upd.set3 _ _ _)
 replace HyB := Lib.hid (BlkT.set3 (.int .i64 N2) (.int .i64 N2) (.slice co cn cc) HyB.out)
 replace HxB := Lib.hid (HxB.out.upd HUP.out HXY.out)
 replace HM := Lib.hid (HM.out.upd HUP.out HyN.out.2)
 replace HU := Lib.hid (HU.out.upd_lt (fun a c d e => (HNU.out a c d e).2) HUP.out)
 replace HV := Lib.hid (HV.out.upd_lt (fun a c d e => (HNV.out a c d e).2) HUP.out)
 replace HP := Lib.hid (HP.out.upd_lt (fun a c d e => HNP.out a c d e) HUP.out)
 replace HQ := Lib.hid (HQ.out.upd_lt (fun a c d e => HNQ.out a c d e) HUP.out)
 clear HUP HNU HNV HNP HNQ
 generalize World.setCell (World.setCell (World.setCell w5 _ _) _ _) _ _ = W5 at *
 obtain ⟨x0, x1, x2, -⟩ := HxB.out.cells3
 obtain ⟨y0, y1, y2, -⟩ := HyB.out.cells3
 go_wp2_with fail
 refine (mat9_same N2 N2 _ _ _ _ HU.out HP.out).mono ?_
 rintro e6 w6 ⟨rfl, hb1⟩
 replace HM := Lib.hid (HM.out.later hb1)
 replace HV := Lib.hid (HV.out.below hb1)
 replace HQ := Lib.hid (HQ.out.below hb1)
 clear hb1 HU HP x0 x1 x2 y0 y1 y2 HxB HyB
 go_wp2_with fail
 refine (list9_same _ _ _ _ HV.out HQ.out).mono ?_
 rintro e7 w7 ⟨rfl, hb1⟩
 replace HM := Lib.hid (HM.out.later hb1)
 clear hb1 HV HQ
 obtain ⟨m0, m1, m2, -⟩ := HM.out.m.cells3
 have HDE := Lib.hid fun W (h : FSl W (.slice uo un uc) lm) => det_any r c _ lm W h
 have HRD := Lib.hid fun W (h : FSl W (.slice uo un uc) lm) => rdet_any r c _ lm W h
 generalize detE r c lm = E3 at *
 generalize detP r c lm = P3 at *
 generalize detV r c lm = V3 at *
 go_wp2_with fail
 refine (HDE.out _ HM.out.fl).mono ?_
 rintro e8 w8 ⟨rfl, hb1⟩
 replace HM := Lib.hid (HM.out.later hb1)
 clear hb1 m0 m1 m2 HDE
 obtain ⟨m0, m1, m2, -⟩ := HM.out.m.cells3
 go_wp2_with fail
 refine (HRD.out _ HM.out.fl).mono ?_
 rintro e9 w9 ⟨rfl, hb1⟩
 replace HM := Lib.hid (HM.out.later hb1)
 clear hb1 m0 m1 m2 HRD
 have hf := fbits_eq V3
 go_wp2_with fail
 refine (awake9_any _ (HT.out _ HM.out.b)).mono ?_
 rintro e10 w10 ⟨rfl, hb1⟩
 replace HM := Lib.hid (HM.out.later hb1)
 clear hb1 hf
 go_wp2
 go_ret
 exact ⟨rfl, HM.out.b⟩
end
end Go.Proofs.YtfmecpembnmnkaaGreatDoor
