/- Walk: the references' Chol. Printed by wip/gen/ch21.py. -/
import Derived.Test.YtfmecpembnmnkaaGreatDoorLH
import Derived.Test.YtfmecpembnmnkaaGreatDoorLC
import Derived.Test.YtfmecpembnmnkaaGreatDoorLD
namespace Go.Proofs.YtfmecpembnmnkaaGreatDoor
section
open Go.RowKit
attribute [local go_sem] run_store_f
theorem dgL_upH {L : Nat → Nat → Fo} {D : Nat → Fo} {k : Nat} {v : Fo} : dgL L (updF D k v) k = dgL L D k := by
 funext i j
 unfold dgL
 by_cases h : i = j ∧ i < k
 ·rw [if_pos h, if_pos h, updF_ne (by omega)]
 ·rw [if_neg h, if_neg h]
theorem dgL_put {L : Nat → Nat → Fo} {D : Nat → Fo} {k i j : Nat} {v : Fo} (h : i ≠ j) : dgL (upd2 L i j v) D k = upd2 (dgL L D k) i j v := by
 funext a b
 show (if a = b ∧ a < k then D a else (if a = i ∧ b = j then v else L a b)) = if a = i ∧ b = j then v else (if a = b ∧ a < k then D a else L a b)
 by_cases h1 : a = i ∧ b = j
 ·rw [if_pos h1, if_neg (by omega), if_pos h1]
 ·rw [if_neg h1, if_neg h1]
theorem dgL_ne {V : Type} {L : Nat → Nat → V} {D : Nat → V} {k i j : Nat} (h : i ≠ j) : dgL L D k i j = L i j := if_neg (fun t => h t.1)
theorem dgL_at {V : Type} {L : Nat → Nat → V} {D : Nat → V} {k i : Nat} (h : i < k) : dgL L D k i i = D i := if_pos ⟨rfl, h⟩
theorem fm_at {n g i j : Nat} {vs : Nat → Nat} {M : Nat → Nat → Fo} {W : World} (hn : n ≤ 12) (hg : FMs W g (n * n) vs) (hM : LowR n M vs) (hi : i < n) (hj : j < n) : Calls Tryz.prog 51 #[MatV n n (.slice (some ⟨g, 0, none⟩) (n * n) (n * n)), .int .i64 i, .int .i64 j] W (fun e W' => ∃ v, e = .returned (.float .f64 v) ∧ Rep (M i j) v ∧ Below W.heap.size W W') :=
 (mirror_at hn hg hM hi hj (Below.refl _ _)).mono fun _ _ ⟨h1, h2⟩ => ⟨_, h1, hM i j hi hj, h2⟩
structure CqR (w0 W : World) (sb g ob n N : Nat) (lv : Value) (f : Bool) (vs : Nat → Nat) : Prop where
 r : MrR w0 W g ob n N lv vs
 s : BlkT W sb 109 #[.bool f]
 ne : w0.heap.size + 1 < sb ∧ sb ≠ g ∧ sb ≠ ob
section
variable {w0 W V : World} {sb g ob n N : Nat} {lv : Value} {f f' : Bool} {vs vs' : Nat → Nat}
theorem CqR.later (h : CqR w0 W sb g ob n N lv f vs) (hb : Below W.heap.size W V) : CqR w0 V sb g ob n N lv f vs := ⟨h.r.later hb, h.s.below hb, h.ne⟩
theorem CqR.step (h : CqR w0 W sb g ob n N lv f vs) (hu : Upd sb W V) (hs : BlkT V sb 109 #[.bool f']) : CqR w0 V sb g ob n N lv f' vs := by
 have hne := h.ne
 have hne2 := h.r.ne
 have hb : Below sb W V := ⟨hu.os, hu.tape, hu.output, hu.size, fun k hk => hu.block k (by have := h.s.lt; omega) (by omega)⟩
 exact ⟨⟨h.r.B.of_mod hb hne.1, h.r.gm.upd hu (by omega), h.r.om.upd hu (by omega), hne2⟩, hs, hne⟩
theorem CqR.put (h : CqR w0 W sb g ob n N lv f vs) (hu : Upd g W V) (hg : FMs V g N vs') : CqR w0 V sb g ob n N lv f vs' := ⟨h.r.put hu hg, h.s.upd hu (by have := h.ne; omega), h.ne⟩
end
theorem CqR.done {w0 W : World} {sb g ob n : Nat} {lv : Value} {f : Bool} {vs : Nat → Nat} {L : Nat → Nat → Fo} (h : CqR w0 W sb g ob n (n * n) lv f vs) (hl : LowR n L vs) (hf : ∀ i j, finO (L i j) = true) (hn : n ≤ 12) :
  ChA 0 0 n (matL n L) w0 (.returned (.tuple #[MatV n n (.slice (some ⟨g, 0, none⟩) (n * n) (n * n)), .int .i64 0, .int .i64 0])) (((W.setCell ⟨w0.heap.size + 1, 0, none⟩ (.int .i64 n)).setCell ⟨w0.heap.size + 1, 1, none⟩ (.int .i64 n)).setCell ⟨w0.heap.size + 1, 2, none⟩ (.slice (some ⟨g, 0, none⟩) (n * n) (n * n))) := by
 have hne := h.r.ne
 have hg : FMs (((W.setCell ⟨w0.heap.size + 1, 0, none⟩ (.int .i64 n)).setCell ⟨w0.heap.size + 1, 1, none⟩ (.int .i64 n)).setCell ⟨w0.heap.size + 1, 2, none⟩ (.slice (some ⟨g, 0, none⟩) (n * n) (n * n))) g (n * n) vs :=
  ((h.r.gm.upd (Upd.set (b := w0.heap.size + 1) _) (by omega)).upd (Upd.set (b := w0.heap.size + 1) _) (by omega)).upd (Upd.set (b := w0.heap.size + 1) _) (by omega)
 exact ⟨_, rfl, hg.matF hl hf hn, (by intro a c d e; cases e; show w0.heap.size ≤ g; omega), below_three h.r.B.b _ (Nat.le_succ _) _ _ _⟩
theorem CqR.start {w0 W : World} {g ob n N : Nat} {lv : Value} {vs : Nat → Nat} (h : MrR w0 W g ob n N lv vs) : CqR w0 (W.alloc (.cells #[.bool false] 109)) W.heap.size g ob n N lv false vs :=
 ⟨h.later (Below.alloc_self _ _), BlkT.new W _ _, by have := h.ne; have := h.gm.lt; omega, by have := h.gm.lt; omega, by have := h.om.lt; omega⟩
set_option maxRecDepth 100000 in
set_option maxHeartbeats 6400000 in
theorem rchol_any (r c : Int) (sl : Value) (l : List Nat) (w : World) (hl : FSl w sl l) :
  Calls Tryz.prog 16 #[MatV r c sl] w (ChA (cholE r c l) (cholP r c l) (cholN r c l) (cholL r c l) w) := by
 have HB := Lib.hid (ChB.new w r c sl)
 have HSQ := Lib.hid (rsymm_any r c sl l _ (hl.below (below2 w (.cells #[.int .i64 r, .int .i64 c, sl] 25) (.cells #[.int .i64 0, .int .i64 0, .slice none 0 0] 25))))
 by_cases h0 : sqrB r c l = 0
 ·obtain ⟨n, rfl, rfl, hq, -⟩ := sqr_zero h0
  have HEND := Lib.hid (fun er pl he => chol_end h0 er pl he)
  rw [h0] at HSQ
  have HFIT := Lib.hid ((chW_fit w).all (a := atO n l) (fun i j => atO_rep hl.elem_lt hq.fin i j) n)
  have hn := hq.hn
  have HAT := Lib.hid (atG_of hl hq.len rAt_any)
  have HRA := Lib.hid fun (i j : Nat) (hi : i < n) (hj : j < n) => (show Rep (atO n l i j) (atN n l i j) from ⟨hl.at_lt hq hi hj, rfl⟩)
  have HZ := Lib.hid fun W => rzero_any n n hn hn W
  have hnn : n * n ≤ 144 := Nat.mul_le_mul hn hn
  clear h0 hq hl
  generalize cholE n n l = E at *
  generalize cholP n n l = P at *
  generalize cholN n n l = Nn at *
  generalize cholL n n l = R at *
  have HFM := Lib.hid fun (g i j : Nat) (vs : Nat → Nat) (M : Nat → Nat → Fo) W (hg : FMs W g (n * n) vs) (hM : LowR n M vs) (hi : i < n) (hj : j < n) => fm_at hn hg hM hi hj
  obtain ⟨N, hN⟩ : ∃ N, n * n = N := ⟨_, rfl⟩
  rw [hN] at HZ HFM hnn
  have HN := Lib.hid hN
  clear hN
  obtain ⟨⟨m0, m1, m2⟩, ⟨q0, q1, q2⟩, f0, f1, f2⟩ := HB.out.cells
  go_enter Tryz.func16, Tryz.ntmps16
  go_wp2_with fail
  refine HSQ.out.mono ?_
  rintro e1 w1 ⟨rfl, hb1⟩
  replace HB := Lib.hid (HB.out.later hb1)
  clear hb1 m0 m1 m2 q0 q1 q2 f0 f1 f2 HSQ
  obtain ⟨⟨m0, m1, m2⟩, ⟨q0, q1, q2⟩, f0, f1, f2⟩ := HB.out.cells
  go_wp2_with fail
  refine (HZ.out _).mono ?_
  rintro e2 w2 ⟨g, rfl, hg, hgl, hb2⟩
  have HGL : Hid (w.heap.size + 1 < g) := Lib.hid (by have := HB.out.q.lt; omega)
  replace HB := Lib.hid (HB.out.later hb2)
  have HG := Lib.hid hg
  clear hb2 hg hgl m0 m1 m2 q0 q1 q2 f0 f1 f2 HZ
  go_upto_region 6 with fail
  have HM0 : Hid (MrR w (w2.alloc (.cells #[.int .i64 n, .int .i64 n, .slice (some ⟨g, 0, none⟩) N N] 25)) g w2.heap.size n N sl (fun _ => 0)) := Lib.hid ⟨HB.out.later (Below.alloc_self w2 _), HG.out.below (Below.alloc_self w2 _), BlkT.new w2 _ _, HGL.out, HG.out.lt⟩
  obtain ⟨ob, hob⟩ : ∃ b, w2.heap.size = b := ⟨_, rfl⟩
  rw [hob] at HM0 ⊢
  generalize World.alloc w2 _ = W2 at *
  clear hob HB HG HGL
  go_upto_region 7 with fail
  have HD0 := Lib.hid (CqR.start HM0.out)
  obtain ⟨sb, hsb⟩ : ∃ b, W2.heap.size = b := ⟨_, rfl⟩
  rw [hsb] at HD0 ⊢
  generalize World.alloc W2 _ = W3 at *
  clear hsb HM0
  have HL0 : Hid (LowR n (dgL (chW.all (atO n l) n 0).L (chW.all (atO n l) n 0).H 0) (fun _ => 0)) := Lib.hid (by rw [dgL_zero]; exact LowR.zero n)
  have HE0 : Hid ((chW.all (atO n l) n 0).e = 0 ∧ (chW.all (atO n l) n 0).f = false) := Lib.hid ⟨rfl, rfl⟩
  generalize atO n l = a at *
  go_wp2
  go_loopw [9] (fun j wr => ∃ (k : Nat) (vs : Nat → Nat), k ≤ n ∧ j = .int .i64 k ∧ Hid ((chW.all a n k).e = 0 ∧ (chW.all a n k).f = false) ∧ Hid (LowR n (dgL (chW.all a n k).L (chW.all a n k).H k) vs) ∧ Hid (CqR w wr sb g ob n N sl false vs)) (fun j _ => n - (intOf j).toNat)
  case atStart => exact ⟨0, _, Nat.zero_le _, rfl, HE0, HL0, HD0⟩
  case round =>
   clear HL0 HD0 HE0
   obtain ⟨wo, rfl⟩ : ∃ wo : World, wo = wr := ⟨_, rfl⟩
   obtain ⟨k, vs, hk, rfl, HE, HL, HD⟩ := hrel
   obtain ⟨m0, m1, m2⟩ := HD.out.r.B.cells.1
   by_cases hlt : k < n
   ·have HBAD := Lib.hid fun h => Way.Sticky.bad_end (ov := 5) hlt HE.out.1 h
    have HGOOD := Lib.hid fun h => chW.all_good HE.out.1 h
    have HOV := Lib.hid fun h0 h1 => chW_sticky.over_all (a := a) (n := n) (m := k + 1) (by omega) h0 h1
    have HPV : Hid (chW.pv a k (chW.all a n k) = chW.dw (chW.all a n k).L (chW.all a n k).H k k (a k k, false) k) := Lib.hid (by rw [← HE.out.2]; rfl)
    rw [HPV.out] at HBAD HGOOD
    clear HPV HE
    generalize chW.all a n k = st at *
    go_wp2_with fail
    refine (HAT.out k k _ hlt hlt HD.out.r.B.b).mono ?_
    rintro e3 w3 ⟨rfl, hb3⟩
    replace HD := Lib.hid (HD.out.later hb3)
    have HT0 : Hid (Rep (chW.dw st.L st.H k k (a k k, false) 0).1 (atN n l k k)) := Lib.hid (HRA.out k k hlt hlt)
    have HD1 : Hid (CqR w w3 sb g ob n N sl (chW.dw st.L st.H k k (a k k, false) 0).2 vs) := HD
    clear hb3 m0 m1 m2 HD
    generalize atN n l k k = x0 at HT0 ⊢
    go_wp2
    go_loopw [10, 11] (fun tv j wr => ∃ (q u : Nat), q ≤ k ∧ j = .int .i64 q ∧ tv = .float .f64 u ∧ Hid (Rep (chW.dw st.L st.H k k (a k k, false) q).1 u) ∧ Hid (CqR w wr sb g ob n N sl (chW.dw st.L st.H k k (a k k, false) q).2 vs)) (fun _ j _ => k - (intOf j).toNat)
    case atStart => exact ⟨0, _, Nat.zero_le _, rfl, rfl, HT0, HD1⟩
    case round =>
     clear HT0 HD1
     obtain ⟨q, u, hq, rfl, rfl, HU, HD⟩ := hrel
     by_cases hql : q < k
     ·have hqn : q < n := by omega
      have HSQ : Hid (chW.dw st.L st.H k k (a k k, false) (q + 1) = lesS (chW.dw st.L st.H k k (a k k, false) q) (st.L k q) (st.L k q)) := Lib.hid rfl
      generalize chW.dw st.L st.H k k (a k k, false) q = t0 at *
      have HM1 := Lib.hid fun W (hg : FMs W g N vs) => HFM.out g k q vs _ W hg HL.out hlt hqn
      have HM2 := Lib.hid fun W (hg : FMs W g N vs) => HFM.out g k q vs _ W hg HL.out hlt hqn
      rw [dgL_ne (by omega)] at HM1 HM2
      have hmul : ∀ ty u v w, (binOp .mul ty (.float .f64 u) (.float .f64 v)).run Tryz.prog w = .ok (.float .f64 (fV .mul u v w)) (fN .mul u v w) := fun ty u v w => run_float_any .mul (.inr (.inr (.inl rfl))) ty u v w
      have hsub : ∀ ty u v w, (binOp .sub ty (.float .f64 u) (.float .f64 v)).run Tryz.prog w = .ok (.float .f64 (fV .sub u v w)) (fN .sub u v w) := fun ty u v w => run_float_any .sub (.inr (.inl rfl)) ty u v w
      go_upto_region 14 with fail
      refine wp_region_pl (fun w' : World => w'.cell? ⟨ob, 0, none⟩ = some (.int .i64 n) ∧ w'.cell? ⟨ob, 1, none⟩ = some (.int .i64 n) ∧ w'.cell? ⟨ob, 2, none⟩ = some (.slice (some ⟨g, 0, none⟩) N N)) 14 (.take 0 (.take 1 (.take 2 (.take 3 (.take 4 (.take 5 (.take 7 (.take 8 (.take 9 (.run 6 (.run 10 (.run 11 (.run 12 (.run 13 .nil)))))))))))))) (by kernel_rfl) (by kernel_rfl) ?_
      replace HD := Lib.hid (HD.out.later (drew_below _))
      generalize World.drew _ = W5 at HD ⊢
      repeat (refine tkL (v := ?_) rfl rfl rfl (fun w' hSw => ?_) HD.out.r.rd.1 ?_; rotate_left; (focus (go_simp; with_reducible rfl)); simp only [setL])
      refine wpPl_goL rfl rfl fun K' hK => ?_
      go_simp
      refine (HM1.out _ HD.out.r.gm).mono ?_
      rintro e1 W5v1 ⟨x, rfl, hx, hb1⟩
      replace HD := Lib.hid (HD.out.later hb1)
      have HX := Lib.hid hx
      clear hx
      refine hK _ _ HD.out.r.rd.1 ?_
      clear hK K' hb1
      try simp only [Act.put, setL]
      repeat (refine tkL (v := ?_) rfl rfl rfl (fun w' hSw => ?_) HD.out.r.rd.1 ?_; rotate_left; (focus (go_simp; with_reducible rfl)); simp only [setL])
      refine wpPl_goL rfl rfl fun K' hK => ?_
      go_simp
      refine (HM2.out _ HD.out.r.gm).mono ?_
      rintro e1 W5v2 ⟨y, rfl, hy, hb1⟩
      replace HD := Lib.hid (HD.out.later hb1)
      have HY := Lib.hid hy
      clear hy
      refine hK _ _ HD.out.r.rd.1 ?_
      clear hK K' hb1
      try simp only [Act.put, setL]
      repeat (refine tkL (v := ?_) rfl rfl rfl (fun w' hSw => ?_) HD.out.r.rd.1 ?_; rotate_left; (focus (go_simp; with_reducible rfl)); simp only [setL])
      refine wpPl_goL rfl rfl fun K' hK => ?_
      go_simp
      replace HD := Lib.hid (HD.out.later (fN_below .mul x y W5v2))
      have HP := Lib.hid (HX.out.op (op := .mul) HY.out W5v2)
      generalize fN .mul x y W5v2 = W5v3 at *
      generalize fV .mul x y _ = p0 at *
      refine hK _ _ HD.out.r.rd.1 ?_
      clear hK K'
      try simp only [Act.put, setL]
      repeat (refine tkL (v := ?_) rfl rfl rfl (fun w' hSw => ?_) HD.out.r.rd.1 ?_; rotate_left; (focus (go_simp; with_reducible rfl)); simp only [setL])
      refine wpPl_goL rfl rfl fun K' hK => ?_
      go_simp
      refine (rS_any sb _ _ p0 _ HD.out.s HP.out).mono ?_
      rintro e1 W5v4 ⟨p, rfl, hp, hs1, hu1⟩
      replace HD := Lib.hid (HD.out.step hu1 hs1)
      have HP2 := Lib.hid hp
      clear hp hs1 hu1 HX HY HP
      refine hK _ _ HD.out.r.rd.1 ?_
      clear hK K'
      try simp only [Act.put, setL]
      repeat (refine tkL (v := ?_) rfl rfl rfl (fun w' hSw => ?_) HD.out.r.rd.1 ?_; rotate_left; (focus (go_simp; with_reducible rfl)); simp only [setL])
      refine wpPl_goL rfl rfl fun K' hK => ?_
      go_simp
      replace HD := Lib.hid (HD.out.later (fN_below .sub u p W5v4))
      have HT := Lib.hid (HU.out.op (op := .sub) HP2.out W5v4)
      generalize fN .sub u p W5v4 = W5v5 at *
      generalize fV .sub u p _ = t1 at *
      refine hK _ _ HD.out.r.rd.1 ?_
      clear hK K'
      try simp only [Act.put, setL]
      repeat (refine tkL (v := ?_) rfl rfl rfl (fun w' hSw => ?_) HD.out.r.rd.1 ?_; rotate_left; (focus (go_simp; with_reducible rfl)); simp only [setL])
      refine wpPl_nil ?_
      simp only [drL]
      go_wp2_with fail
      refine (rS_any sb _ _ t1 _ HD.out.s HT.out).mono ?_
      rintro e7 w7 ⟨u2, rfl, hr, hs1, hu1⟩
      replace HD := Lib.hid (HD.out.step hu1 hs1)
      have HU2 := Lib.hid hr
      clear hr hs1 hu1 HU HP2 HT hmul hsub
      go_wp2
      go_roundw
      case rel => exact ⟨q + 1, u2, by omega, by go_num, rfl, Lib.hid (by rw [HSQ.out]; exact HU2.out), Lib.hid (by rw [HSQ.out]; exact HD.out)⟩
      case measure => simp [intOf] <;> omega
     ·obtain rfl : q = k := by omega
      obtain ⟨pv, hpv⟩ : ∃ x, chW.dw st.L st.H q q (a q q, false) q = x := ⟨_, rfl⟩
      rw [hpv] at HU HD HBAD HGOOD
      clear hpv
      obtain ⟨d, f⟩ := pv
      dsimp only at HU HD
      have s0 := HD.out.s.cell 0
      obtain ⟨⟨m0, m1, m2⟩, ⟨q0, q1, q2⟩, f0, f1, f2⟩ := HD.out.r.B.cells
      cases f
      ·have HG := Lib.hid (gt_rep HU.out)
       obtain ⟨gb, hgb⟩ : ∃ b, gtO d = b := ⟨_, rfl⟩
       have hg0 := HG.out
       rw [hgb] at hg0
       cases gb
       ·have HHD : Hid (chW.head (d, false) = (some 0, 90)) := Lib.hid (by show (if gtO d then (sqO d, (0 : Int)) else (some 0, 90)) = _; rw [hgb]; rfl)
        have hres := HBAD.out (by rw [HHD.out]; exact (show (90 : Int) ≠ 0 by decide))
        rw [HHD.out] at hres
        obtain ⟨rfl, rfl, hE, -⟩ := HEND.out 90 q hres
        obtain ⟨rfl, rfl⟩ := hE (by decide)
        have HBB := Lib.hid HD.out.r.B
        clear HEND HFIT HD HBAD HGOOD HOV hres
        go_wp2
        exact bodyPost_ret (v := .tuple #[MatV 0 0 (.slice none 0 0), .int .i64 ((P : Nat) : Int), .int .i64 90]) (by simp [results, Tryz.results16, go_sem, q0, q1, q2]) rfl HBB.out.err
       ·have HHD : Hid (chW.head (d, false) = (sqO d, 0)) := Lib.hid (by show (if gtO d then (sqO d, (0 : Int)) else (some 0, 90)) = _; rw [hgb]; rfl)
        obtain ⟨rt, hrt, hrr⟩ := rep_sqrt HU.out hgb
        have HQ := Lib.hid fun W => sqrt_any u rt hrt W
        have HRT := Lib.hid hrr
        have HGD := Lib.hid (HGOOD.out (by rw [HHD.out]))
        rw [HHD.out] at HGD
        dsimp only at HGD
        clear HBAD HGOOD hrt hrr q0 q1 q2 f0 f1 f2 m0 m1 m2
        obtain ⟨⟨x0, x1, x2⟩, -⟩ := HD.out.r.rd
        go_upto_region 19 with fail
        clear s0 x0 x1 x2
        refine wp_region_pl (fun w' : World => w'.cell? ⟨ob, 0, none⟩ = some (.int .i64 n) ∧ w'.cell? ⟨ob, 1, none⟩ = some (.int .i64 n) ∧ w'.cell? ⟨ob, 2, none⟩ = some (.slice (some ⟨g, 0, none⟩) N N)) 5 (.take 0 (.take 1 (.take 2 (.take 3 (.run 4 .nil))))) (by kernel_rfl) (by kernel_rfl) ?_
        replace HD := Lib.hid (HD.out.later (drew_below _))
        generalize World.drew _ = W9 at HD ⊢
        repeat (refine tkL (v := ?_) rfl rfl rfl (fun w' hSw => ?_) HD.out.r.rd.1 ?_; rotate_left; (focus (go_simp; with_reducible rfl)); simp only [setL])
        refine wpPl_goL rfl rfl fun K' hK => ?_
        go_simp
        refine (HQ.out _).mono ?_
        rintro e1 W9v1 ⟨rfl, hb1⟩
        replace HD := Lib.hid (HD.out.later hb1)
        refine hK _ _ HD.out.r.rd.1 ?_
        clear hK K' hb1
        try simp only [Act.put, setL]
        repeat (refine tkL (v := ?_) rfl rfl rfl (fun w' hSw => ?_) HD.out.r.rd.1 ?_; rotate_left; (focus (go_simp; with_reducible rfl)); simp only [setL])
        refine wpPl_nil ?_
        simp only [drL]
        have HPN : Hid (q * n + q < N) := Lib.hid (by rw [← HN.out]; exact at_lt hlt hlt)
        go_wp2_with fail
        refine (r9put_any g n N q q _ rt n _ _ HD.out.r.gm rfl HPN.out (by omega)).mono ?_
        rintro e8 w8 ⟨rfl, hg8, hu8⟩
        replace HD := Lib.hid (HD.out.put hu8 hg8)
        have HL1 : Hid (LowR n (dgL (chW.rows a (updF st.H q (sqO d)) (sqO d) q (q + 1) (st.L, false)).1 (updF st.H q (sqO d)) (q + 1)) (updF vs (q * n + q) rt)) := Lib.hid (by rw [chW.rows_skip _ _ _ _ _ _ (Nat.le_refl _), dgL_succ, dgL_upH, updF_self]; exact HL.out.set hlt HRT.out)
        have HD2 : Hid (CqR w w8 sb g ob n N sl (chW.rows a (updF st.H q (sqO d)) (sqO d) q (q + 1) (st.L, false)).2 (updF vs (q * n + q) rt)) := Lib.hid (by rw [chW.rows_skip _ _ _ _ _ _ (Nat.le_refl _)]; exact HD.out)
        clear hg8 hu8 HL HD HG hg0 hgb
        generalize updF vs (q * n + q) rt = vs1 at *
        generalize hHH : updF st.H q (sqO d) = H1 at *
        generalize sqO d = hh at *
        have HH1 : Hid (H1 q = hh) := Lib.hid (by rw [← hHH, updF_self])
        clear hHH
        go_wp2
        go_loopw [12] (fun iv wr => ∃ (i : Nat) (vs : Nat → Nat), q + 1 ≤ i ∧ i ≤ n ∧ iv = .int .i64 i ∧ Hid (LowR n (dgL (chW.rows a H1 hh q i (st.L, false)).1 H1 (q + 1)) vs) ∧ Hid (CqR w wr sb g ob n N sl (chW.rows a H1 hh q i (st.L, false)).2 vs)) (fun iv _ => n - (intOf iv).toNat)
        case atStart => exact ⟨q + 1, vs1, Nat.le_refl _, by omega, by go_num, HL1, HD2⟩
        case round =>
         clear HL1 HD2
         obtain ⟨wo2, rfl⟩ : ∃ wo : World, wo = wr := ⟨_, rfl⟩
         obtain ⟨i, vs, hi1, hi2, rfl, HL, HD⟩ := hrel
         obtain ⟨m0, m1, m2⟩ := HD.out.r.B.cells.1
         obtain ⟨k, hkq⟩ : ∃ k, q = k := ⟨_, rfl⟩
         subst hkq
         by_cases hin : i < n
         ·have HSS := Lib.hid (chW.rows_succ (a := a) (H := H1) (h := hh) (s := (st.L, false)) (show q < i by omega))
          generalize chW.rows a H1 hh q i (st.L, false) = rs at *
          obtain ⟨L2, f2⟩ := rs
          dsimp only at HL HD HSS
          go_wp2_with fail
          refine (HAT.out i q _ hin hlt HD.out.r.B.b).mono ?_
          rintro e3 w3 ⟨rfl, hb3⟩
          replace HD := Lib.hid (HD.out.later hb3)
          have HT0 : Hid (Rep (chW.dw L2 H1 i q (a i q, f2) 0).1 (atN n l i q)) := Lib.hid (HRA.out i q hin hlt)
          have HD1 : Hid (CqR w w3 sb g ob n N sl (chW.dw L2 H1 i q (a i q, f2) 0).2 vs) := HD
          clear hb3 m0 m1 m2 HD
          generalize atN n l i q = x0 at HT0 ⊢
          go_wp2
          go_loopw [13, 14] (fun tv j wr => ∃ (q2 u : Nat), q2 ≤ q ∧ j = .int .i64 q2 ∧ tv = .float .f64 u ∧ Hid (Rep (chW.dw L2 H1 i q (a i q, f2) q2).1 u) ∧ Hid (CqR w wr sb g ob n N sl (chW.dw L2 H1 i q (a i q, f2) q2).2 vs)) (fun _ j _ => q - (intOf j).toNat)
          case atStart => exact ⟨0, _, Nat.zero_le _, rfl, rfl, HT0, HD1⟩
          case round =>
           clear HT0 HD1
           obtain ⟨q2, u, hq, rfl, rfl, HU, HD⟩ := hrel
           by_cases hql : q2 < q
           ·have hqn : q2 < n := by omega
            have HSQ : Hid (chW.dw L2 H1 i q (a i q, f2) (q2 + 1) = lesS (chW.dw L2 H1 i q (a i q, f2) q2) (L2 i q2) (L2 q q2)) := Lib.hid rfl
            generalize chW.dw L2 H1 i q (a i q, f2) q2 = t0 at *
            have HM1 := Lib.hid fun W (hg : FMs W g N vs) => HFM.out g i q2 vs _ W hg HL.out hin hqn
            have HM2 := Lib.hid fun W (hg : FMs W g N vs) => HFM.out g q q2 vs _ W hg HL.out hlt hqn
            rw [dgL_ne (by omega)] at HM1 HM2
            have hmul : ∀ ty u v w, (binOp .mul ty (.float .f64 u) (.float .f64 v)).run Tryz.prog w = .ok (.float .f64 (fV .mul u v w)) (fN .mul u v w) := fun ty u v w => run_float_any .mul (.inr (.inr (.inl rfl))) ty u v w
            have hsub : ∀ ty u v w, (binOp .sub ty (.float .f64 u) (.float .f64 v)).run Tryz.prog w = .ok (.float .f64 (fV .sub u v w)) (fN .sub u v w) := fun ty u v w => run_float_any .sub (.inr (.inl rfl)) ty u v w
            go_upto_region 27 with fail
            refine wp_region_pl (fun w' : World => w'.cell? ⟨ob, 0, none⟩ = some (.int .i64 n) ∧ w'.cell? ⟨ob, 1, none⟩ = some (.int .i64 n) ∧ w'.cell? ⟨ob, 2, none⟩ = some (.slice (some ⟨g, 0, none⟩) N N)) 14 (.take 0 (.take 1 (.take 2 (.take 3 (.take 4 (.take 5 (.take 7 (.take 8 (.take 9 (.run 6 (.run 10 (.run 11 (.run 12 (.run 13 .nil)))))))))))))) (by kernel_rfl) (by kernel_rfl) ?_
            replace HD := Lib.hid (HD.out.later (drew_below _))
            generalize World.drew _ = Wa at HD ⊢
            repeat (refine tkL (v := ?_) rfl rfl rfl (fun w' hSw => ?_) HD.out.r.rd.1 ?_; rotate_left; (focus (go_simp; with_reducible rfl)); simp only [setL])
            refine wpPl_goL rfl rfl fun K' hK => ?_
            go_simp
            refine (HM1.out _ HD.out.r.gm).mono ?_
            rintro e1 Wav1 ⟨x, rfl, hx, hb1⟩
            replace HD := Lib.hid (HD.out.later hb1)
            have HX := Lib.hid hx
            clear hx
            refine hK _ _ HD.out.r.rd.1 ?_
            clear hK K' hb1
            try simp only [Act.put, setL]
            repeat (refine tkL (v := ?_) rfl rfl rfl (fun w' hSw => ?_) HD.out.r.rd.1 ?_; rotate_left; (focus (go_simp; with_reducible rfl)); simp only [setL])
            refine wpPl_goL rfl rfl fun K' hK => ?_
            go_simp
            refine (HM2.out _ HD.out.r.gm).mono ?_
            rintro e1 Wav2 ⟨y, rfl, hy, hb1⟩
            replace HD := Lib.hid (HD.out.later hb1)
            have HY := Lib.hid hy
            clear hy
            refine hK _ _ HD.out.r.rd.1 ?_
            clear hK K' hb1
            try simp only [Act.put, setL]
            repeat (refine tkL (v := ?_) rfl rfl rfl (fun w' hSw => ?_) HD.out.r.rd.1 ?_; rotate_left; (focus (go_simp; with_reducible rfl)); simp only [setL])
            refine wpPl_goL rfl rfl fun K' hK => ?_
            go_simp
            replace HD := Lib.hid (HD.out.later (fN_below .mul x y Wav2))
            have HP := Lib.hid (HX.out.op (op := .mul) HY.out Wav2)
            generalize fN .mul x y Wav2 = Wav3 at *
            generalize fV .mul x y _ = p0 at *
            refine hK _ _ HD.out.r.rd.1 ?_
            clear hK K'
            try simp only [Act.put, setL]
            repeat (refine tkL (v := ?_) rfl rfl rfl (fun w' hSw => ?_) HD.out.r.rd.1 ?_; rotate_left; (focus (go_simp; with_reducible rfl)); simp only [setL])
            refine wpPl_goL rfl rfl fun K' hK => ?_
            go_simp
            refine (rS_any sb _ _ p0 _ HD.out.s HP.out).mono ?_
            rintro e1 Wav4 ⟨p, rfl, hp, hs1, hu1⟩
            replace HD := Lib.hid (HD.out.step hu1 hs1)
            have HP2 := Lib.hid hp
            clear hp hs1 hu1 HX HY HP
            refine hK _ _ HD.out.r.rd.1 ?_
            clear hK K'
            try simp only [Act.put, setL]
            repeat (refine tkL (v := ?_) rfl rfl rfl (fun w' hSw => ?_) HD.out.r.rd.1 ?_; rotate_left; (focus (go_simp; with_reducible rfl)); simp only [setL])
            refine wpPl_goL rfl rfl fun K' hK => ?_
            go_simp
            replace HD := Lib.hid (HD.out.later (fN_below .sub u p Wav4))
            have HT := Lib.hid (HU.out.op (op := .sub) HP2.out Wav4)
            generalize fN .sub u p Wav4 = Wav5 at *
            generalize fV .sub u p _ = t1 at *
            refine hK _ _ HD.out.r.rd.1 ?_
            clear hK K'
            try simp only [Act.put, setL]
            repeat (refine tkL (v := ?_) rfl rfl rfl (fun w' hSw => ?_) HD.out.r.rd.1 ?_; rotate_left; (focus (go_simp; with_reducible rfl)); simp only [setL])
            refine wpPl_nil ?_
            simp only [drL]
            go_wp2_with fail
            refine (rS_any sb _ _ t1 _ HD.out.s HT.out).mono ?_
            rintro e7 w7 ⟨u2, rfl, hr, hs1, hu1⟩
            replace HD := Lib.hid (HD.out.step hu1 hs1)
            have HU2 := Lib.hid hr
            clear hr hs1 hu1 HU HP2 HT hmul hsub
            go_wp2
            go_roundw
            case rel => exact ⟨q2 + 1, u2, by omega, by go_num, rfl, Lib.hid (by rw [HSQ.out]; exact HU2.out), Lib.hid (by rw [HSQ.out]; exact HD.out)⟩
            case measure => simp [intOf] <;> omega
           ·obtain rfl : q2 = q := by omega
            obtain ⟨x0, x1, x2⟩ := HD.out.r.rd.1
            have HMD := Lib.hid fun W (hg : FMs W g N vs) => HFM.out g q2 q2 vs _ W hg HL.out hlt hlt
            rw [dgL_at (Nat.lt_succ_self _), HH1.out] at HMD
            generalize chW.dw L2 H1 i q2 (a i q2, f2) q2 = t0 at *
            obtain ⟨tt, ft⟩ := t0
            dsimp only at HU HD
            have HSE : Hid (chW.rows a H1 hh q2 (i + 1) (st.L, false) = (upd2 L2 i q2 (oA .quo tt hh), ovr ft (oA .quo tt hh))) := HSS
            clear HSS
            have hquo : ∀ ty u v w, (binOp .quo ty (.float .f64 u) (.float .f64 v)).run Tryz.prog w = .ok (.float .f64 (fV .quo u v w)) (fN .quo u v w) := fun ty u v w => run_float_any .quo (.inr (.inr (.inr rfl))) ty u v w
            go_upto_region 28 with fail
            clear x0 x1 x2
            refine wp_region_pl (fun w' : World => w'.cell? ⟨ob, 0, none⟩ = some (.int .i64 n) ∧ w'.cell? ⟨ob, 1, none⟩ = some (.int .i64 n) ∧ w'.cell? ⟨ob, 2, none⟩ = some (.slice (some ⟨g, 0, none⟩) N N)) 11 (.take 0 (.take 1 (.take 2 (.take 3 (.take 4 (.take 5 (.take 6 (.take 7 (.run 8 (.run 9 (.run 10 .nil))))))))))) (by kernel_rfl) (by kernel_rfl) ?_
            replace HD := Lib.hid (HD.out.later (drew_below _))
            generalize World.drew _ = Wb at HD ⊢
            repeat (refine tkL (v := ?_) rfl rfl rfl (fun w' hSw => ?_) HD.out.r.rd.1 ?_; rotate_left; (focus (go_simp; with_reducible rfl)); simp only [setL])
            refine wpPl_goL rfl rfl fun K' hK => ?_
            go_simp
            refine (HMD.out _ HD.out.r.gm).mono ?_
            rintro e1 Wbv1 ⟨y, rfl, hy, hb1⟩
            replace HD := Lib.hid (HD.out.later hb1)
            have HY := Lib.hid hy
            clear hy
            refine hK _ _ HD.out.r.rd.1 ?_
            clear hK K' hb1
            try simp only [Act.put, setL]
            repeat (refine tkL (v := ?_) rfl rfl rfl (fun w' hSw => ?_) HD.out.r.rd.1 ?_; rotate_left; (focus (go_simp; with_reducible rfl)); simp only [setL])
            refine wpPl_goL rfl rfl fun K' hK => ?_
            go_simp
            replace HD := Lib.hid (HD.out.later (fN_below .quo u y Wbv1))
            have HP := Lib.hid (HU.out.op (op := .quo) HY.out Wbv1)
            generalize fN .quo u y Wbv1 = Wbv2 at *
            generalize fV .quo u y _ = p0 at *
            refine hK _ _ HD.out.r.rd.1 ?_
            clear hK K'
            try simp only [Act.put, setL]
            repeat (refine tkL (v := ?_) rfl rfl rfl (fun w' hSw => ?_) HD.out.r.rd.1 ?_; rotate_left; (focus (go_simp; with_reducible rfl)); simp only [setL])
            refine wpPl_goL rfl rfl fun K' hK => ?_
            go_simp
            refine (rS_any sb _ _ p0 _ HD.out.s HP.out).mono ?_
            rintro e1 Wbv3 ⟨z, rfl, hz, hs1, hu1⟩
            replace HD := Lib.hid (HD.out.step hu1 hs1)
            have HZZ := Lib.hid hz
            clear hz hs1 hu1 HY HP HU
            refine hK _ _ HD.out.r.rd.1 ?_
            clear hK K'
            try simp only [Act.put, setL]
            repeat (refine tkL (v := ?_) rfl rfl rfl (fun w' hSw => ?_) HD.out.r.rd.1 ?_; rotate_left; (focus (go_simp; with_reducible rfl)); simp only [setL])
            refine wpPl_nil ?_
            simp only [drL]
            have HPN : Hid (i * n + q2 < N) := Lib.hid (by rw [← HN.out]; exact at_lt hin hlt)
            go_wp2_with fail
            refine (r9put_any g n N i q2 _ z n _ _ HD.out.r.gm rfl HPN.out (by omega)).mono ?_
            rintro e8 w8 ⟨rfl, hg8, hu8⟩
            replace HD := Lib.hid (HD.out.put hu8 hg8)
            clear hg8 hu8 hquo
            go_wp2
            go_roundw
            case rel => exact ⟨i + 1, _, by omega, by omega, by go_num, Lib.hid (by rw [HSE.out, dgL_put (by omega)]; exact HL.out.set hlt HZZ.out), Lib.hid (by rw [HSE.out]; exact HD.out)⟩
            case measure => simp [intOf] <;> omega
         ·obtain rfl : i = n := by omega
          have s0 := HD.out.s.cell 0
          have HGE : Hid ((chW.all a i (q + 1)).e = 0 ∧ (chW.all a i (q + 1)).f = (chW.rows a H1 hh q i (st.L, false)).2 ∧ (chW.all a i (q + 1)).L = (chW.rows a H1 hh q i (st.L, false)).1 ∧ (chW.all a i (q + 1)).H = H1) := Lib.hid (by rw [HGD.out]; exact ⟨rfl, rfl, rfl, rfl⟩)
          obtain ⟨bf, hbf⟩ : ∃ b, (chW.rows a H1 hh q i (st.L, false)).2 = b := ⟨_, rfl⟩
          rw [hbf] at s0 HD HGE
          obtain ⟨-, ⟨q0, q1, q2⟩, f0, f1, f2⟩ := HD.out.r.B.cells
          cases bf
          ·clear q0 q1 q2 f0 f1 f2
           go_wp2
           go_roundw
           case rel => exact ⟨q + 1, vs, by omega, by go_num, Lib.hid ⟨HGE.out.1, HGE.out.2.1⟩, Lib.hid (by rw [HGE.out.2.2.1, HGE.out.2.2.2]; exact HL.out), HD⟩
           case measure => simp [intOf] <;> omega
          ·have hres := HOV.out HGE.out.1 HGE.out.2.1
           obtain ⟨rfl, rfl, hE, -⟩ := HEND.out 5 0 hres
           obtain ⟨rfl, rfl⟩ := hE (by decide)
           have HBB := Lib.hid HD.out.r.B
           clear HEND HFIT HD HOV hres
           go_wp2
           exact bodyPost_ret (v := .tuple #[MatV 0 0 (.slice none 0 0), .int .i64 (((0 : Nat)) : Int), .int .i64 5]) (by simp [results, Tryz.results16, go_sem, q0, q1, q2]) rfl HBB.out.err
      ·have HHD : Hid (chW.head (d, true) = (some 0, 5)) := Lib.hid rfl
       have hres := HBAD.out (by rw [HHD.out]; exact (show (5 : Int) ≠ 0 by decide))
       rw [HHD.out] at hres
       obtain ⟨rfl, rfl, hE, -⟩ := HEND.out 5 0 hres
       obtain ⟨rfl, rfl⟩ := hE (by decide)
       have HBB := Lib.hid HD.out.r.B
       clear HEND HFIT HD HBAD HGOOD HOV hres
       go_wp2
       exact bodyPost_ret (v := .tuple #[MatV 0 0 (.slice none 0 0), .int .i64 (((0 : Nat)) : Int), .int .i64 5]) (by simp [results, Tryz.results16, go_sem, q0, q1, q2]) rfl HBB.out.err
   ·obtain rfl : k = n := by omega
    have HF := Lib.hid ((HFIT.out k HE.out.1).2.2 HE.out.2)
    obtain ⟨rfl, rfl, -, hE⟩ := HEND.out 0 0 (res_ok HE.out.1 HE.out.2)
    obtain ⟨rfl, rfl⟩ := hE rfl
    have hN := HN.out
    subst hN
    have HDN := Lib.hid (HD.out.done HL.out (dg_fin HF.out.1 HF.out.2) hn)
    obtain ⟨x0, x1, x2⟩ := HD.out.r.rd.1
    obtain ⟨-, ⟨q0, q1, q2⟩, f0, f1, f2⟩ := HD.out.r.B.cells
    clear HD HEND HFIT
    go_wp2
    exact bodyPost_ret (v := .tuple #[MatV k k (.slice (some ⟨g, 0, none⟩) (k * k) (k * k)), .int .i64 0, .int .i64 0]) (by simp [results, Tryz.results16, go_sem, q0, q1, q2]) rfl HDN.out
 ·obtain ⟨e1, e2, e3, e4⟩ := cholE_err h0
  rw [e1, e2, e3, e4]
  have hp := beq_eq_false_iff_ne.2 h0
  generalize sqrB r c l = k at *
  clear hl h0 e1 e2 e3 e4
  obtain ⟨⟨m0, m1, m2⟩, ⟨q0, q1, q2⟩, f0, f1, f2⟩ := HB.out.cells
  go_enter Tryz.func16, Tryz.ntmps16
  go_wp2_with fail
  refine HSQ.out.mono ?_
  rintro e1 w1 ⟨rfl, hb1⟩
  replace HB := Lib.hid (HB.out.later hb1)
  clear hb1 m0 m1 m2 q0 q1 q2 f0 f1 f2 HSQ
  obtain ⟨⟨m0, m1, m2⟩, ⟨q0, q1, q2⟩, f0, f1, f2⟩ := HB.out.cells
  go_wp2
  exact bodyPost_ret (v := .tuple #[MatV 0 0 (.slice none 0 0), .int .i64 ((0 : Nat) : Int), .int .i64 k]) (by simp [results, Tryz.results16, go_sem, q0, q1, q2]) rfl HB.out.err
end
section
open Go.RowKit
attribute [local go_sem] run_store_f
structure PvL (W : World) (vb B j : Nat) (v : Value) (H : Nat → Fo) (hs : Nat → Nat) : Prop where
 p : BlkT W vb 23 #[v]
 o : OwF W B v j hs
 r : RepF j H hs
theorem PvL.below {W V : World} {vb B j : Nat} {v : Value} {H : Nat → Fo} {hs : Nat → Nat} (h : PvL W vb B j v H hs) (hb : Below W.heap.size W V) : PvL V vb B j v H hs := ⟨h.p.below hb, h.o.later hb, h.r⟩
theorem PvL.upd {W V : World} {vb B j sb : Nat} {v : Value} {H : Nat → Fo} {hs : Nat → Nat} (h : PvL W vb B j v H hs) (hu : Upd sb W V) (h1 : vb ≠ sb) (h2 : sb < B) : PvL V vb B j v H hs := ⟨h.p.upd hu h1, h.o.upd hu h2, h.r⟩
structure L1R (w0 W : World) (sb pb vb B j : Nat) (v : Value) (H : Nat → Fo) (hs : Nat → Nat) (f : Bool) : Prop where
 p : PsR w0 W sb pb f
 v : PvL W vb B j v H hs
 ne : vb ≠ sb ∧ sb < B
theorem L1R.below {w0 W V : World} {sb pb vb B j : Nat} {v : Value} {H : Nat → Fo} {hs : Nat → Nat} {f : Bool} (h : L1R w0 W sb pb vb B j v H hs f) (hb : Below W.heap.size W V) : L1R w0 V sb pb vb B j v H hs f := ⟨h.p.below hb, h.v.below hb, h.ne⟩
theorem L1R.step {w0 W V : World} {sb pb vb B j : Nat} {v : Value} {H : Nat → Fo} {hs : Nat → Nat} {f g : Bool} (h : L1R w0 W sb pb vb B j v H hs f) (hu : Upd sb W V) (hs2 : BlkT V sb 94 #[.bool g]) : L1R w0 V sb pb vb B j v H hs g := ⟨h.p.step hu hs2, h.v.upd hu h.ne.1 h.ne.2, h.ne⟩
theorem L1R.rd {w0 W : World} {sb pb vb B j k g cap : Nat} {H : Nat → Fo} {hs : Nat → Nat} {f : Bool} (h : L1R w0 W sb pb vb B j (.slice (some ⟨g, 0, none⟩) j cap) H hs f) (hk : k < j) : W.cell? ⟨pb, 0, none⟩ = some (.pointer (some ⟨sb, 0, none⟩)) ∧ W.cell? ⟨vb, 0, none⟩ = some (.slice (some ⟨g, 0, none⟩) j cap) ∧ W.cell? ⟨g, k, none⟩ = some (.float .f64 (hs k)) := by
 obtain ⟨g2, e, h1, -⟩ := h.v.o.cell hk
 cases e
 exact ⟨h.p.p.cell 0, h.v.p.cell 0, h1⟩
set_option maxRecDepth 100000 in
set_option maxHeartbeats 3200000 in
theorem lless_any (sb pb vb B k j : Nat) (f : Bool) (z x y : Fo) (t u v : Nat) (pv : Value) (H : Nat → Fo) (hh : Nat → Nat) (w : World) (hp : BlkT w pb 92 #[.pointer (some ⟨sb, 0, none⟩)]) (hn : pb ≠ sb) (hs : BlkT w sb 94 #[.bool f]) (hv : PvL w vb B j pv H hh) (hvn : vb ≠ sb ∧ sb < B) (hk : k < j) (ht : Rep z t) (hx : Rep x u) (hy : Rep y v) :
  Calls Tryz.prog 63 #[.float .f64 t, .float .f64 u, .float .f64 v, .int .i64 k, .pointer (some ⟨pb, 0, none⟩), .pointer (some ⟨vb, 0, none⟩)] w (StepW 94 sb (les3 (z, f) x y (H k)).2 (les3 (z, f) x y (H k)).1 w) := by
 obtain ⟨vo, vc, rfl⟩ := hv.o.shape
 obtain ⟨g, rfl, -⟩ := hv.o.cell hk
 have HQ := Lib.hid (hv.r k hk)
 have HP : Hid (L1R w w sb pb vb B j (.slice (some ⟨g, 0, none⟩) j vc) H hh f) := Lib.hid ⟨PsR.new hp hs hn, hv, hvn⟩
 have HK := Lib.hid hk
 have HT := Lib.hid ht
 have HX := Lib.hid hx
 have HY := Lib.hid hy
 have HO : Hid (les3 (z, f) x y (H k) = (oA .sub z (oA .mul (oA .mul x y) (H k)), ovr (ovr (ovr f (oA .mul x y)) (oA .mul (oA .mul x y) (H k))) (oA .sub z (oA .mul (oA .mul x y) (H k))))) := Lib.hid rfl
 generalize les3 (z, f) x y (H k) = o at *
 clear hp hs hn hv hvn ht hx hy
 go_enter Tryz.func63, Tryz.ntmps63
 go_upto_region 1 with fail
 refine wp_region_pl (fun w' : World => w'.cell? ⟨pb, 0, none⟩ = some (.pointer (some ⟨sb, 0, none⟩)) ∧ w'.cell? ⟨vb, 0, none⟩ = some (.slice (some ⟨g, 0, none⟩) j vc) ∧ w'.cell? ⟨g, k, none⟩ = some (.float .f64 (hh k))) 12 (.take 0 (.take 1 (.take 2 (.take 3 (.take 4 (.take 5 (.take 7 (.take 8 (.take 9 (.take 10 (.run 6 (.run 11 .nil)))))))))))) (by kernel_rfl) (by kernel_rfl) ?_
 replace HP := Lib.hid (HP.out.below (drew_below _))
 generalize World.drew _ = W5 at HP ⊢
 repeat (refine tkL (v := ?_) rfl rfl rfl (fun w' hSw => ?_) (HP.out.rd HK.out) ?_; rotate_left; (focus (go_simp; with_reducible rfl)); simp only [setL])
 refine wpPl_goL rfl rfl fun K' hK => ?_
 go_simp
 refine (stTimes_any sb _ x y u v _ HP.out.p.s HX.out HY.out).mono ?_
 rintro e1 W5v1 ⟨p, rfl, hp, hs1, hu1⟩
 replace HP := Lib.hid (HP.out.step hu1 hs1)
 have HM := Lib.hid hp
 clear hp hs1 hu1
 refine hK _ _ (HP.out.rd HK.out) ?_
 clear hK K'
 try simp only [Act.put, setL]
 repeat (refine tkL (v := ?_) rfl rfl rfl (fun w' hSw => ?_) (HP.out.rd HK.out) ?_; rotate_left; (focus (go_simp; with_reducible rfl)); simp only [setL])
 refine wpPl_goL rfl rfl fun K' hK => ?_
 go_simp
 refine (stTimes_any sb _ _ (H k) p (hh k) _ HP.out.p.s HM.out HQ.out).mono ?_
 rintro e1 W5v2 ⟨p2, rfl, hp, hs1, hu1⟩
 replace HP := Lib.hid (HP.out.step hu1 hs1)
 have HM2 := Lib.hid hp
 clear hp hs1 hu1
 refine hK _ _ (HP.out.rd HK.out) ?_
 clear hK K'
 try simp only [Act.put, setL]
 repeat (refine tkL (v := ?_) rfl rfl rfl (fun w' hSw => ?_) (HP.out.rd HK.out) ?_; rotate_left; (focus (go_simp; with_reducible rfl)); simp only [setL])
 refine wpPl_nil ?_
 simp only [drL]
 go_wp2_with fail
 refine (stLess_any sb _ z _ t p2 _ HP.out.p.s HT.out HM2.out).mono ?_
 rintro e7 w7 ⟨u2, rfl, hr, hs1, hu1⟩
 have HP2 := Lib.hid (HP.out.step hu1 hs1)
 have HR := Lib.hid hr
 clear hr hs1 hu1
 go_wp2
 refine bodyPost_ret (v := .float .f64 u2) (by simp [results, Tryz.results63, go_sem]) rfl ⟨u2, rfl, by rw [HO.out]; exact HR.out, by rw [HO.out]; exact HP2.out.p.s, HP2.out.p.u⟩
def HdF (w : World) (vb B : Nat) (pv : Value) (j : Nat) (H : Nat → Fo) (d : Fo) (f : Bool) (e : Ending) (w' : World) : Prop :=
 ∃ v, e = .returned (.tuple #[.float .f64 v, .int .i64 (ldW.head (d, f)).2]) ∧ Rep (ldW.head (d, f)).1 v ∧ (((ldW.head (d, f)).2 ≠ 0 ∧ Below w.heap.size w w') ∨
  ((ldW.head (d, f)).2 = 0 ∧ ChX (vb :: pv.ownBlock.toList) w w' ∧ ∃ v' hs', PvL w' vb B (j + 1) v' (updF H j (ldW.head (d, f)).1) hs' ∧ (v'.ownBlock = pv.ownBlock ∨ ∃ g, v'.ownBlock = some g ∧ w.heap.size ≤ g)))
set_option maxRecDepth 100000 in
set_option maxHeartbeats 3200000 in
theorem lhead_any (sb pb vb B j : Nat) (f : Bool) (d : Fo) (dv : Nat) (pv : Value) (H : Nat → Fo) (hh : Nat → Nat) (w : World) (hp : BlkT w pb 92 #[.pointer (some ⟨sb, 0, none⟩)]) (hs : BlkT w sb 94 #[.bool f]) (hv : PvL w vb B j pv H hh) (hvB : vb < B ∧ B ≤ w.heap.size) (hj : j < 12) (hd : Rep d dv) :
  Calls Tryz.prog 66 #[.float .f64 dv, .pointer (some ⟨pb, 0, none⟩), .pointer (some ⟨vb, 0, none⟩)] w (HdF w vb B pv j H d f) := by
 obtain ⟨i0, hi, hz0, hz1, hz2⟩ := info_parts Tryz.info35
 obtain ⟨vo, vc, rfl⟩ := hv.o.shape
 have q0 := hp.cell 0
 have q1 := hs.cell 0
 have HG := Lib.hid (eqz_rep hd)
 have HV := Lib.hid hv
 have HVB := Lib.hid hvB
 have HD := Lib.hid hd
 have HOL := Lib.hid hv.o.lt
 unfold HdF
 have HO : Hid (ldW.head (d, f) = if f then (some 0, 5) else if eqzO d then (some 0, 92) else (d, 0)) := Lib.hid rfl
 generalize ldW.head (d, f) = o at *
 generalize eqzO d = b at *
 clear hp hs hv hvB hd
 cases f
 ·have hg := HG.out
  cases b
  ·replace HO : Hid (o = (d, 0)) := Lib.hid (by rw [HO.out]; rfl)
   have p0 := HV.out.p.cell 0
   have pz := HV.out.p.frozen 0
   have HOW := Lib.hid fun o => HV.out.o.later (Below.alloc_self w o)
   have HNW := Lib.hid fun W => cell_one_new W (.float .f64 dv) 35
   have HSZ : Hid (B ≤ w.heap.size) := Lib.hid HVB.out.2
   go_enter Tryz.func66, Tryz.ntmps66
   go_wp2_with (at_builtin; refine wpList_append_own_at _ rfl _ _ 23 rfl B 35 i0 (.float .f64 0) 1 8 Tryz.underlying23 hi hz0 hz1 hz2 rfl (by decide) _ _ _ rfl (HOW.out _) ⟨_, 0, none⟩ 1 1 [.float .f64 dv] rfl rfl (HNW.out _) ?c2 ?c3 ?c4 ?c5 ?_)
   case c2 => first | rfl | intro u hu; simp only [List.mem_singleton] at hu; subst hu; rfl
   case c3 => unfold maxLen; omega
   case c4 => omega
   case c5 => have := HSZ.out; simp; omega
   intro v' U4 hown hgrow _ hat
   have HO4 := Lib.hid (OwF.push hown)
   have hne : ∀ x, x < w.heap.size → (Value.slice vo j vc).ownBlock ≠ some x → U4.heap[x]? = w.heap[x]? := fun x hx hxo => (hgrow.block x (by rw [size_alloc]; omega) (fun e => hxo e.symm)).trans ((Below.alloc_self w _).block x hx)
   have hol : ∀ x, (Value.slice vo j vc).ownBlock = some x → B ≤ x ∧ x < w.heap.size := HOL.out
   have HP4 : Hid (BlkT U4 vb 23 #[.slice vo j vc]) := Lib.hid ((hne vb HV.out.p.lt (fun e => by have := (hol vb e).1; have := HVB.out; omega)).trans HV.out.p)
   have HC4 : Hid (ChX (vb :: (Value.slice vo j vc).ownBlock.toList) w U4) := Lib.hid ⟨hgrow.os, hgrow.tape, hgrow.output, Nat.le_trans (Below.alloc_self w _).size hgrow.size, fun x hx hm => hne x hx (fun e => hm (List.mem_cons_of_mem _ (by rw [e]; simp)))⟩
   have HAT : Hid (v'.ownBlock = (Value.slice vo j vc).ownBlock ∨ ∃ g, v'.ownBlock = some g ∧ w.heap.size ≤ g) := Lib.hid (hat.imp id fun e => ⟨_, e, Nat.le_succ _⟩)
   have HVL := Lib.hid hown.lt
   obtain ⟨ao', cap', hv'⟩ := owns_shape hown
   rw [hv'] at HO4 HAT HVL ⊢
   clear hown hgrow hat hv' HNW HOW HSZ hne hol p0 pz q0 q1
   have hup : Upd vb U4 (U4.setCell ⟨vb, 0, none⟩ (.slice ao' (j + 1) cap')) := Upd.set _
   have HP5 : Hid (PvL (U4.setCell ⟨vb, 0, none⟩ (.slice ao' (j + 1) cap')) vb B (j + 1) (.slice ao' (j + 1) cap') (updF H j d) (updF hh j dv)) := Lib.hid ⟨HP4.out.set (i := 0) _, HO4.out.upd hup HVB.out.1, fun i hi => by
    by_cases e : i = j
    ·subst e; rw [updF_self, updF_self]; exact HD.out
    ·rw [updF_ne e, updF_ne e]; exact HV.out.r i (by omega)⟩
   have HC5 : Hid (ChX (vb :: (Value.slice vo j vc).ownBlock.toList) w (U4.setCell ⟨vb, 0, none⟩ (.slice ao' (j + 1) cap'))) := Lib.hid ⟨hup.os.trans HC4.out.os, hup.tape.trans HC4.out.tape, hup.output.trans HC4.out.output, Nat.le_trans HC4.out.size hup.size, fun x hx hm => (hup.block x (Nat.lt_of_lt_of_le hx HC4.out.size) (fun e => hm (e ▸ .head _))).trans (HC4.out.block x hx hm)⟩
   have p0 := HP4.out.cell 0
   have pz := HP4.out.frozen 0
   clear hup HC4 HO4 HV
   go_wp2
   refine bodyPost_ret (v := .tuple #[.float .f64 dv, .int .i64 0]) (by simp [results, Tryz.results66, go_sem]) rfl ⟨_, by rw [HO.out], by rw [HO.out]; exact HD.out, .inr ⟨by rw [HO.out], HC5.out, _, _, by rw [HO.out]; exact HP5.out, HAT.out⟩⟩
  ·replace HO : Hid (o = (some 0, 92)) := Lib.hid (by rw [HO.out]; rfl)
   go_enter Tryz.func66, Tryz.ntmps66
   go_wp2
   refine bodyPost_ret (v := .tuple #[.float .f64 0, .int .i64 92]) (by simp [results, Tryz.results66, go_sem]) rfl ⟨_, by rw [HO.out], by rw [HO.out]; exact rep0, .inl ⟨by rw [HO.out]; exact (show (92 : Int) ≠ 0 by decide), Below.refl _ _⟩⟩
 ·replace HO : Hid (o = (some 0, 5)) := Lib.hid (by rw [HO.out]; rfl)
  go_enter Tryz.func66, Tryz.ntmps66
  go_wp2
  refine bodyPost_ret (v := .tuple #[.float .f64 0, .int .i64 5]) (by simp [results, Tryz.results66, go_sem]) rfl ⟨_, by rw [HO.out], by rw [HO.out]; exact rep0, .inl ⟨by rw [HO.out]; exact (show (5 : Int) ≠ 0 by decide), Below.refl _ _⟩⟩
structure LdI (w0 : World) (sb pb qb vb mb B n : Nat) (lv : Value) (X : List Nat) (j : Nat) (H : Nat → Fo) (f : Bool) (W : World) : Prop where
 c : ChI w0 sb pb mb n lv X f W
 q : BlkT W qb 92 #[.pointer (some ⟨sb, 0, none⟩)]
 v : ∃ v hs, PvL W vb B j v H hs ∧ ∀ g, v.ownBlock = some g → g ∉ X
 x : ∀ x ∈ X, x ≠ qb ∧ x ≠ vb
 ne : qb ≠ sb ∧ vb ≠ sb ∧ vb ≠ pb ∧ vb ≠ mb ∧ vb ≠ qb ∧ w0.heap.size ≤ vb
 nb : sb < B ∧ pb < B ∧ qb < B ∧ vb < B ∧ mb < B ∧ w0.heap.size ≤ B ∧ B ≤ W.heap.size
section
variable {w0 W V : World} {sb pb qb vb mb B n j : Nat} {lv : Value} {X : List Nat} {H : Nat → Fo} {f : Bool}
theorem LdI.chg (h : LdI w0 sb pb qb vb mb B n lv X j H f W) (hc : ChX X W V) : LdI w0 sb pb qb vb mb B n lv X j H f V := by
 obtain ⟨v, hs, hv, hg⟩ := h.v
 have hnb := h.nb
 have hsz := hc.size
 exact ⟨h.c.chg hc, (hc.block qb h.q.lt (fun m => (h.x qb m).1 rfl)).trans h.q, ⟨v, hs, ⟨(hc.block vb hv.p.lt (fun m => (h.x vb m).2 rfl)).trans hv.p, hv.o.of_blocks fun g e => hc.block g (hv.o.lt g e).2 (hg g e), hv.r⟩, hg⟩, h.x, h.ne, by omega⟩
theorem LdI.new {y : Nat} (h : LdI w0 sb pb qb vb mb B n lv X j H f W) (hy : W.heap.size ≤ y) : LdI w0 sb pb qb vb mb B n lv (y :: X) j H f W := by
 obtain ⟨v, hs, hv, hg⟩ := h.v
 refine ⟨h.c.new hy, h.q, ⟨v, hs, hv, fun g e m => ?_⟩, fun x m => ?_, h.ne, h.nb⟩
 ·rcases List.mem_cons.1 m with rfl | m
  ·have := (hv.o.lt g e).2; omega
  ·exact hg g e m
 ·rcases List.mem_cons.1 m with rfl | m
  ·have h1 := h.q.lt
   have h2 := hv.p.lt
   omega
  ·exact h.x x m
theorem LdI.sub {X' : List Nat} (h : LdI w0 sb pb qb vb mb B n lv X j H f W) (hs : ∀ x ∈ X', x ∈ X) : LdI w0 sb pb qb vb mb B n lv X' j H f W := by
 obtain ⟨v, hh, hv, hg⟩ := h.v
 exact ⟨h.c.sub hs, h.q, ⟨v, hh, hv, fun g e m => hg g e (hs g m)⟩, fun x m => h.x x (hs x m), h.ne, h.nb⟩
theorem LdI.step {g : Bool} (h : LdI w0 sb pb qb vb mb B n lv X j H f W) (hX : ∀ x ∈ X, x < W.heap.size) (hu : Upd sb W V) (hs : BlkT V sb 94 #[.bool g]) : LdI w0 sb pb qb vb mb B n lv X j H g V ∧ Kps X W V := by
 obtain ⟨v, hh, hv, hg⟩ := h.v
 obtain ⟨h1, h2⟩ := h.c.step hX hu hs
 have hsz := hu.size
 have hnb := h.nb
 exact ⟨⟨h1, h.q.upd hu h.ne.1, ⟨v, hh, hv.upd hu h.ne.2.1 h.nb.1, hg⟩, h.x, h.ne, by omega⟩, h2⟩
theorem LdI.later (h : LdI w0 sb pb qb vb mb B n lv X j H f W) (hX : ∀ x ∈ X, x < W.heap.size) (hb : Below W.heap.size W V) : LdI w0 sb pb qb vb mb B n lv X j H f V ∧ Kps X W V := h.step hX (Upd.of_below hb) (h.c.s.below hb)
theorem LdI.head {v v' : Value} {hs hs' : Nat → Nat} {H' : Nat → Fo} (h : LdI w0 sb pb qb vb mb B n lv X j H f W) (hX : ∀ x ∈ X, x < W.heap.size) (hv : PvL W vb B j v H hs) (hg : ∀ g, v.ownBlock = some g → g ∉ X) (hc : ChX (vb :: v.ownBlock.toList) W V) (hv2 : PvL V vb B (j + 1) v' H' hs')
  (hat : v'.ownBlock = v.ownBlock ∨ ∃ g, v'.ownBlock = some g ∧ W.heap.size ≤ g) : LdI w0 sb pb qb vb mb B n lv X (j + 1) H' f V ∧ Kps X W V := by
 have hne := h.ne
 have hnb := h.nb
 have hcn := h.c.ne
 have hmem : ∀ x, x ∈ vb :: v.ownBlock.toList → x = vb ∨ (B ≤ x ∧ v.ownBlock = some x) := fun x m => by
  rcases List.mem_cons.1 m with rfl | m
  ·exact .inl rfl
  ·have e : v.ownBlock = some x := by simpa using m
   exact .inr ⟨(hv.o.lt x e).1, e⟩
 have c2 : ChI w0 sb pb mb n lv (vb :: v.ownBlock.toList) f V := (⟨h.c.s, h.c.p, h.c.m, h.c.b, fun x m => by rcases hmem x m with rfl | ⟨e, -⟩ <;> omega, h.c.ne⟩ : ChI w0 sb pb mb n lv (vb :: v.ownBlock.toList) f W).chg hc
 have hsz := hc.size
 refine ⟨⟨⟨c2.s, c2.p, c2.m, c2.b, h.c.x, h.c.ne⟩, (hc.block qb h.q.lt (fun m => by rcases hmem qb m with e | ⟨e, -⟩ <;> omega)).trans h.q, ⟨v', hs', hv2, fun g e m => ?_⟩, h.x, h.ne, by omega⟩, ⟨hc.size, fun x m => hc.block x (hX x m) fun m2 => ?_⟩⟩
 ·rcases hat with e2 | ⟨g2, e2, h3⟩
  ·exact hg g (e2 ▸ e) m
  ·rw [e] at e2
   have := Option.some.inj e2
   have := hX g m
   omega
 ·rcases hmem x m2 with e | ⟨-, e⟩
  ·exact (h.x x m).2 e
  ·exact hg x e m
end
theorem ld_fac {w0 : World} {sb pb qb vb mb B n : Nat} {lv : Value} {l : List Nat} (hn : n ≤ 12) (hl : FSl w0 lv l) (hll : l.length = n * n) :
  Fac ldW (atO n l) n 67 63 66 117 #[.pointer (some ⟨mb, 0, none⟩)] #[.pointer (some ⟨pb, 0, none⟩), .pointer (some ⟨vb, 0, none⟩)] #[.pointer (some ⟨pb, 0, none⟩), .pointer (some ⟨vb, 0, none⟩)] #[.pointer (some ⟨qb, 0, none⟩)] (fun X j H f W => LdI w0 sb pb qb vb mb B n lv X j H f W) where
 ef := enters_of Tryz.func67 (by kernel_rfl) rfl
 el := enters_of Tryz.func63 (by kernel_rfl) rfl
 eh := enters_of Tryz.func66 (by kernel_rfl) rfl
 eo := enters_of Tryz.func117 (by kernel_rfl) rfl
 chg := fun h hc => h.chg hc
 new := fun h hy => h.new hy
 sub := fun h hs => h.sub hs
 first := fun {X j H f w} i k h hX hi hk => (lfirst_any n i k mb lv l w h.c.m (hl.below h.c.b) hll hi hk).mono fun e w' ⟨h1, h2⟩ => by
  obtain ⟨a, b⟩ := h.later hX h2
  have hlt : atN n l i k < 18446744073709551616 := by
   have hp : i * n + k < l.length := by rw [hll]; exact at_lt hi hk
   rw [← atN_get hp]
   obtain ⟨_, _, _, _, _, hx, _⟩ := hl
   exact hx _ (List.getElem_mem hp)
  exact ⟨_, h1, ⟨hlt, rfl⟩, a, b⟩
 less := fun {X j H f w t x y} k tv xv yv h hX hk ht hx hy => by
  obtain ⟨v, hs, hv, -⟩ := h.v
  exact (lless_any sb pb vb B k j f t x y tv xv yv v H hs w h.c.p h.c.ne.1 h.c.s hv ⟨h.ne.2.1, h.nb.1⟩ hk ht hx hy).mono fun e w' h2 => by
   obtain ⟨v, h1, h3, h4, h5⟩ := h2.get
   obtain ⟨a, b⟩ := h.step hX h5 h4
   exact ⟨v, h1, h3, a, b⟩
 head := fun {X j H f w d} dv h hX hj hd => by
  obtain ⟨v, hs, hv, hg⟩ := h.v
  refine (lhead_any sb pb vb B j f d dv v H hs w h.c.p h.c.s hv ⟨h.nb.2.2.2.1, h.nb.2.2.2.2.2.2⟩ (by omega) hd).mono ?_
  rintro e w' ⟨u, h1, h2, ⟨h3, h4⟩ | ⟨h3, h4, v', hs', h5, h6⟩⟩
  ·obtain ⟨a, b⟩ := h.later hX h4
   exact ⟨u, h1, h2, b, fun t => absurd t h3, fun _ => a⟩
  ·obtain ⟨a, b⟩ := h.head hX hv hg h4 h5 h6
   exact ⟨u, h1, h2, b, fun _ => a, fun t => absurd h3 t⟩
 over := fun {X j H f w t x} tv xv h hX ht hx => (root3_any sb qb f t x tv xv w h.q h.ne.1 h.c.s ht hx).mono fun e w' h2 => by
  obtain ⟨v, h1, h3, h4, h5⟩ := h2.get
  obtain ⟨a, b⟩ := h.step hX h5 h4
  exact ⟨v, h1, h3, a, b⟩
end
section
open Go.RowKit
attribute [local go_sem] run_store_f run_store_fn
def oneO : Fo := some 4607182418800017408
theorem rep1 : Rep oneO 4607182418800017408 := ⟨show 4607182418800017408 < 18446744073709551616 by decide, rfl⟩
theorem fin1 : finO oneO = true := by decide
def ldlS (r : Int) (l : List Nat) : WSt Fo := ldW.all (atO r.toNat l) r.toNat r.toNat
def ldlE (r c : Int) (l : List Nat) : Int := if sqrB r c l ≠ 0 then sqrB r c l else ((ldlS r l).res 5).1
def ldlP (r c : Int) (l : List Nat) : Nat := if sqrB r c l ≠ 0 then 0 else ((ldlS r l).res 5).2
def ldlL (r c : Int) (l : List Nat) : List Nat := if ldlE r c l = 0 then matL r.toNat (dgL (ldlS r l).L (fun _ => oneO) r.toNat) else []
def ldlD (r c : Int) (l : List Nat) : List Nat := if ldlE r c l = 0 then lstO r.toNat (ldlS r l).H else []
def ldlN (r c : Int) (l : List Nat) : Int := if ldlE r c l = 0 then r else 0
def LdA (E : Int) (P : Nat) (N : Int) (l d : List Nat) (w : World) (e : Ending) (w' : World) : Prop :=
 ∃ u v, e = .returned (.tuple #[MatV N N u, v, .int .i64 P, .int .i64 E]) ∧ FSl w' u l ∧ FSl w' v d ∧ (∀ a c d, u = .slice (some a) c d → w.heap.size ≤ a.block) ∧ (∀ a c d, v = .slice (some a) c d → w.heap.size ≤ a.block) ∧ Below w.heap.size w w'
theorem ldlE_err {r c : Int} {l : List Nat} (h : sqrB r c l ≠ 0) : ldlE r c l = sqrB r c l ∧ ldlP r c l = 0 ∧ ldlL r c l = [] ∧ ldlD r c l = [] ∧ ldlN r c l = 0 := by
 have h1 : ldlE r c l = sqrB r c l := if_pos h
 refine ⟨h1, if_pos h, ?_, ?_, ?_⟩
 ·unfold ldlL; rw [h1, if_neg h]
 ·unfold ldlD; rw [h1, if_neg h]
 ·unfold ldlN; rw [h1, if_neg h]
theorem ldl_end {n : Nat} {l : List Nat} (h : sqrB n n l = 0) (er : Int) (pl : Nat) (he : ((ldW.all (atO n l) n n).res 5) = (er, pl)) :
  ldlE n n l = er ∧ ldlP n n l = pl ∧ (er ≠ 0 → ldlL n n l = [] ∧ ldlD n n l = [] ∧ ldlN n n l = 0) ∧ (er = 0 → ldlL n n l = matL n (dgL (ldW.all (atO n l) n n).L (fun _ => oneO) n) ∧ ldlD n n l = lstO n (ldW.all (atO n l) n n).H ∧ ldlN n n l = n) := by
 have h1 : ldlE n n l = er := by unfold ldlE ldlS; rw [if_neg (fun t => t h)]; simp only [Int.toNat_natCast]; rw [he]
 refine ⟨h1, ?_, fun h2 => ⟨?_, ?_, ?_⟩, fun h2 => ⟨?_, ?_, ?_⟩⟩
 ·unfold ldlP ldlS; rw [if_neg (fun t => t h)]; simp only [Int.toNat_natCast]; rw [he]
 ·unfold ldlL; rw [h1, if_neg h2]
 ·unfold ldlD; rw [h1, if_neg h2]
 ·unfold ldlN; rw [h1, if_neg h2]
 ·unfold ldlL; rw [h1, if_pos h2]; rfl
 ·unfold ldlD; rw [h1, if_pos h2]; rfl
 ·unfold ldlN; rw [h1, if_pos h2]
theorem ldl_lst {n : Nat} {H : Nat → Fo} {hs : Nat → Nat} (h : RepF n H hs) (hf : ∀ i, finO (H i) = true) : (List.range n).map hs = lstO n H :=
 List.map_congr_left fun i hi => (h i (List.mem_range.1 hi)).bits (hf i)
structure LdE (w0 W : World) (n g vb B : Nat) (lv v : Value) (hs vs : Nat → Nat) (L : Nat → Nat → Fo) (D : Nat → Fo) (k : Nat) : Prop where
 b : ChB w0 W n n lv
 gm : FMs W g (n * n) vs
 low : LowR n (dgL L (fun _ => oneO) k) vs
 p : PvL W vb B n v D hs
 ne : w0.heap.size + 1 < g ∧ w0.heap.size + 1 < vb ∧ w0.heap.size + 1 < B ∧ vb ≠ g ∧ ∀ x, v.ownBlock = some x → x ≠ g
theorem LdE.later {w0 W V : World} {n g vb B : Nat} {lv v : Value} {hs vs : Nat → Nat} {L : Nat → Nat → Fo} {D : Nat → Fo} {k : Nat} (h : LdE w0 W n g vb B lv v hs vs L D k) (hb : Below W.heap.size W V) : LdE w0 V n g vb B lv v hs vs L D k := ⟨h.b.later hb, h.gm.below hb, h.low, h.p.below hb, h.ne⟩
theorem LdE.set {w0 W : World} {n g vb B : Nat} {lv v : Value} {hs vs : Nat → Nat} {L : Nat → Nat → Fo} {D : Nat → Fo} {k : Nat} (h : LdE w0 W n g vb B lv v hs vs L D k) (hk : k < n) : LdE w0 (W.setCell ⟨g, k * n + k, none⟩ (.float .f64 4607182418800017408)) n g vb B lv v hs (updF vs (k * n + k) 4607182418800017408) L D (k + 1) := by
 have hne := h.ne
 have hu : Upd g W (W.setCell ⟨g, k * n + k, none⟩ (.float .f64 4607182418800017408)) := Upd.set _
 exact ⟨h.b.of_mod (upd_keep (Nat.le_refl g)) h.ne.1, h.gm.set (at_lt hk hk), by rw [dgL_succ]; exact h.low.set hk rep1, ⟨h.p.p.upd hu hne.2.2.2.1, h.p.o.of_blocks fun b hb => hu.block b (h.p.o.lt b hb).2 (hne.2.2.2.2 b hb), h.p.r⟩, hne⟩
theorem LdE.two {w0 W : World} {n g vb B : Nat} {lv v : Value} {hs vs : Nat → Nat} {L : Nat → Nat → Fo} {D : Nat → Fo} {k : Nat} (h : LdE w0 W n g vb B lv v hs vs L D k) (a b : Int) (x : Value) : ((((W.setCell ⟨w0.heap.size + 1, 0, none⟩ (.int .i64 a)).setCell ⟨w0.heap.size + 1, 1, none⟩ (.int .i64 b)).setCell ⟨w0.heap.size + 1, 2, none⟩ x).cell? ⟨w0.heap.size, 0, none⟩ = some (.int .i64 n)) ∧ (((W.setCell ⟨w0.heap.size + 1, 0, none⟩ (.int .i64 a)).setCell ⟨w0.heap.size + 1, 1, none⟩ (.int .i64 b)).setCell ⟨w0.heap.size + 1, 2, none⟩ x).cell? ⟨vb, 0, none⟩ = some v := by
 have hne := h.ne
 exact ⟨(((h.b.m.upd (Upd.set (b := w0.heap.size + 1) _) (by omega)).upd (Upd.set (b := w0.heap.size + 1) _) (by omega)).upd (Upd.set (b := w0.heap.size + 1) _) (by omega)).cell 0, (((h.p.p.upd (Upd.set (b := w0.heap.size + 1) _) (by omega)).upd (Upd.set (b := w0.heap.size + 1) _) (by omega)).upd (Upd.set (b := w0.heap.size + 1) _) (by omega)).cell 0⟩
theorem LdE.done {w0 W : World} {n g vb B : Nat} {lv v : Value} {hs vs : Nat → Nat} {L : Nat → Nat → Fo} {D : Nat → Fo} (h : LdE w0 W n g vb B lv v hs vs L D n) (hf : ∀ i j, finO (L i j) = true) (hd : ∀ i, finO (D i) = true) (hn : n ≤ 12) :
  LdA 0 0 n (matL n (dgL L (fun _ => oneO) n)) (lstO n D) w0 (.returned (.tuple #[MatV n n (.slice (some ⟨g, 0, none⟩) (n * n) (n * n)), v, .int .i64 0, .int .i64 0])) (((W.setCell ⟨w0.heap.size + 1, 0, none⟩ (.int .i64 n)).setCell ⟨w0.heap.size + 1, 1, none⟩ (.int .i64 n)).setCell ⟨w0.heap.size + 1, 2, none⟩ (.slice (some ⟨g, 0, none⟩) (n * n) (n * n))) := by
 have hne := h.ne
 have hg : FMs (((W.setCell ⟨w0.heap.size + 1, 0, none⟩ (.int .i64 n)).setCell ⟨w0.heap.size + 1, 1, none⟩ (.int .i64 n)).setCell ⟨w0.heap.size + 1, 2, none⟩ (.slice (some ⟨g, 0, none⟩) (n * n) (n * n))) g (n * n) vs :=
  ((h.gm.upd (Upd.set (b := w0.heap.size + 1) _) (by omega)).upd (Upd.set (b := w0.heap.size + 1) _) (by omega)).upd (Upd.set (b := w0.heap.size + 1) _) (by omega)
 have ho : OwF (((W.setCell ⟨w0.heap.size + 1, 0, none⟩ (.int .i64 n)).setCell ⟨w0.heap.size + 1, 1, none⟩ (.int .i64 n)).setCell ⟨w0.heap.size + 1, 2, none⟩ (.slice (some ⟨g, 0, none⟩) (n * n) (n * n))) B v n hs :=
  ((h.p.o.upd (Upd.set (b := w0.heap.size + 1) _) (by omega)).upd (Upd.set (b := w0.heap.size + 1) _) (by omega)).upd (Upd.set (b := w0.heap.size + 1) _) (by omega)
 refine ⟨_, _, rfl, hg.matF h.low (dg_fin hf (fun _ => fin1)) hn, ?_, (by intro a c d e; cases e; show w0.heap.size ≤ g; omega), (fun a c d e => by have := h.p.o.new a c d e; omega), below_three h.b.b _ (Nat.le_succ _) _ _ _⟩
 rw [← ldl_lst h.p.r hd]
 exact ho.fsl (by omega) fun i hi => (h.p.r i hi).lt
theorem ChB.errL {w0 W : World} {r c : Int} {sl : Value} {P : Nat} {E : Int} (h : ChB w0 W r c sl) : LdA E P 0 [] [] w0 (.returned (.tuple #[MatV 0 0 (.slice none 0 0), .slice none 0 0, .int .i64 P, .int .i64 E])) (((W.setCell ⟨w0.heap.size + 1, 0, none⟩ (.int .i64 0)).setCell ⟨w0.heap.size + 1, 1, none⟩ (.int .i64 0)).setCell ⟨w0.heap.size + 1, 2, none⟩ (.slice none 0 0)) :=
 ⟨_, _, rfl, FSl.none _, FSl.none _, (by intro a c d e; cases e), (by intro a c d e; cases e), below_three h.b _ (Nat.le_succ _) _ _ _⟩
set_option maxRecDepth 100000 in
set_option maxHeartbeats 3200000 in
theorem ldl_any (r c : Int) (sl : Value) (l : List Nat) (w : World) (hl : FSl w sl l) :
  Calls Tryz.prog 18 #[MatV r c sl] w (LdA (ldlE r c l) (ldlP r c l) (ldlN r c l) (ldlL r c l) (ldlD r c l) w) := by
 have HB := Lib.hid (ChB.new w r c sl)
 have HLW := Lib.hid fun W (hb : Below w.heap.size w W) => hl.below hb
 have HSQ := Lib.hid (csquare_any r c sl l _ (hl.below (below2 w (.cells #[.int .i64 r, .int .i64 c, sl] 25) (.cells #[.int .i64 0, .int .i64 0, .slice none 0 0] 25))))
 by_cases h0 : sqrB r c l = 0
 ·obtain ⟨n, rfl, rfl, hq, -⟩ := sqr_zero h0
  have HEND := Lib.hid (fun er pl he => ldl_end h0 er pl he)
  rw [h0] at HSQ
  have hn := hq.hn
  have HFA := Lib.hid fun W (sb pb qb vb B : Nat) (hb : Below w.heap.size w W) => ld_fac (w0 := W) (sb := sb) (pb := pb) (qb := qb) (vb := vb) (mb := w.heap.size) (B := B) hn (hl.below hb) hq.len
  have HFIT := Lib.hid ((ldW_fit w).all (a := atO n l) (fun i j => atO_rep hl.elem_lt hq.fin i j) n n)
  clear h0 hq hl HLW
  generalize ldlE n n l = E at *
  generalize ldlP n n l = P at *
  generalize ldlN n n l = N at *
  generalize ldlL n n l = R at *
  generalize ldlD n n l = D at *
  generalize atO n l = a at *
  obtain ⟨⟨m0, m1, m2⟩, ⟨q0, q1, q2⟩, f0, f1, f2⟩ := HB.out.cells
  go_enter Tryz.func18, Tryz.ntmps18
  go_wp2_with fail
  refine HSQ.out.mono ?_
  rintro e1 w1 ⟨rfl, hb1⟩
  replace HB := Lib.hid (HB.out.later hb1)
  clear hb1 m0 m1 m2 q0 q1 q2 f0 f1 f2 HSQ
  have HB1 := Lib.hid HB.out
  obtain ⟨⟨m0, m1, m2⟩, ⟨q0, q1, q2⟩, f0, f1, f2⟩ := HB.out.cells
  go_upto_region 6 with fail
  clear m0 m1 m2 q0 q1 q2 f0 f1 f2
  have HSB : Hid (BlkT (((w1.alloc (.cells #[.bool false] 94)).alloc (.cells #[.pointer (some ⟨w1.heap.size, 0, none⟩)] 92)).alloc (.cells #[.slice none 0 0] 23)) w1.heap.size 94 #[.bool false]) := Lib.hid (((BlkT.new w1 _ _).alloc _).alloc _)
  have HPB : Hid (BlkT (((w1.alloc (.cells #[.bool false] 94)).alloc (.cells #[.pointer (some ⟨w1.heap.size, 0, none⟩)] 92)).alloc (.cells #[.slice none 0 0] 23)) (w1.heap.size + 1) 92 #[.pointer (some ⟨w1.heap.size, 0, none⟩)]) := Lib.hid ((BlkT.new1 w1 _ _ _).alloc _)
  have HVB : Hid (BlkT (((w1.alloc (.cells #[.bool false] 94)).alloc (.cells #[.pointer (some ⟨w1.heap.size, 0, none⟩)] 92)).alloc (.cells #[.slice none 0 0] 23)) (w1.heap.size + 1 + 1) 23 #[.slice none 0 0]) := Lib.hid (BlkT.new2 w1 _ _ _ _)
  have HBL := Lib.hid (below3 w1 (.cells #[.bool false] 94) (.cells #[.pointer (some ⟨w1.heap.size, 0, none⟩)] 92) (.cells #[.slice none 0 0] 23))
  have HSZ : Hid ((((w1.alloc (.cells #[.bool false] 94)).alloc (.cells #[.pointer (some ⟨w1.heap.size, 0, none⟩)] 92)).alloc (.cells #[.slice none 0 0] 23)).heap.size = w1.heap.size + 1 + 1 + 1) := Lib.hid (by simp only [size_alloc])
  have HSS : Hid (w.heap.size + 1 < w1.heap.size) := Lib.hid HB.out.q.lt
  replace HB := Lib.hid (HB.out.later HBL.out)
  obtain ⟨sb, hsb⟩ : ∃ b, w1.heap.size = b := ⟨_, rfl⟩
  have HSN := Lib.hid hsb
  rw [hsb] at HB HBL HSB HPB HVB HSS HSZ ⊢
  generalize World.alloc (World.alloc (World.alloc w1 _) _) _ = W1 at *
  clear hsb
  rw [← HSN.out] at HBL
  have p0 := HPB.out.cell 0
  go_wp2_with fail
  refine (root_any sb _).mono ?_
  rintro e2 w2 ⟨rfl, hqb, hb1⟩
  rw [HSZ.out] at hqb ⊢
  replace HBL := Lib.hid (HBL.out.trans (hb1.mono HBL.out.size))
  replace HB := Lib.hid (HB.out.later hb1)
  replace HSB := Lib.hid (HSB.out.below hb1)
  replace HPB := Lib.hid (HPB.out.below hb1)
  replace HVB := Lib.hid (HVB.out.below hb1)
  have HQB := Lib.hid hqb
  clear hb1 hqb p0
  go_upto_region 9 with fail
  replace HBL := Lib.hid (HBL.out.trans ((Below.alloc_self w2 (.cells #[.func (.func 63) #[] #[.pointer (some ⟨sb + 1, 0, none⟩), .pointer (some ⟨sb + 1 + 1, 0, none⟩)], .func (.func 66) #[] #[.pointer (some ⟨sb + 1, 0, none⟩), .pointer (some ⟨sb + 1 + 1, 0, none⟩)], .func (.func 117) #[] #[.pointer (some ⟨sb + 1 + 1 + 1, 0, none⟩)]] 102)).mono HBL.out.size))
  have HNN : Hid (sb + 1 + 1 + 1 + 1 ≤ w2.heap.size) := Lib.hid HQB.out.lt
  have HI : Hid (LdI w1 sb (sb + 1) (sb + 1 + 1 + 1) (sb + 1 + 1) w.heap.size (sb + 1 + 1 + 1 + 1) n sl [] 0 (fun _ => some 0) false (w2.alloc (.cells #[.func (.func 63) #[] #[.pointer (some ⟨sb + 1, 0, none⟩), .pointer (some ⟨sb + 1 + 1, 0, none⟩)], .func (.func 66) #[] #[.pointer (some ⟨sb + 1, 0, none⟩), .pointer (some ⟨sb + 1 + 1, 0, none⟩)], .func (.func 117) #[] #[.pointer (some ⟨sb + 1 + 1 + 1, 0, none⟩)]] 102))) := Lib.hid (by
    have h1 := HSN.out
    have h2 := HSS.out
    have h3 := HNN.out
    exact ⟨⟨HSB.out.alloc _, HPB.out.alloc _, HB.out.m.alloc _, HBL.out, fun x h => (by cases h), by omega⟩, HQB.out.alloc _, ⟨_, fun _ => 0, ⟨HVB.out.alloc _, OwF.nil _ _ _, fun i h => absurd h (Nat.not_lt_zero i)⟩, fun g h => (by cases h)⟩, fun x h => (by cases h), by omega, by rw [size_alloc]; omega⟩)
  have hw2 := HFA.out w1 sb (sb + 1) (sb + 1 + 1 + 1) (sb + 1 + 1) (sb + 1 + 1 + 1 + 1) HB1.out.b
  replace HB := Lib.hid (HB.out.later (Below.alloc_self w2 (.cells #[.func (.func 63) #[] #[.pointer (some ⟨sb + 1, 0, none⟩), .pointer (some ⟨sb + 1 + 1, 0, none⟩)], .func (.func 66) #[] #[.pointer (some ⟨sb + 1, 0, none⟩), .pointer (some ⟨sb + 1 + 1, 0, none⟩)], .func (.func 117) #[] #[.pointer (some ⟨sb + 1 + 1 + 1, 0, none⟩)]] 102)))
  obtain ⟨⟨m0, m1, m2⟩, ⟨q0, q1, q2⟩, f0, f1, f2⟩ := HB.out.cells
  obtain ⟨x0, x1, x2⟩ := (BlkT.new w2 #[.func (.func 63) #[] #[.pointer (some ⟨sb + 1, 0, none⟩), .pointer (some ⟨sb + 1 + 1, 0, none⟩)], .func (.func 66) #[] #[.pointer (some ⟨sb + 1, 0, none⟩), .pointer (some ⟨sb + 1 + 1, 0, none⟩)], .func (.func 117) #[] #[.pointer (some ⟨sb + 1 + 1 + 1, 0, none⟩)]] 102).cells3
  generalize World.alloc w2 _ = W3 at *
  clear HFA HVB HSB HPB HQB HBL f0 f1 f2 q0 q1 q2
  go_wp2_with fail
  refine (walk_any hw2 _ rfl hn HI.out).mono ?_
  rintro e3 w3 hA
  obtain ⟨lo, ll, lc, ho, hl, hc, pl, rfl, ⟨X, j0, H0, f0, hI⟩, hO⟩ := hA.shape
  replace HB := Lib.hid (HB1.out.later hI.c.b)
  have HO := Lib.hid hO
  clear hA hI hO X j0 H0 f0 HI HB1 hw2 HNN x0 x1 x2 m0 m1 m2
  generalize ldW.all a n n = st at *
  obtain ⟨L0, H0, f0, e0, p0⟩ := st
  rcases HO.out with ⟨h0, g, vs, hs, rfl, rfl, rfl, rfl, rfl, hg, hL, -, -, hge, hI⟩ | ⟨h0, rfl⟩
  ·obtain rfl : e0 = 0 := h0
   have hsc := hI.c.s.cell 0
   have hpc := hI.c.p.cell 0
   clear HO
   cases f0
   ·obtain ⟨rfl, rfl, -, hE⟩ := HEND.out 0 0 (res_ok rfl rfl)
    obtain ⟨rfl, rfl, rfl⟩ := hE rfl
    have HF := Lib.hid ((HFIT.out rfl).2.2 rfl)
    obtain ⟨v, hs, hv, hgg⟩ := hI.v
    obtain ⟨vo, vc, rfl⟩ := hv.o.shape
    have HD : Hid (LdE w w3 n g (sb + 1 + 1) (sb + 1 + 1 + 1 + 1) sl (.slice vo n vc) hs vs L0 H0 0) := Lib.hid ⟨HB.out, hg, by rw [dgL_zero]; exact hL, hv, by have h1 := HSN.out; have h2 := HSS.out; have h3 := hI.c.x g (.head _); have h4 := hI.x g (.head _); exact ⟨by omega, by omega, by omega, fun e => h4.2 e.symm, fun x hx e => hgg x hx (e ▸ .head _)⟩⟩
    clear HEND HFIT hg hL hge hI HB hv hgg HSN HSS
    have m0 := HD.out.b.m.cell 0
    go_wp2
    clear hsc hpc m0
    go_loopw [60] (fun i wr => ∃ (k : Nat) (vs : Nat → Nat), k ≤ n ∧ i = .int .i64 k ∧ Hid (LdE w wr n g (sb + 1 + 1) (sb + 1 + 1 + 1 + 1) sl (.slice vo n vc) hs vs L0 H0 k)) (fun i _ => n - (intOf i).toNat)
    case atStart => exact ⟨0, vs, Nat.zero_le _, rfl, HD⟩
    case round =>
     clear HD
     obtain ⟨k, vs, hk, rfl, HD⟩ := hrel
     by_cases hlt : k < n
     ·obtain ⟨e1, e2⟩ := at_eq hn hlt hlt
      have m0 := HD.out.b.m.cell 0
      have HP := Lib.hid (at_lt hlt hlt)
      have hp1 : k * n + k < n * n := HP.out
      have p0 := HD.out.gm.cell hp1
      have p1 := HD.out.gm.frozen (k * n + k)
      have HSE := Lib.hid (HD.out.set hlt)
      generalize hNN : n * n = NN at *
      generalize hpp : k * n + k = p at *
      generalize ((k * n : Nat) : Int) = pi at *
      go_wp2
      go_roundw
      case rel => exact ⟨k + 1, _, by omega, by go_num, HSE⟩
      case measure => simp [intOf] <;> omega
     ·obtain rfl : k = n := by omega
      have v0 := HD.out.p.p.cell 0
      have m0 := HD.out.b.m.cell 0
      go_upto_region 20 with fail
      clear v0 m0
      refine wp_region_pl (fun w' : World => w'.cell? ⟨w.heap.size, 0, none⟩ = some (.int .i64 k) ∧ w'.cell? ⟨sb + 1 + 1, 0, none⟩ = some (.slice vo k vc)) 8 (.take 0 (.take 1 (.take 2 (.take 3 (.take 4 (.take 5 (.take 6 (.run 7 .nil)))))))) (by kernel_rfl) (by kernel_rfl) ?_
      replace HD := Lib.hid (HD.out.later (drew_below _))
      generalize World.drew _ = W5 at HD ⊢
      repeat (refine tkL (v := ?_) rfl rfl rfl (fun w' hSw => ?_) (⟨HD.out.b.m.cell 0, HD.out.p.p.cell 0⟩) ?_; rotate_left; (focus (go_simp; with_reducible rfl)); simp only [setL])
      have HDN := Lib.hid (HD.out.done HF.out.1 HF.out.2 hn)
      have HCC := Lib.hid (HD.out.two k k (.slice (some ⟨g, 0, none⟩) (k * k) (k * k)))
      obtain ⟨-, ⟨q0, q1, q2⟩, f0, f1, f2⟩ := HD.out.b.cells
      refine wpPl_goL rfl rfl fun K' hK => ?_
      go_simp
      refine hK _ _ HCC.out ?_
      clear hK K'
      try simp only [Act.put, setL]
      refine wpPl_nil ?_
      simp only [drL]
      clear HD HCC
      go_wp2
      exact bodyPost_ret (v := .tuple #[MatV k k (.slice (some ⟨g, 0, none⟩) (k * k) (k * k)), .slice vo k vc, .int .i64 0, .int .i64 0]) (by simp [results, Tryz.results18, go_sem, q0, q1, q2]) rfl HDN.out
   ·obtain ⟨rfl, rfl, hE, -⟩ := HEND.out 5 0 (res_over rfl rfl)
    obtain ⟨rfl, rfl, rfl⟩ := hE (by decide)
    clear HEND HFIT hg hL hge hI
    obtain ⟨⟨m0, m1, m2⟩, ⟨q0, q1, q2⟩, f0, f1, f2⟩ := HB.out.cells
    clear m0 m1 m2 q0 q1 q2 f0 f1 f2
    go_wp2_with fail
    refine (told_any 0 5 _).mono ?_
    rintro e9 w9 ⟨rfl, hb1⟩
    replace HB := Lib.hid (HB.out.later hb1)
    clear hb1
    obtain ⟨⟨m0, m1, m2⟩, ⟨q0, q1, q2⟩, f0, f1, f2⟩ := HB.out.cells
    go_wp2
    exact bodyPost_ret (v := .tuple #[MatV 0 0 (.slice none 0 0), .slice none 0 0, .int .i64 ((0 : Nat) : Int), .int .i64 5]) (by simp [results, Tryz.results18, go_sem, q0, q1, q2]) rfl HB.out.errL
  ·have hp : (e0 == 0) = false := beq_eq_false_iff_ne.2 h0
   obtain ⟨hE1, hP, hE, -⟩ := HEND.out _ _ (res_bad h0)
   obtain ⟨rfl, rfl, rfl⟩ := hE h0
   change E = e0 at hE1
   change P = (if e0 = 5 then 0 else p0) at hP
   subst hE1
   have HTO : Hid (∀ W, Calls Tryz.prog 58 #[.int .i64 p0, .int .i64 E] W (Gives (.tuple #[.int .i64 P, .int .i64 E]) W)) := Lib.hid fun W => by rw [hP]; exact told_any p0 E W
   clear HEND HFIT HO h0 hP
   obtain ⟨⟨m0, m1, m2⟩, ⟨q0, q1, q2⟩, f0, f1, f2⟩ := HB.out.cells
   clear m0 m1 m2 q0 q1 q2 f0 f1 f2
   go_wp2_with fail
   refine (HTO.out _).mono ?_
   rintro e9 w9 ⟨rfl, hb1⟩
   replace HB := Lib.hid (HB.out.later hb1)
   clear hb1
   obtain ⟨⟨m0, m1, m2⟩, ⟨q0, q1, q2⟩, f0, f1, f2⟩ := HB.out.cells
   go_wp2
   exact bodyPost_ret (v := .tuple #[MatV 0 0 (.slice none 0 0), .slice none 0 0, .int .i64 P, .int .i64 E]) (by simp [results, Tryz.results18, go_sem, q0, q1, q2]) rfl HB.out.errL
 ·obtain ⟨e1, e2, e3, e4, e5⟩ := ldlE_err h0
  rw [e1, e2, e3, e4, e5]
  have hp := beq_eq_false_iff_ne.2 h0
  generalize sqrB r c l = k at *
  clear hl h0 e1 e2 e3 e4 e5 HLW
  obtain ⟨⟨m0, m1, m2⟩, ⟨q0, q1, q2⟩, f0, f1, f2⟩ := HB.out.cells
  go_enter Tryz.func18, Tryz.ntmps18
  go_wp2_with fail
  refine HSQ.out.mono ?_
  rintro e1 w1 ⟨rfl, hb1⟩
  replace HB := Lib.hid (HB.out.later hb1)
  clear hb1 m0 m1 m2 q0 q1 q2 f0 f1 f2 HSQ
  obtain ⟨⟨m0, m1, m2⟩, ⟨q0, q1, q2⟩, f0, f1, f2⟩ := HB.out.cells
  go_wp2
  exact bodyPost_ret (v := .tuple #[MatV 0 0 (.slice none 0 0), .slice none 0 0, .int .i64 ((0 : Nat) : Int), .int .i64 k]) (by simp [results, Tryz.results18, go_sem, q0, q1, q2]) rfl HB.out.errL
end
end Go.Proofs.YtfmecpembnmnkaaGreatDoor
