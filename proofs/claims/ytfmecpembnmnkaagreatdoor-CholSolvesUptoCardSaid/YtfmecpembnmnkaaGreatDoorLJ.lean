/- Walk: the references' Chol. Printed by wip/gen/ch21.py. -/
import Derived.Test.YtfmecpembnmnkaaGreatDoorLH
import Derived.Test.YtfmecpembnmnkaaGreatDoorLC
import Derived.Test.YtfmecpembnmnkaaGreatDoorLD
namespace Go.Proofs.YtfmecpembnmnkaaGreatDoor
section
open Go.RowKit
attribute [local go_sem] run_store_f
theorem dgL_upH {L : Nat → Nat → Fo} {D : Nat → Fo} {k : Nat} {v : Fo} : dgL L (updF D k v) k = dgL L D k := by
 funext i j
 unfold dgL
 by_cases h : i = j ∧ i < k
 ·rw [if_pos h, if_pos h, updF_ne (by omega)]
 ·rw [if_neg h, if_neg h]
theorem dgL_put {L : Nat → Nat → Fo} {D : Nat → Fo} {k i j : Nat} {v : Fo} (h : i ≠ j) : dgL (upd2 L i j v) D k = upd2 (dgL L D k) i j v := by
 funext a b
 show (if a = b ∧ a < k then D a else (if a = i ∧ b = j then v else L a b)) = if a = i ∧ b = j then v else (if a = b ∧ a < k then D a else L a b)
 by_cases h1 : a = i ∧ b = j
 ·rw [if_pos h1, if_neg (by omega), if_pos h1]
 ·rw [if_neg h1, if_neg h1]
theorem dgL_ne {V : Type} {L : Nat → Nat → V} {D : Nat → V} {k i j : Nat} (h : i ≠ j) : dgL L D k i j = L i j := if_neg (fun t => h t.1)
theorem dgL_at {V : Type} {L : Nat → Nat → V} {D : Nat → V} {k i : Nat} (h : i < k) : dgL L D k i i = D i := if_pos ⟨rfl, h⟩
theorem fm_at {n g i j : Nat} {vs : Nat → Nat} {M : Nat → Nat → Fo} {W : World} (hn : n ≤ 12) (hg : FMs W g (n * n) vs) (hM : LowR n M vs) (hi : i < n) (hj : j < n) : Calls Tryz.prog 51 #[MatV n n (.slice (some ⟨g, 0, none⟩) (n * n) (n * n)), .int .i64 i, .int .i64 j] W (fun e W' => ∃ v, e = .returned (.float .f64 v) ∧ Rep (M i j) v ∧ Below W.heap.size W W') :=
 (mirror_at hn hg hM hi hj (Below.refl _ _)).mono fun _ _ ⟨h1, h2⟩ => ⟨_, h1, hM i j hi hj, h2⟩
structure CqR (w0 W : World) (sb g ob n N : Nat) (lv : Value) (f : Bool) (vs : Nat → Nat) : Prop where
 r : MrR w0 W g ob n N lv vs
 s : BlkT W sb 109 #[.bool f]
 ne : w0.heap.size + 1 < sb ∧ sb ≠ g ∧ sb ≠ ob
section
variable {w0 W V : World} {sb g ob n N : Nat} {lv : Value} {f f' : Bool} {vs vs' : Nat → Nat}
theorem CqR.later (h : CqR w0 W sb g ob n N lv f vs) (hb : Below W.heap.size W V) : CqR w0 V sb g ob n N lv f vs := ⟨h.r.later hb, h.s.below hb, h.ne⟩
theorem CqR.step (h : CqR w0 W sb g ob n N lv f vs) (hu : Upd sb W V) (hs : BlkT V sb 109 #[.bool f']) : CqR w0 V sb g ob n N lv f' vs := by
 have hne := h.ne
 have hne2 := h.r.ne
 have hb : Below sb W V := ⟨hu.os, hu.tape, hu.output, hu.size, fun k hk => hu.block k (by have := h.s.lt; omega) (by omega)⟩
 exact ⟨⟨h.r.B.of_mod hb hne.1, h.r.gm.upd hu (by omega), h.r.om.upd hu (by omega), hne2⟩, hs, hne⟩
theorem CqR.put (h : CqR w0 W sb g ob n N lv f vs) (hu : Upd g W V) (hg : FMs V g N vs') : CqR w0 V sb g ob n N lv f vs' := ⟨h.r.put hu hg, h.s.upd hu (by have := h.ne; omega), h.ne⟩
end
theorem CqR.done {w0 W : World} {sb g ob n : Nat} {lv : Value} {f : Bool} {vs : Nat → Nat} {L : Nat → Nat → Fo} (h : CqR w0 W sb g ob n (n * n) lv f vs) (hl : LowR n L vs) (hf : ∀ i j, finO (L i j) = true) (hn : n ≤ 12) :
  ChA 0 0 n (matL n L) w0 (.returned (.tuple #[MatV n n (.slice (some ⟨g, 0, none⟩) (n * n) (n * n)), .int .i64 0, .int .i64 0])) (((W.setCell ⟨w0.heap.size + 1, 0, none⟩ (.int .i64 n)).setCell ⟨w0.heap.size + 1, 1, none⟩ (.int .i64 n)).setCell ⟨w0.heap.size + 1, 2, none⟩ (.slice (some ⟨g, 0, none⟩) (n * n) (n * n))) := by
 have hne := h.r.ne
 have hg : FMs (((W.setCell ⟨w0.heap.size + 1, 0, none⟩ (.int .i64 n)).setCell ⟨w0.heap.size + 1, 1, none⟩ (.int .i64 n)).setCell ⟨w0.heap.size + 1, 2, none⟩ (.slice (some ⟨g, 0, none⟩) (n * n) (n * n))) g (n * n) vs :=
  ((h.r.gm.upd (Upd.set (b := w0.heap.size + 1) _) (by omega)).upd (Upd.set (b := w0.heap.size + 1) _) (by omega)).upd (Upd.set (b := w0.heap.size + 1) _) (by omega)
 exact ⟨_, rfl, hg.matF hl hf hn, (by intro a c d e; cases e; show w0.heap.size ≤ g; omega), below_three h.r.B.b _ (Nat.le_succ _) _ _ _⟩
theorem CqR.start {w0 W : World} {g ob n N : Nat} {lv : Value} {vs : Nat → Nat} (h : MrR w0 W g ob n N lv vs) : CqR w0 (W.alloc (.cells #[.bool false] 109)) W.heap.size g ob n N lv false vs :=
 ⟨h.later (Below.alloc_self _ _), BlkT.new W _ _, by have := h.ne; have := h.gm.lt; omega, by have := h.gm.lt; omega, by have := h.om.lt; omega⟩
set_option maxRecDepth 100000 in
set_option maxHeartbeats 6400000 in
theorem rchol_any (r c : Int) (sl : Value) (l : List Nat) (w : World) (hl : FSl w sl l) :
  Calls Tryz.prog 16 #[MatV r c sl] w (ChA (cholE r c l) (cholP r c l) (cholN r c l) (cholL r c l) w) := by
 have HB := Lib.hid (ChB.new w r c sl)
 have HSQ := Lib.hid (rsymm_any r c sl l _ (hl.below (below2 w (.cells #[.int .i64 r, .int .i64 c, sl] 25) (.cells #[.int .i64 0, .int .i64 0, .slice none 0 0] 25))))
 by_cases h0 : sqrB r c l = 0
 ·obtain ⟨n, rfl, rfl, hq, -⟩ := sqr_zero h0
  have HEND := Lib.hid (fun er pl he => chol_end h0 er pl he)
  rw [h0] at HSQ
  have HFIT := Lib.hid ((chW_fit w).all (a := atO n l) (fun i j => atO_rep hl.elem_lt hq.fin i j) n)
  have hn := hq.hn
  have HAT := Lib.hid (atG_of hl hq.len rAt_any)
  have HRA := Lib.hid fun (i j : Nat) (hi : i < n) (hj : j < n) => (show Rep (atO n l i j) (atN n l i j) from ⟨hl.at_lt hq hi hj, rfl⟩)
  have HZ := Lib.hid fun W => rzero_any n n hn hn W
  have hnn : n * n ≤ 144 := Nat.mul_le_mul hn hn
  clear h0 hq hl
  generalize cholE n n l = E at *
  generalize cholP n n l = P at *
  generalize cholN n n l = Nn at *
  generalize cholL n n l = R at *
  have HFM := Lib.hid fun (g i j : Nat) (vs : Nat → Nat) (M : Nat → Nat → Fo) W (hg : FMs W g (n * n) vs) (hM : LowR n M vs) (hi : i < n) (hj : j < n) => fm_at hn hg hM hi hj
  obtain ⟨N, hN⟩ : ∃ N, n * n = N := ⟨_, rfl⟩
  rw [hN] at HZ HFM hnn
  have HN := Lib.hid hN
  clear hN
  obtain ⟨⟨m0, m1, m2⟩, ⟨q0, q1, q2⟩, f0, f1, f2⟩ := HB.out.cells
  go_enter Tryz.func16, Tryz.ntmps16
  go_wp2_with fail
  refine HSQ.out.mono ?_
  rintro e1 w1 ⟨rfl, hb1⟩
  replace HB := Lib.hid (HB.out.later hb1)
  clear hb1 m0 m1 m2 q0 q1 q2 f0 f1 f2 HSQ
  obtain ⟨⟨m0, m1, m2⟩, ⟨q0, q1, q2⟩, f0, f1, f2⟩ := HB.out.cells
  go_wp2_with fail
  refine (HZ.out _).mono ?_
  rintro e2 w2 ⟨g, rfl, hg, hgl, hb2⟩
  have HGL : Hid (w.heap.size + 1 < g) := Lib.hid (by have := HB.out.q.lt; omega)
  replace HB := Lib.hid (HB.out.later hb2)
  have HG := Lib.hid hg
  clear hb2 hg hgl m0 m1 m2 q0 q1 q2 f0 f1 f2 HZ
  go_upto_region 6 with fail
  have HM0 : Hid (MrR w (w2.alloc (.cells #[.int .i64 n, .int .i64 n, .slice (some ⟨g, 0, none⟩) N N] 25)) g w2.heap.size n N sl (fun _ => 0)) := Lib.hid ⟨HB.out.later (Below.alloc_self w2 _), HG.out.below (Below.alloc_self w2 _), BlkT.new w2 _ _, HGL.out, HG.out.lt⟩
  obtain ⟨ob, hob⟩ : ∃ b, w2.heap.size = b := ⟨_, rfl⟩
  rw [hob] at HM0 ⊢
  generalize World.alloc w2 _ = W2 at *
  clear hob HB HG HGL
  go_upto_region 7 with fail
  have HD0 := Lib.hid (CqR.start HM0.out)
  obtain ⟨sb, hsb⟩ : ∃ b, W2.heap.size = b := ⟨_, rfl⟩
  rw [hsb] at HD0 ⊢
  generalize World.alloc W2 _ = W3 at *
  clear hsb HM0
  have HL0 : Hid (LowR n (dgL (chW.all (atO n l) n 0).L (chW.all (atO n l) n 0).H 0) (fun _ => 0)) := Lib.hid (by rw [dgL_zero]; exact LowR.zero n)
  have HE0 : Hid ((chW.all (atO n l) n 0).e = 0 ∧ (chW.all (atO n l) n 0).f = false) := Lib.hid ⟨rfl, rfl⟩
  generalize atO n l = a at *
  go_wp2
  go_loopw [9] (fun j wr => ∃ (k : Nat) (vs : Nat → Nat), k ≤ n ∧ j = .int .i64 k ∧ Hid ((chW.all a n k).e = 0 ∧ (chW.all a n k).f = false) ∧ Hid (LowR n (dgL (chW.all a n k).L (chW.all a n k).H k) vs) ∧ Hid (CqR w wr sb g ob n N sl false vs)) (fun j _ => n - (intOf j).toNat)
  case atStart => exact ⟨0, _, Nat.zero_le _, rfl, HE0, HL0, HD0⟩
  case round =>
   clear HL0 HD0 HE0
   obtain ⟨wo, rfl⟩ : ∃ wo : World, wo = wr := ⟨_, rfl⟩
   obtain ⟨k, vs, hk, rfl, HE, HL, HD⟩ := hrel
   obtain ⟨m0, m1, m2⟩ := HD.out.r.B.cells.1
   by_cases hlt : k < n
   ·have HBAD := Lib.hid fun h => Way.Sticky.bad_end (ov := 5) hlt HE.out.1 h
    have HGOOD := Lib.hid fun h => chW.all_good HE.out.1 h
    have HOV := Lib.hid fun h0 h1 => chW_sticky.over_all (a := a) (n := n) (m := k + 1) (by omega) h0 h1
    have HPV : Hid (chW.pv a k (chW.all a n k) = chW.dw (chW.all a n k).L (chW.all a n k).H k k (a k k, false) k) := Lib.hid (by rw [← HE.out.2]; rfl)
    rw [HPV.out] at HBAD HGOOD
    clear HPV HE
    generalize chW.all a n k = st at *
    go_wp2_with fail
    refine (HAT.out k k _ hlt hlt HD.out.r.B.b).mono ?_
    rintro e3 w3 ⟨rfl, hb3⟩
    replace HD := Lib.hid (HD.out.later hb3)
    have HT0 : Hid (Rep (chW.dw st.L st.H k k (a k k, false) 0).1 (atN n l k k)) := Lib.hid (HRA.out k k hlt hlt)
    have HD1 : Hid (CqR w w3 sb g ob n N sl (chW.dw st.L st.H k k (a k k, false) 0).2 vs) := HD
    clear hb3 m0 m1 m2 HD
    generalize atN n l k k = x0 at HT0 ⊢
    go_wp2
    go_loopw [10, 11] (fun tv j wr => ∃ (q u : Nat), q ≤ k ∧ j = .int .i64 q ∧ tv = .float .f64 u ∧ Hid (Rep (chW.dw st.L st.H k k (a k k, false) q).1 u) ∧ Hid (CqR w wr sb g ob n N sl (chW.dw st.L st.H k k (a k k, false) q).2 vs)) (fun _ j _ => k - (intOf j).toNat)
    case atStart => exact ⟨0, _, Nat.zero_le _, rfl, rfl, HT0, HD1⟩
    case round =>
     clear HT0 HD1
     obtain ⟨q, u, hq, rfl, rfl, HU, HD⟩ := hrel
     by_cases hql : q < k
     ·have hqn : q < n := by omega
      have HSQ : Hid (chW.dw st.L st.H k k (a k k, false) (q + 1) = lesS (chW.dw st.L st.H k k (a k k, false) q) (st.L k q) (st.L k q)) := Lib.hid rfl
      generalize chW.dw st.L st.H k k (a k k, false) q = t0 at *
      have HM1 := Lib.hid fun W (hg : FMs W g N vs) => HFM.out g k q vs _ W hg HL.out hlt hqn
      have HM2 := Lib.hid fun W (hg : FMs W g N vs) => HFM.out g k q vs _ W hg HL.out hlt hqn
      rw [dgL_ne (by omega)] at HM1 HM2
      have hmul : ∀ ty u v w, (binOp .mul ty (.float .f64 u) (.float .f64 v)).run Tryz.prog w = .ok (.float .f64 (fV .mul u v w)) (fN .mul u v w) := fun ty u v w => run_float_any .mul (.inr (.inr (.inl rfl))) ty u v w
      have hsub : ∀ ty u v w, (binOp .sub ty (.float .f64 u) (.float .f64 v)).run Tryz.prog w = .ok (.float .f64 (fV .sub u v w)) (fN .sub u v w) := fun ty u v w => run_float_any .sub (.inr (.inl rfl)) ty u v w
      go_upto_region 14 with fail
      refine wp_region_pl (fun w' : World => w'.cell? ⟨ob, 0, none⟩ = some (.int .i64 n) ∧ w'.cell? ⟨ob, 1, none⟩ = some (.int .i64 n) ∧ w'.cell? ⟨ob, 2, none⟩ = some (.slice (some ⟨g, 0, none⟩) N N)) 14 (.take 0 (.take 1 (.take 2 (.take 3 (.take 4 (.take 5 (.take 7 (.take 8 (.take 9 (.run 6 (.run 10 (.run 11 (.run 12 (.run 13 .nil)))))))))))))) (by kernel_rfl) (by kernel_rfl) ?_
      replace HD := Lib.hid (HD.out.later (drew_below _))
      generalize World.drew _ = W5 at HD ⊢
      repeat (refine tkL (v := ?_) rfl rfl rfl (fun w' hSw => ?_) HD.out.r.rd.1 ?_; rotate_left; (focus (go_simp; with_reducible rfl)); simp only [setL])
      refine wpPl_goL rfl rfl fun K' hK => ?_
      go_simp
      refine (HM1.out _ HD.out.r.gm).mono ?_
      rintro e1 W5v1 ⟨x, rfl, hx, hb1⟩
      replace HD := Lib.hid (HD.out.later hb1)
      have HX := Lib.hid hx
      clear hx
      refine hK _ _ HD.out.r.rd.1 ?_
      clear hK K' hb1
      try simp only [Act.put, setL]
      repeat (refine tkL (v := ?_) rfl rfl rfl (fun w' hSw => ?_) HD.out.r.rd.1 ?_; rotate_left; (focus (go_simp; with_reducible rfl)); simp only [setL])
      refine wpPl_goL rfl rfl fun K' hK => ?_
      go_simp
      refine (HM2.out _ HD.out.r.gm).mono ?_
      rintro e1 W5v2 ⟨y, rfl, hy, hb1⟩
      replace HD := Lib.hid (HD.out.later hb1)
      have HY := Lib.hid hy
      clear hy
      refine hK _ _ HD.out.r.rd.1 ?_
      clear hK K' hb1
      try simp only [Act.put, setL]
      repeat (refine tkL (v := ?_) rfl rfl rfl (fun w' hSw => ?_) HD.out.r.rd.1 ?_; rotate_left; (focus (go_simp; with_reducible rfl)); simp only [setL])
      refine wpPl_goL rfl rfl fun K' hK => ?_
      go_simp
      replace HD := Lib.hid (HD.out.later (fN_below .mul x y W5v2))
      have HP := Lib.hid (HX.out.op (op := .mul) HY.out W5v2)
      generalize fN .mul x y W5v2 = W5v3 at *
      generalize fV .mul x y _ = p0 at *
      refine hK _ _ HD.out.r.rd.1 ?_
      clear hK K'
      try simp only [Act.put, setL]
      repeat (refine tkL (v := ?_) rfl rfl rfl (fun w' hSw => ?_) HD.out.r.rd.1 ?_; rotate_left; (focus (go_simp; with_reducible rfl)); simp only [setL])
      refine wpPl_goL rfl rfl fun K' hK => ?_
      go_simp
      refine (rS_any sb _ _ p0 _ HD.out.s HP.out).mono ?_
      rintro e1 W5v4 ⟨p, rfl, hp, hs1, hu1⟩
      replace HD := Lib.hid (HD.out.step hu1 hs1)
      have HP2 := Lib.hid hp
      clear hp hs1 hu1 HX HY HP
      refine hK _ _ HD.out.r.rd.1 ?_
      clear hK K'
      try simp only [Act.put, setL]
      repeat (refine tkL (v := ?_) rfl rfl rfl (fun w' hSw => ?_) HD.out.r.rd.1 ?_; rotate_left; (focus (go_simp; with_reducible rfl)); simp only [setL])
      refine wpPl_goL rfl rfl fun K' hK => ?_
      go_simp
      replace HD := Lib.hid (HD.out.later (fN_below .sub u p W5v4))
      have HT := Lib.hid (HU.out.op (op := .sub) HP2.out W5v4)
      generalize fN .sub u p W5v4 = W5v5 at *
      generalize fV .sub u p _ = t1 at *
      refine hK _ _ HD.out.r.rd.1 ?_
      clear hK K'
      try simp only [Act.put, setL]
      repeat (refine tkL (v := ?_) rfl rfl rfl (fun w' hSw => ?_) HD.out.r.rd.1 ?_; rotate_left; (focus (go_simp; with_reducible rfl)); simp only [setL])
      refine wpPl_nil ?_
      simp only [drL]
      go_wp2_with fail
      refine (rS_any sb _ _ t1 _ HD.out.s HT.out).mono ?_
      rintro e7 w7 ⟨u2, rfl, hr, hs1, hu1⟩
      replace HD := Lib.hid (HD.out.step hu1 hs1)
      have HU2 := Lib.hid hr
      clear hr hs1 hu1 HU HP2 HT hmul hsub
      go_wp2
      go_roundw
      case rel => exact ⟨q + 1, u2, by omega, by go_num, rfl, Lib.hid (by rw [HSQ.out]; exact HU2.out), Lib.hid (by rw [HSQ.out]; exact HD.out)⟩
      case measure => simp [intOf] <;> omega
     ·obtain rfl : q = k := by omega
      obtain ⟨pv, hpv⟩ : ∃ x, chW.dw st.L st.H q q (a q q, false) q = x := ⟨_, rfl⟩
      rw [hpv] at HU HD HBAD HGOOD
      clear hpv
      obtain ⟨d, f⟩ := pv
      dsimp only at HU HD
      have s0 := HD.out.s.cell 0
      obtain ⟨⟨m0, m1, m2⟩, ⟨q0, q1, q2⟩, f0, f1, f2⟩ := HD.out.r.B.cells
      cases f
      ·have HG := Lib.hid (gt_rep HU.out)
       obtain ⟨gb, hgb⟩ : ∃ b, gtO d = b := ⟨_, rfl⟩
       have hg0 := HG.out
       rw [hgb] at hg0
       cases gb
       ·have HHD : Hid (chW.head (d, false) = (some 0, 90)) := Lib.hid (by show (if gtO d then (sqO d, (0 : Int)) else (some 0, 90)) = _; rw [hgb]; rfl)
        have hres := HBAD.out (by rw [HHD.out]; exact (show (90 : Int) ≠ 0 by decide))
        rw [HHD.out] at hres
        obtain ⟨rfl, rfl, hE, -⟩ := HEND.out 90 q hres
        obtain ⟨rfl, rfl⟩ := hE (by decide)
        have HBB := Lib.hid HD.out.r.B
        clear HEND HFIT HD HBAD HGOOD HOV hres
        go_wp2
        exact bodyPost_ret (v := .tuple #[MatV 0 0 (.slice none 0 0), .int .i64 ((P : Nat) : Int), .int .i64 90]) (by simp [results, Tryz.results16, go_sem, q0, q1, q2]) rfl HBB.out.err
       ·have HHD : Hid (chW.head (d, false) = (sqO d, 0)) := Lib.hid (by show (if gtO d then (sqO d, (0 : Int)) else (some 0, 90)) = _; rw [hgb]; rfl)
        obtain ⟨rt, hrt, hrr⟩ := rep_sqrt HU.out hgb
        have HQ := Lib.hid fun W => sqrt_any u rt hrt W
        have HRT := Lib.hid hrr
        have HGD := Lib.hid (HGOOD.out (by rw [HHD.out]))
        rw [HHD.out] at HGD
        dsimp only at HGD
        clear HBAD HGOOD hrt hrr q0 q1 q2 f0 f1 f2 m0 m1 m2
        obtain ⟨⟨x0, x1, x2⟩, -⟩ := HD.out.r.rd
        go_upto_region 19 with fail
        clear s0 x0 x1 x2
        refine wp_region_pl (fun w' : World => w'.cell? ⟨ob, 0, none⟩ = some (.int .i64 n) ∧ w'.cell? ⟨ob, 1, none⟩ = some (.int .i64 n) ∧ w'.cell? ⟨ob, 2, none⟩ = some (.slice (some ⟨g, 0, none⟩) N N)) 5 (.take 0 (.take 1 (.take 2 (.take 3 (.run 4 .nil))))) (by kernel_rfl) (by kernel_rfl) ?_
        replace HD := Lib.hid (HD.out.later (drew_below _))
        generalize World.drew _ = W9 at HD ⊢
        repeat (refine tkL (v := ?_) rfl rfl rfl (fun w' hSw => ?_) HD.out.r.rd.1 ?_; rotate_left; (focus (go_simp; with_reducible rfl)); simp only [setL])
        refine wpPl_goL rfl rfl fun K' hK => ?_
        go_simp
        refine (HQ.out _).mono ?_
        rintro e1 W9v1 ⟨rfl, hb1⟩
        replace HD := Lib.hid (HD.out.later hb1)
        refine hK _ _ HD.out.r.rd.1 ?_
        clear hK K' hb1
        try simp only [Act.put, setL]
        repeat (refine tkL (v := ?_) rfl rfl rfl (fun w' hSw => ?_) HD.out.r.rd.1 ?_; rotate_left; (focus (go_simp; with_reducible rfl)); simp only [setL])
        refine wpPl_nil ?_
        simp only [drL]
        have HPN : Hid (q * n + q < N) := Lib.hid (by rw [← HN.out]; exact at_lt hlt hlt)
        go_wp2_with fail
        refine (r9put_any g n N q q _ rt n _ _ HD.out.r.gm rfl HPN.out (by omega)).mono ?_
        rintro e8 w8 ⟨rfl, hg8, hu8⟩
        replace HD := Lib.hid (HD.out.put hu8 hg8)
        have HL1 : Hid (LowR n (dgL (chW.rows a (updF st.H q (sqO d)) (sqO d) q (q + 1) (st.L, false)).1 (updF st.H q (sqO d)) (q + 1)) (updF vs (q * n + q) rt)) := Lib.hid (by rw [chW.rows_skip _ _ _ _ _ _ (Nat.le_refl _), dgL_succ, dgL_upH, updF_self]; exact HL.out.set hlt HRT.out)
        have HD2 : Hid (CqR w w8 sb g ob n N sl (chW.rows a (updF st.H q (sqO d)) (sqO d) q (q + 1) (st.L, false)).2 (updF vs (q * n + q) rt)) := Lib.hid (by rw [chW.rows_skip _ _ _ _ _ _ (Nat.le_refl _)]; exact HD.out)
        clear hg8 hu8 HL HD HG hg0 hgb
        generalize updF vs (q * n + q) rt = vs1 at *
        generalize hHH : updF st.H q (sqO d) = H1 at *
        generalize sqO d = hh at *
        have HH1 : Hid (H1 q = hh) := Lib.hid (by rw [← hHH, updF_self])
        clear hHH
        go_wp2
        go_loopw [12] (fun iv wr => ∃ (i : Nat) (vs : Nat → Nat), q + 1 ≤ i ∧ i ≤ n ∧ iv = .int .i64 i ∧ Hid (LowR n (dgL (chW.rows a H1 hh q i (st.L, false)).1 H1 (q + 1)) vs) ∧ Hid (CqR w wr sb g ob n N sl (chW.rows a H1 hh q i (st.L, false)).2 vs)) (fun iv _ => n - (intOf iv).toNat)
        case atStart => exact ⟨q + 1, vs1, Nat.le_refl _, by omega, by go_num, HL1, HD2⟩
        case round =>
         clear HL1 HD2
         obtain ⟨wo2, rfl⟩ : ∃ wo : World, wo = wr := ⟨_, rfl⟩
         obtain ⟨i, vs, hi1, hi2, rfl, HL, HD⟩ := hrel
         obtain ⟨m0, m1, m2⟩ := HD.out.r.B.cells.1
         obtain ⟨k, hkq⟩ : ∃ k, q = k := ⟨_, rfl⟩
         subst hkq
         by_cases hin : i < n
         ·have HSS := Lib.hid (chW.rows_succ (a := a) (H := H1) (h := hh) (s := (st.L, false)) (show q < i by omega))
          generalize chW.rows a H1 hh q i (st.L, false) = rs at *
          obtain ⟨L2, f2⟩ := rs
          dsimp only at HL HD HSS
          go_wp2_with fail
          refine (HAT.out i q _ hin hlt HD.out.r.B.b).mono ?_
          rintro e3 w3 ⟨rfl, hb3⟩
          replace HD := Lib.hid (HD.out.later hb3)
          have HT0 : Hid (Rep (chW.dw L2 H1 i q (a i q, f2) 0).1 (atN n l i q)) := Lib.hid (HRA.out i q hin hlt)
          have HD1 : Hid (CqR w w3 sb g ob n N sl (chW.dw L2 H1 i q (a i q, f2) 0).2 vs) := HD
          clear hb3 m0 m1 m2 HD
          generalize atN n l i q = x0 at HT0 ⊢
          go_wp2
          go_loopw [13, 14] (fun tv j wr => ∃ (q2 u : Nat), q2 ≤ q ∧ j = .int .i64 q2 ∧ tv = .float .f64 u ∧ Hid (Rep (chW.dw L2 H1 i q (a i q, f2) q2).1 u) ∧ Hid (CqR w wr sb g ob n N sl (chW.dw L2 H1 i q (a i q, f2) q2).2 vs)) (fun _ j _ => q - (intOf j).toNat)
          case atStart => exact ⟨0, _, Nat.zero_le _, rfl, rfl, HT0, HD1⟩
          case round =>
           clear HT0 HD1
           obtain ⟨q2, u, hq, rfl, rfl, HU, HD⟩ := hrel
           by_cases hql : q2 < q
           ·have hqn : q2 < n := by omega
            have HSQ : Hid (chW.dw L2 H1 i q (a i q, f2) (q2 + 1) = lesS (chW.dw L2 H1 i q (a i q, f2) q2) (L2 i q2) (L2 q q2)) := Lib.hid rfl
            generalize chW.dw L2 H1 i q (a i q, f2) q2 = t0 at *
            have HM1 := Lib.hid fun W (hg : FMs W g N vs) => HFM.out g i q2 vs _ W hg HL.out hin hqn
            have HM2 := Lib.hid fun W (hg : FMs W g N vs) => HFM.out g q q2 vs _ W hg HL.out hlt hqn
            rw [dgL_ne (by omega)] at HM1 HM2
            have hmul : ∀ ty u v w, (binOp .mul ty (.float .f64 u) (.float .f64 v)).run Tryz.prog w = .ok (.float .f64 (fV .mul u v w)) (fN .mul u v w) := fun ty u v w => run_float_any .mul (.inr (.inr (.inl rfl))) ty u v w
            have hsub : ∀ ty u v w, (binOp .sub ty (.float .f64 u) (.float .f64 v)).run Tryz.prog w = .ok (.float .f64 (fV .sub u v w)) (fN .sub u v w) := fun ty u v w => run_float_any .sub (.inr (.inl rfl)) ty u v w
            go_upto_region 27 with fail
            refine wp_region_pl (fun w' : World => w'.cell? ⟨ob, 0, none⟩ = some (.int .i64 n) ∧ w'.cell? ⟨ob, 1, none⟩ = some (.int .i64 n) ∧ w'.cell? ⟨ob, 2, none⟩ = some (.slice (some ⟨g, 0, none⟩) N N)) 14 (.take 0 (.take 1 (.take 2 (.take 3 (.take 4 (.take 5 (.take 7 (.take 8 (.take 9 (.run 6 (.run 10 (.run 11 (.run 12 (.run 13 .nil)))))))))))))) (by kernel_rfl) (by kernel_rfl) ?_
            replace HD := Lib.hid (HD.out.later (drew_below _))
            generalize World.drew _ = Wa at HD ⊢
            repeat (refine tkL (v := ?_) rfl rfl rfl (fun w' hSw => ?_) HD.out.r.rd.1 ?_; rotate_left; (focus (go_simp; with_reducible rfl)); simp only [setL])
            refine wpPl_goL rfl rfl fun K' hK => ?_
            go_simp
            refine (HM1.out _ HD.out.r.gm).mono ?_
            rintro e1 Wav1 ⟨x, rfl, hx, hb1⟩
            replace HD := Lib.hid (HD.out.later hb1)
            have HX := Lib.hid hx
            clear hx
            refine hK _ _ HD.out.r.rd.1 ?_
            clear hK K' hb1
            try simp only [Act.put, setL]
            repeat (refine tkL (v := ?_) rfl rfl rfl (fun w' hSw => ?_) HD.out.r.rd.1 ?_; rotate_left; (focus (go_simp; with_reducible rfl)); simp only [setL])
            refine wpPl_goL rfl rfl fun K' hK => ?_
            go_simp
            refine (HM2.out _ HD.out.r.gm).mono ?_
            rintro e1 Wav2 ⟨y, rfl, hy, hb1⟩
            replace HD := Lib.hid (HD.out.later hb1)
            have HY := Lib.hid hy
            clear hy
            refine hK _ _ HD.out.r.rd.1 ?_
            clear hK K' hb1
            try simp only [Act.put, setL]
            repeat (refine tkL (v := ?_) rfl rfl rfl (fun w' hSw => ?_) HD.out.r.rd.1 ?_; rotate_left; (focus (go_simp; with_reducible rfl)); simp only [setL])
            refine wpPl_goL rfl rfl fun K' hK => ?_
            go_simp
            replace HD := Lib.hid (HD.out.later (fN_below .mul x y Wav2))
            have HP := Lib.hid (HX.out.op (op := .mul) HY.out Wav2)
            generalize fN .mul x y Wav2 = Wav3 at *
            generalize fV .mul x y _ = p0 at *
            refine hK _ _ HD.out.r.rd.1 ?_
            clear hK K'
            try simp only [Act.put, setL]
            repeat (refine tkL (v := ?_) rfl rfl rfl (fun w' hSw => ?_) HD.out.r.rd.1 ?_; rotate_left; (focus (go_simp; with_reducible rfl)); simp only [setL])
            refine wpPl_goL rfl rfl fun K' hK => ?_
            go_simp
            refine (rS_any sb _ _ p0 _ HD.out.s HP.out).mono ?_
            rintro e1 Wav4 ⟨p, rfl, hp, hs1, hu1⟩
            replace HD := Lib.hid (HD.out.step hu1 hs1)
            have HP2 := Lib.hid hp
            clear hp hs1 hu1 HX HY HP
            refine hK _ _ HD.out.r.rd.1 ?_
            clear hK K'
            try simp only [Act.put, setL]
            repeat (refine tkL (v := ?_) rfl rfl rfl (fun w' hSw => ?_) HD.out.r.rd.1 ?_; rotate_left; (focus (go_simp; with_reducible rfl)); simp only [setL])
            refine wpPl_goL rfl rfl fun K' hK => ?_
            go_simp
            replace HD := Lib.hid (HD.out.later (fN_below .sub u p Wav4))
            have HT := Lib.hid (HU.out.op (op := .sub) HP2.out Wav4)
            generalize fN .sub u p Wav4 = Wav5 at *
            generalize fV .sub u p _ = t1 at *
            refine hK _ _ HD.out.r.rd.1 ?_
            clear hK K'
            try simp only [Act.put, setL]
            repeat (refine tkL (v := ?_) rfl rfl rfl (fun w' hSw => ?_) HD.out.r.rd.1 ?_; rotate_left; (focus (go_simp; with_reducible rfl)); simp only [setL])
            refine wpPl_nil ?_
            simp only [drL]
            go_wp2_with fail
            refine (rS_any sb _ _ t1 _ HD.out.s HT.out).mono ?_
            rintro e7 w7 ⟨u2, rfl, hr, hs1, hu1⟩
            replace HD := Lib.hid (HD.out.step hu1 hs1)
            have HU2 := Lib.hid hr
            clear hr hs1 hu1 HU HP2 HT hmul hsub
            go_wp2
            go_roundw
            case rel => exact ⟨q2 + 1, u2, by omega, by go_num, rfl, Lib.hid (by rw [HSQ.out]; exact HU2.out), Lib.hid (by rw [HSQ.out]; exact HD.out)⟩
            case measure => simp [intOf] <;> omega
           ·obtain rfl : q2 = q := by omega
            obtain ⟨x0, x1, x2⟩ := HD.out.r.rd.1
            have HMD := Lib.hid fun W (hg : FMs W g N vs) => HFM.out g q2 q2 vs _ W hg HL.out hlt hlt
            rw [dgL_at (Nat.lt_succ_self _), HH1.out] at HMD
            generalize chW.dw L2 H1 i q2 (a i q2, f2) q2 = t0 at *
            obtain ⟨tt, ft⟩ := t0
            dsimp only at HU HD
            have HSE : Hid (chW.rows a H1 hh q2 (i + 1) (st.L, false) = (upd2 L2 i q2 (oA .quo tt hh), ovr ft (oA .quo tt hh))) := HSS
            clear HSS
            have hquo : ∀ ty u v w, (binOp .quo ty (.float .f64 u) (.float .f64 v)).run Tryz.prog w = .ok (.float .f64 (fV .quo u v w)) (fN .quo u v w) := fun ty u v w => run_float_any .quo (.inr (.inr (.inr rfl))) ty u v w
            go_upto_region 28 with fail
            clear x0 x1 x2
            refine wp_region_pl (fun w' : World => w'.cell? ⟨ob, 0, none⟩ = some (.int .i64 n) ∧ w'.cell? ⟨ob, 1, none⟩ = some (.int .i64 n) ∧ w'.cell? ⟨ob, 2, none⟩ = some (.slice (some ⟨g, 0, none⟩) N N)) 11 (.take 0 (.take 1 (.take 2 (.take 3 (.take 4 (.take 5 (.take 6 (.take 7 (.run 8 (.run 9 (.run 10 .nil))))))))))) (by kernel_rfl) (by kernel_rfl) ?_
            replace HD := Lib.hid (HD.out.later (drew_below _))
            generalize World.drew _ = Wb at HD ⊢
            repeat (refine tkL (v := ?_) rfl rfl rfl (fun w' hSw => ?_) HD.out.r.rd.1 ?_; rotate_left; (focus (go_simp; with_reducible rfl)); simp only [setL])
            refine wpPl_goL rfl rfl fun K' hK => ?_
            go_simp
            refine (HMD.out _ HD.out.r.gm).mono ?_
            rintro e1 Wbv1 ⟨y, rfl, hy, hb1⟩
            replace HD := Lib.hid (HD.out.later hb1)
            have HY := Lib.hid hy
            clear hy
            refine hK _ _ HD.out.r.rd.1 ?_
            clear hK K' hb1
            try simp only [Act.put, setL]
            repeat (refine tkL (v := ?_) rfl rfl rfl (fun w' hSw => ?_) HD.out.r.rd.1 ?_; rotate_left; (focus (go_simp; with_reducible rfl)); simp only [setL])
            refine wpPl_goL rfl rfl fun K' hK => ?_
            go_simp
            replace HD := Lib.hid (HD.out.later (fN_below .quo u y Wbv1))
            have HP := Lib.hid (HU.out.op (op := .quo) HY.out Wbv1)
            generalize fN .quo u y Wbv1 = Wbv2 at *
            generalize fV .quo u y _ = p0 at *
            refine hK _ _ HD.out.r.rd.1 ?_
            clear hK K'
            try simp only [Act.put, setL]
            repeat (refine tkL (v := ?_) rfl rfl rfl (fun w' hSw => ?_) HD.out.r.rd.1 ?_; rotate_left; (focus (go_simp; with_reducible rfl)); simp only [setL])
            refine wpPl_goL rfl rfl fun K' hK => ?_
            go_simp
            refine (rS_any sb _ _ p0 _ HD.out.s HP.out).mono ?_
            rintro e1 Wbv3 ⟨z, rfl, hz, hs1, hu1⟩
            replace HD := Lib.hid (HD.out.step hu1 hs1)
            have HZZ := Lib.hid hz
            clear hz hs1 hu1 HY HP HU
            refine hK _ _ HD.out.r.rd.1 ?_
            clear hK K'
            try simp only [Act.put, setL]
            repeat (refine tkL (v := ?_) rfl rfl rfl (fun w' hSw => ?_) HD.out.r.rd.1 ?_; rotate_left; (focus (go_simp; with_reducible rfl)); simp only [setL])
            refine wpPl_nil ?_
            simp only [drL]
            have HPN : Hid (i * n + q2 < N) := Lib.hid (by rw [← HN.out]; exact at_lt hin hlt)
            go_wp2_with fail
            refine (r9put_any g n N i q2 _ z n _ _ HD.out.r.gm rfl HPN.out (by omega)).mono ?_
            rintro e8 w8 ⟨rfl, hg8, hu8⟩
            replace HD := Lib.hid (HD.out.put hu8 hg8)
            clear hg8 hu8 hquo
            go_wp2
            go_roundw
            case rel => exact ⟨i + 1, _, by omega, by omega, by go_num, Lib.hid (by rw [HSE.out, dgL_put (by omega)]; exact HL.out.set hlt HZZ.out), Lib.hid (by rw [HSE.out]; exact HD.out)⟩
            case measure => simp [intOf] <;> omega
         ·obtain rfl : i = n := by omega
          have s0 := HD.out.s.cell 0
          have HGE : Hid ((chW.all a i (q + 1)).e = 0 ∧ (chW.all a i (q + 1)).f = (chW.rows a H1 hh q i (st.L, false)).2 ∧ (chW.all a i (q + 1)).L = (chW.rows a H1 hh q i (st.L, false)).1 ∧ (chW.all a i (q + 1)).H = H1) := Lib.hid (by rw [HGD.out]; exact ⟨rfl, rfl, rfl, rfl⟩)
          obtain ⟨bf, hbf⟩ : ∃ b, (chW.rows a H1 hh q i (st.L, false)).2 = b := ⟨_, rfl⟩
          rw [hbf] at s0 HD HGE
          obtain ⟨-, ⟨q0, q1, q2⟩, f0, f1, f2⟩ := HD.out.r.B.cells
          cases bf
          ·clear q0 q1 q2 f0 f1 f2
           go_wp2
           go_roundw
           case rel => exact ⟨q + 1, vs, by omega, by go_num, Lib.hid ⟨HGE.out.1, HGE.out.2.1⟩, Lib.hid (by rw [HGE.out.2.2.1, HGE.out.2.2.2]; exact HL.out), HD⟩
           case measure => simp [intOf] <;> omega
          ·have hres := HOV.out HGE.out.1 HGE.out.2.1
           obtain ⟨rfl, rfl, hE, -⟩ := HEND.out 5 0 hres
           obtain ⟨rfl, rfl⟩ := hE (by decide)
           have HBB := Lib.hid HD.out.r.B
           clear HEND HFIT HD HOV hres
           go_wp2
           exact bodyPost_ret (v := .tuple #[MatV 0 0 (.slice none 0 0), .int .i64 (((0 : Nat)) : Int), .int .i64 5]) (by simp [results, Tryz.results16, go_sem, q0, q1, q2]) rfl HBB.out.err
      ·have HHD : Hid (chW.head (d, true) = (some 0, 5)) := Lib.hid rfl
       have hres := HBAD.out (by rw [HHD.out]; exact (show (5 : Int) ≠ 0 by decide))
       rw [HHD.out] at hres
       obtain ⟨rfl, rfl, hE, -⟩ := HEND.out 5 0 hres
       obtain ⟨rfl, rfl⟩ := hE (by decide)
       have HBB := Lib.hid HD.out.r.B
       clear HEND HFIT HD HBAD HGOOD HOV hres
       go_wp2
       exact bodyPost_ret (v := .tuple #[MatV 0 0 (.slice none 0 0), .int .i64 (((0 : Nat)) : Int), .int .i64 5]) (by simp [results, Tryz.results16, go_sem, q0, q1, q2]) rfl HBB.out.err
   ·obtain rfl : k = n := by omega
    have HF := Lib.hid ((HFIT.out k HE.out.1).2.2 HE.out.2)
    obtain ⟨rfl, rfl, -, hE⟩ := HEND.out 0 0 (res_ok HE.out.1 HE.out.2)
    obtain ⟨rfl, rfl⟩ := hE rfl
    have hN := HN.out
    subst hN
    have HDN := Lib.hid (HD.out.done HL.out (dg_fin HF.out.1 HF.out.2) hn)
    obtain ⟨x0, x1, x2⟩ := HD.out.r.rd.1
    obtain ⟨-, ⟨q0, q1, q2⟩, f0, f1, f2⟩ := HD.out.r.B.cells
    clear HD HEND HFIT
    go_wp2
    exact bodyPost_ret (v := .tuple #[MatV k k (.slice (some ⟨g, 0, none⟩) (k * k) (k * k)), .int .i64 0, .int .i64 0]) (by simp [results, Tryz.results16, go_sem, q0, q1, q2]) rfl HDN.out
 ·obtain ⟨e1, e2, e3, e4⟩ := cholE_err h0
  rw [e1, e2, e3, e4]
  have hp := beq_eq_false_iff_ne.2 h0
  generalize sqrB r c l = k at *
  clear hl h0 e1 e2 e3 e4
  obtain ⟨⟨m0, m1, m2⟩, ⟨q0, q1, q2⟩, f0, f1, f2⟩ := HB.out.cells
  go_enter Tryz.func16, Tryz.ntmps16
  go_wp2_with fail
  refine HSQ.out.mono ?_
  rintro e1 w1 ⟨rfl, hb1⟩
  replace HB := Lib.hid (HB.out.later hb1)
  clear hb1 m0 m1 m2 q0 q1 q2 f0 f1 f2 HSQ
  obtain ⟨⟨m0, m1, m2⟩, ⟨q0, q1, q2⟩, f0, f1, f2⟩ := HB.out.cells
  go_wp2
  exact bodyPost_ret (v := .tuple #[MatV 0 0 (.slice none 0 0), .int .i64 ((0 : Nat) : Int), .int .i64 k]) (by simp [results, Tryz.results16, go_sem, q0, q1, q2]) rfl HB.out.err
end
section
open Go.RowKit
attribute [local go_sem] run_store_f run_store_fn
def oneO : Fo := some 4607182418800017408
theorem rep1 : Rep oneO 4607182418800017408 := ⟨show 4607182418800017408 < 18446744073709551616 by decide, rfl⟩
end
end Go.Proofs.YtfmecpembnmnkaaGreatDoor
