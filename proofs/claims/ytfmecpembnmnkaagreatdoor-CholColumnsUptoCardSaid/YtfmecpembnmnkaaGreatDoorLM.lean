/- Walk: the references' SolveMat. Printed by wip/gen/ch29.py. -/
import Derived.Test.YtfmecpembnmnkaaGreatDoorLL
import Derived.Test.YtfmecpembnmnkaaGreatDoorLH
import Derived.Deep.CutRange
namespace Go.Proofs.YtfmecpembnmnkaaGreatDoor
section
open Go.RowKit
attribute [local go_sem] run_store_f
structure SmB (w0 W : World) (r c : Int) (sl : Value) (s d : Int) (tl : Value) : Prop where
 m : BlkT W w0.heap.size 25 #[.int .i64 r, .int .i64 c, sl]
 o : BlkT W (w0.heap.size + 1) 25 #[.int .i64 s, .int .i64 d, tl]
 q : BlkT W (w0.heap.size + 1 + 1) 25 #[.int .i64 0, .int .i64 0, .slice none 0 0]
 b : Below w0.heap.size w0 W
section
variable {w0 W V : World} {r c s d : Int} {sl tl : Value}
theorem SmB.new (w : World) (r c : Int) (sl : Value) (s d : Int) (tl : Value) : SmB w (((w.alloc (.cells #[.int .i64 r, .int .i64 c, sl] 25)).alloc (.cells #[.int .i64 s, .int .i64 d, tl] 25)).alloc (.cells #[.int .i64 0, .int .i64 0, .slice none 0 0] 25)) r c sl s d tl :=
 ⟨((BlkT.new w _ _).alloc _).alloc _, (BlkT.new1 w _ _ _).alloc _, BlkT.new2 w _ _ _ _, below3 w _ _ _⟩
theorem SmB.later (h : SmB w0 W r c sl s d tl) (hb : Below W.heap.size W V) : SmB w0 V r c sl s d tl := ⟨h.m.below hb, h.o.below hb, h.q.below hb, h.b.trans (hb.mono h.b.size)⟩
theorem SmB.of_mod {B : Nat} (h : SmB w0 W r c sl s d tl) (hb : Below B W V) (hB : w0.heap.size + 1 + 1 < B) : SmB w0 V r c sl s d tl :=
 ⟨(hb.block _ (by omega)).trans h.m, (hb.block _ (by omega)).trans h.o, (hb.block _ (by omega)).trans h.q, h.b.trans (hb.mono (by omega))⟩
theorem SmB.rd (h : SmB w0 W r c sl s d tl) : (W.cell? ⟨w0.heap.size, 0, none⟩ = some (.int .i64 r) ∧ W.cell? ⟨w0.heap.size, 1, none⟩ = some (.int .i64 c) ∧ W.cell? ⟨w0.heap.size, 2, none⟩ = some sl) ∧ (W.cell? ⟨w0.heap.size + 1, 0, none⟩ = some (.int .i64 s) ∧ W.cell? ⟨w0.heap.size + 1, 1, none⟩ = some (.int .i64 d) ∧ W.cell? ⟨w0.heap.size + 1, 2, none⟩ = some tl) ∧
  (W.cell? ⟨w0.heap.size + 1 + 1, 0, none⟩ = some (.int .i64 0) ∧ W.cell? ⟨w0.heap.size + 1 + 1, 1, none⟩ = some (.int .i64 0) ∧ W.cell? ⟨w0.heap.size + 1 + 1, 2, none⟩ = some (.slice none 0 0)) ∧ W.frozen? ⟨w0.heap.size + 1 + 1, 0, none⟩ = false ∧ W.frozen? ⟨w0.heap.size + 1 + 1, 1, none⟩ = false ∧ W.frozen? ⟨w0.heap.size + 1 + 1, 2, none⟩ = false :=
 ⟨⟨h.m.cell 0, h.m.cell 1, h.m.cell 2⟩, ⟨h.o.cell 0, h.o.cell 1, h.o.cell 2⟩, ⟨h.q.cell 0, h.q.cell 1, h.q.cell 2⟩, h.q.frozen 0, h.q.frozen 1, h.q.frozen 2⟩
theorem SmB.err {E : Int} {P : Nat} (h : SmB w0 W r c sl s d tl) (hE : E ≠ 0) : SmA E P 0 0 [] w0 (.returned (.tuple #[MatV 0 0 (.slice none 0 0), .int .i64 P, .int .i64 E])) (((W.setCell ⟨w0.heap.size + 1 + 1, 0, none⟩ (.int .i64 0)).setCell ⟨w0.heap.size + 1 + 1, 1, none⟩ (.int .i64 0)).setCell ⟨w0.heap.size + 1 + 1, 2, none⟩ (.slice none 0 0)) :=
 ⟨_, rfl, FSl.none _, (by intro a c d e; cases e), below_three h.b _ (by omega) _ _ _, fun e => absurd e hE⟩
end
structure SmR (t : Nat) (w0 w1 W : World) (xb sb g ob n k N : Nat) (sl ul tl : Value) (f : Bool) (vs : Nat → Nat) : Prop where
 B : SmB w0 W n n sl n k tl
 x : BlkT W xb 25 #[.int .i64 n, .int .i64 n, ul]
 s : BlkT W sb t #[.bool f]
 gm : FMs W g N vs
 om : BlkT W ob 25 #[.int .i64 n, .int .i64 k, .slice (some ⟨g, 0, none⟩) N N]
 b : Below w1.heap.size w1 W
 ne : w0.heap.size + 1 + 1 < w1.heap.size ∧ w1.heap.size ≤ xb ∧ xb < sb ∧ sb < g ∧ sb < ob ∧ g ≠ ob
section
variable {t : Nat} {w0 w1 W V : World} {xb sb g ob n k N : Nat} {sl ul tl : Value} {f f' : Bool} {vs vs' : Nat → Nat}
theorem SmR.later (h : SmR t w0 w1 W xb sb g ob n k N sl ul tl f vs) (hb : Below W.heap.size W V) : SmR t w0 w1 V xb sb g ob n k N sl ul tl f vs := ⟨h.B.later hb, h.x.below hb, h.s.below hb, h.gm.below hb, h.om.below hb, h.b.trans (hb.mono h.b.size), h.ne⟩
theorem SmR.below_of {b : Nat} (hu : Upd b W V) (hb : b < W.heap.size) : Below b W V := ⟨hu.os, hu.tape, hu.output, hu.size, fun k hk => hu.block k (by omega) (by omega)⟩
theorem SmR.step (h : SmR t w0 w1 W xb sb g ob n k N sl ul tl f vs) (hu : Upd sb W V) (hs : BlkT V sb t #[.bool f']) : SmR t w0 w1 V xb sb g ob n k N sl ul tl f' vs := by
 have hne := h.ne
 exact ⟨h.B.of_mod (below_of hu h.s.lt) (by omega), h.x.upd hu (by omega), hs, h.gm.upd hu (by omega), h.om.upd hu (by omega), hu.below h.b (by omega) h.b.size, hne⟩
theorem SmR.put (h : SmR t w0 w1 W xb sb g ob n k N sl ul tl f vs) (hu : Upd g W V) (hg : FMs V g N vs') : SmR t w0 w1 V xb sb g ob n k N sl ul tl f vs' := by
 have hne := h.ne
 exact ⟨h.B.of_mod (below_of hu h.gm.lt) (by omega), h.x.upd hu (by omega), h.s.upd hu (by omega), hg, h.om.upd hu (by omega), hu.below h.b (by omega) h.b.size, hne⟩
theorem SmR.rd2 (h : SmR t w0 w1 W xb sb g ob n k N sl ul tl f vs) : (W.cell? ⟨xb, 0, none⟩ = some (.int .i64 n) ∧ W.cell? ⟨xb, 1, none⟩ = some (.int .i64 n) ∧ W.cell? ⟨xb, 2, none⟩ = some ul) ∧ W.cell? ⟨w0.heap.size + 1, 0, none⟩ = some (.int .i64 n) ∧ W.cell? ⟨w0.heap.size + 1, 1, none⟩ = some (.int .i64 k) ∧ W.cell? ⟨w0.heap.size + 1, 2, none⟩ = some tl := ⟨⟨h.x.cell 0, h.x.cell 1, h.x.cell 2⟩, h.B.o.cell 0, h.B.o.cell 1, h.B.o.cell 2⟩
theorem SmR.om3 (h : SmR t w0 w1 W xb sb g ob n k N sl ul tl f vs) : W.cell? ⟨ob, 0, none⟩ = some (.int .i64 n) ∧ W.cell? ⟨ob, 1, none⟩ = some (.int .i64 k) ∧ W.cell? ⟨ob, 2, none⟩ = some (.slice (some ⟨g, 0, none⟩) N N) := ⟨h.om.cell 0, h.om.cell 1, h.om.cell 2⟩
end
theorem SmR.done {t : Nat} {w0 w1 W : World} {xb sb g ob n k : Nat} {sl ul tl : Value} {f : Bool} {vs : Nat → Nat} {X : Nat → Nat → Fo} (h : SmR t w0 w1 W xb sb g ob n k (n * k) sl ul tl f vs) (hX : RecR n k X vs) (hf : ∀ i j, finO (X i j) = true) (hn : n ≤ 12) (hk : k ≤ 12) :
  SmA 0 0 n k (matR n k X) w0 (.returned (.tuple #[MatV n k (.slice (some ⟨g, 0, none⟩) (n * k) (n * k)), .int .i64 0, .int .i64 0])) (((W.setCell ⟨w0.heap.size + 1 + 1, 0, none⟩ (.int .i64 n)).setCell ⟨w0.heap.size + 1 + 1, 1, none⟩ (.int .i64 k)).setCell ⟨w0.heap.size + 1 + 1, 2, none⟩ (.slice (some ⟨g, 0, none⟩) (n * k) (n * k))) := by
 have hne := h.ne
 have hg : FMs (((W.setCell ⟨w0.heap.size + 1 + 1, 0, none⟩ (.int .i64 n)).setCell ⟨w0.heap.size + 1 + 1, 1, none⟩ (.int .i64 k)).setCell ⟨w0.heap.size + 1 + 1, 2, none⟩ (.slice (some ⟨g, 0, none⟩) (n * k) (n * k))) g (n * k) vs :=
  ((h.gm.upd (Upd.set (b := w0.heap.size + 1 + 1) _) (by omega)).upd (Upd.set (b := w0.heap.size + 1 + 1) _) (by omega)).upd (Upd.set (b := w0.heap.size + 1 + 1) _) (by omega)
 exact ⟨_, rfl, hg.recF hX hf hn hk, (by intro a c d e; cases e; show w0.heap.size ≤ g; omega), below_three h.B.b _ (by omega) _ _ _, fun _ => ⟨g, n, k, vs, X, rfl, rfl, rfl, hg, hX, rfl, hf⟩⟩
theorem chk_zeroR {r c : Int} {l : List Nat} (h : chkB r c l = 0) : ∃ s d : Nat, r = s ∧ c = d ∧ s ≤ 12 ∧ d ≤ 12 ∧ l.length = s * d := by
 unfold chkB at h
 by_cases h1 : 0 ≤ r ∧ r ≤ 12 ∧ 0 ≤ c ∧ c ≤ 12
 ·rw [if_pos h1] at h
  by_cases h2 : (l.length : Int) = r * c
  ·obtain ⟨s, rfl⟩ : ∃ s : Nat, r = s := ⟨r.toNat, by omega⟩
   obtain ⟨d, rfl⟩ : ∃ d : Nat, c = d := ⟨c.toNat, by omega⟩
   exact ⟨s, d, rfl, rfl, by omega, by omega, by rw [← Int.natCast_mul] at h2; exact Int.ofNat.inj h2⟩
  ·rw [if_neg h2] at h; cases h
 ·rw [if_neg h1] at h; cases h
end
section
open Go.RowKit
attribute [local go_sem] run_store_f
structure SmP (t : Nat) (w0 w1 W : World) (xb sb n k : Nat) (sl ul tl : Value) : Prop where
 B : SmB w0 W n n sl n k tl
 x : BlkT W xb 25 #[.int .i64 n, .int .i64 n, ul]
 s : BlkT W sb t #[.bool false]
 b : Below w1.heap.size w1 W
 ne : w0.heap.size + 1 + 1 < w1.heap.size ∧ w1.heap.size ≤ xb ∧ xb < sb
theorem SmP.later {t : Nat} {w0 w1 W V : World} {xb sb n k : Nat} {sl ul tl : Value} (h : SmP t w0 w1 W xb sb n k sl ul tl) (hb : Below W.heap.size W V) : SmP t w0 w1 V xb sb n k sl ul tl := ⟨h.B.later hb, h.x.below hb, h.s.below hb, h.b.trans (hb.mono h.b.size), h.ne⟩
theorem SmP.fin {t : Nat} {w0 w1 W : World} {xb sb n k g ob ml : Nat} {sl ul tl : Value} (h : SmP t w0 w1 W xb sb n k sl ul tl) (hg : FMs W g ml (fun _ => 0)) (ho : BlkT W ob 25 #[.int .i64 0, .int .i64 0, .slice none 0 0]) (hne : sb < g ∧ sb < ob ∧ g ≠ ob) :
  SmR t w0 w1 (((W.setCell ⟨ob, 0, none⟩ (.int .i64 n)).setCell ⟨ob, 1, none⟩ (.int .i64 k)).setCell ⟨ob, 2, none⟩ (.slice (some ⟨g, 0, none⟩) ml ml)) xb sb g ob n k ml sl ul tl false (fun _ => 0) := by
 have h1 := h.ne
 have hu : Upd ob W (((W.setCell ⟨ob, 0, none⟩ (.int .i64 n)).setCell ⟨ob, 1, none⟩ (.int .i64 k)).setCell ⟨ob, 2, none⟩ (.slice (some ⟨g, 0, none⟩) ml ml)) := ((Upd.set _).trans (Upd.set _)).trans (Upd.set _)
 exact ⟨h.B.of_mod (SmR.below_of hu ho.lt) (by omega), h.x.upd hu (by omega), h.s.upd hu (by omega), hg.upd hu (by omega), ((ho.set (i := 0) _).set (i := 1) _).set (i := 2) _, hu.below h.b (by omega) h.b.size, by omega⟩
theorem SmP.rd {t : Nat} {w0 w1 W : World} {xb sb n k : Nat} {sl ul tl : Value} (h : SmP t w0 w1 W xb sb n k sl ul tl) : W.cell? ⟨w0.heap.size + 1, 0, none⟩ = some (.int .i64 n) ∧ W.cell? ⟨w0.heap.size + 1, 1, none⟩ = some (.int .i64 k) ∧ W.cell? ⟨w0.heap.size + 1, 2, none⟩ = some tl := ⟨h.B.o.cell 0, h.B.o.cell 1, h.B.o.cell 2⟩
set_option maxRecDepth 100000 in
set_option maxHeartbeats 6400000 in
theorem csolveMat_any (r c : Int) (sl : Value) (l : List Nat) (s d : Int) (tl : Value) (m : List Nat) (w : World) (hl : FSl w sl l) (hm : FSl w tl m) :
  Calls Tryz.prog 32 #[MatV r c sl, MatV s d tl] w (SmA (smE r c l s d m) (smP r c l s d m) (smN r c l s d m) (smK r c l s d m) (smL r c l s d m) w) := by
 have HB := Lib.hid (SmB.new w r c sl s d tl)
 have HSQ := Lib.hid fun W (hb : Below w.heap.size w W) => even_any r c sl l W (hl.below hb)
 have HGD := Lib.hid fun W (hb : Below w.heap.size w W) => check_any s d tl m W (hm.below hb)
 have HCH := Lib.hid fun W (hb : Below w.heap.size w W) => chol_any r c sl l W (hl.below hb)
 have HLW := Lib.hid fun W (hb : Below w.heap.size w W) => hm.below hb
 by_cases h0 : evnB r c l = 0
 ·by_cases h2 : chkB s d m = 0
  ·obtain ⟨n, k, rfl, rfl, hs, hd, hml⟩ := chk_zeroR h2
   by_cases h3 : (n : Int) = r
   ·by_cases h4 : cholE r c l = 0
    ·subst h3
     obtain rfl : c = n := by have := (evn_zero h0).hc; have := (evn_zero h0).hr; omega
     have HCS := Lib.hid fun f hf => sm_ok (k := k) (m := m) h0 h2 h4 f hf
     have HFN := Lib.hid (smS_fin n (cholL n n l) (colL n k m) k)
     have hRl := cholL_len h4
     rw [h0] at HSQ
     have HCK2 := Lib.hid h2
     rw [h2] at HGD
     rw [h4, cholN_ok h4, chol_place h4] at HCH
     generalize smE n n l n k m = E at *
     generalize smP n n l n k m = P at *
     generalize smN n n l n k m = Nn at *
     generalize smK n n l n k m = Kk at *
     generalize smL n n l n k m = Q at *
     generalize cholL n n l = R at *
     have HRL := Lib.hid hRl
     have HML := Lib.hid hml
     clear h0 h2 h4 hl hm hRl hml
     obtain ⟨⟨m0, m1, m2⟩, ⟨o0, o1, o2⟩, ⟨q0, q1, q2⟩, f0, f1, f2⟩ := HB.out.rd
     go_enter Tryz.func32, Tryz.ntmps32
     go_wp2_with fail
     refine (HSQ.out _ HB.out.b).mono ?_
     rintro e1 w1 ⟨rfl, hb1⟩
     replace HB := Lib.hid (HB.out.later hb1)
     clear hb1 HSQ
     clear m0 m1 m2 o0 o1 o2 q0 q1 q2 f0 f1 f2
     obtain ⟨⟨m0, m1, m2⟩, ⟨o0, o1, o2⟩, ⟨q0, q1, q2⟩, f0, f1, f2⟩ := HB.out.rd
     go_wp2_with fail
     refine (HGD.out _ HB.out.b).mono ?_
     rintro e2 w2 ⟨rfl, hb1⟩
     replace HB := Lib.hid (HB.out.later hb1)
     clear hb1 HGD
     clear m0 m1 m2 o0 o1 o2 q0 q1 q2 f0 f1 f2
     obtain ⟨⟨m0, m1, m2⟩, ⟨o0, o1, o2⟩, ⟨q0, q1, q2⟩, f0, f1, f2⟩ := HB.out.rd
     go_wp2_with fail
     refine (HCH.out _ HB.out.b).mono ?_
     rintro e3 w3 ⟨u, rfl, hu, -, hb1⟩
     obtain ⟨ul, hul⟩ : ∃ ul, ul = u := ⟨_, rfl⟩
     obtain ⟨uo, uc, hue, -⟩ := id hu
     generalize List.length _ = un at hue
     subst hul
     subst hue
     replace HB := Lib.hid (HB.out.later hb1)
     clear hb1 HCH
     clear m0 m1 m2 o0 o1 o2 q0 q1 q2 f0 f1 f2
     obtain ⟨⟨m0, m1, m2⟩, ⟨o0, o1, o2⟩, ⟨q0, q1, q2⟩, f0, f1, f2⟩ := HB.out.rd
     go_upto_region 13 with fail
     clear m0 m1 m2 o0 o1 o2 q0 q1 q2 f0 f1 f2
     have HSB : Hid (BlkT ((w3.alloc (.cells #[.int .i64 n, .int .i64 n, .slice uo un uc] 25)).alloc (.cells #[.bool false] 94)) (w3.heap.size + 1) 94 #[.bool false]) := Lib.hid (BlkT.new1 w3 _ _ _)
     have HXB : Hid (BlkT ((w3.alloc (.cells #[.int .i64 n, .int .i64 n, .slice uo un uc] 25)).alloc (.cells #[.bool false] 94)) w3.heap.size 25 #[.int .i64 n, .int .i64 n, .slice uo un uc]) := Lib.hid ((BlkT.new w3 _ _).alloc _)
     have HB2 := Lib.hid (below2 w3 (.cells #[.int .i64 n, .int .i64 n, .slice uo un uc] 25) (.cells #[.bool false] 94))
     have HSS : Hid (w.heap.size + 1 + 1 < w3.heap.size) := Lib.hid HB.out.q.lt
     have HTL := Lib.hid (HLW.out _ HB.out.b)
     have HU := Lib.hid hu
     clear hu HLW
     replace HB := Lib.hid (HB.out.later HB2.out)
     generalize World.alloc (World.alloc w3 _) _ = W3 at *
     obtain ⟨to1, tc, htl, -⟩ := id HTL.out
     subst htl
     have hml := HML.out
     obtain ⟨N, hN⟩ : ∃ N, n * k = N := ⟨_, rfl⟩
     have hN2 : N ≤ 144 := by rw [← hN]; exact Nat.mul_le_mul hs hd
     have HN := Lib.hid hN
     rw [hN] at hml
     obtain ⟨ml, hmln⟩ : ∃ x, m.length = x := ⟨_, rfl⟩
     rw [hmln] at hml
     subst hml
     rw [hmln] at HB HTL ⊢
     clear hN hmln
     have hmk := run_make_row' (P := Tryz.prog) 23 35 (.float .f64 0) 8 Tryz.underlying23 Tryz.finfo64 rfl .i64 .i64 ml (by omega) (by omega)
     have HP0 : Hid (SmP 94 w w3 W3 w3.heap.size (w3.heap.size + 1) n k sl (.slice uo un uc) (.slice to1 ml tc)) := Lib.hid ⟨HB.out, HXB.out, HSB.out, HB2.out, by have := HSS.out; omega⟩
     obtain ⟨xb, hxb⟩ : ∃ b, w3.heap.size = b := ⟨_, rfl⟩
     obtain ⟨sb, hsb⟩ : ∃ b, xb + 1 = b := ⟨_, rfl⟩
     rw [hxb, hsb] at HP0
     rw [hxb, hsb]
     clear hxb hsb HB HXB HSB HB2 HSS
     go_cut [13] from 13 to 14 (fun ov wx => ∃ g ob : Nat, ov = .pointer (some ⟨ob, 0, none⟩) ∧ Hid (SmR 94 w w3 wx xb sb g ob n k ml sl (.slice uo un uc) (.slice to1 ml tc) false (fun _ => 0)))
     case first =>
      refine wp_region_pl (fun w' : World => w'.cell? ⟨w.heap.size + 1, 0, none⟩ = some (.int .i64 n) ∧ w'.cell? ⟨w.heap.size + 1, 1, none⟩ = some (.int .i64 k) ∧ w'.cell? ⟨w.heap.size + 1, 2, none⟩ = some (.slice to1 ml tc)) 10 (.take 0 (.take 1 (.take 2 (.take 3 (.take 4 (.take 5 (.take 6 (.fork 7 (.take 8 (.run 9 .nil)) 9 (.run 7 (.take 8 .nil)))))))))) (by kernel_rfl) (by kernel_rfl) ?_
      have HP := Lib.hid (HP0.out.later (drew_below _))
      clear HP0
      generalize World.drew _ = W5 at *
      repeat (refine tkL (v := ?_) rfl rfl rfl (fun w' hSw => ?_) (HP.out.rd) ?_; rotate_left; (focus (go_simp; with_reducible rfl)); simp only [setL])
      refine wpPl_fork ?_ ?_
      ·refine wpPl_goL rfl rfl fun K' hK => ?_
       go_simp
       obtain ⟨g, hg⟩ : ∃ b, W5.heap.size = b := ⟨_, rfl⟩
       have HG : Hid (FMs (W5.alloc (.cells (madeCells #[.float .f64 0] ml) 35)) g ml (fun _ => 0)) := Lib.hid (hg ▸ FMs.made W5 ml)
       have HGE : Hid (sb < g) := Lib.hid (by have := HP.out.s.lt; omega)
       replace HP := Lib.hid (HP.out.later (Below.alloc_self W5 (.cells (madeCells #[.float .f64 0] ml) 35)))
       rw [hg]
       generalize World.alloc W5 _ = W6 at *
       clear hg
       refine hK _ _ (HP.out.rd) ?_
       clear hK K'
       try simp only [Act.put, setL]
       repeat (refine tkL (v := ?_) rfl rfl rfl (fun w' hSw => ?_) (HP.out.rd) ?_; rotate_left; (focus (go_simp; with_reducible rfl)); simp only [setL])
       refine wpPl_goL rfl rfl fun K' hK => ?_
       go_simp
       obtain ⟨ob, hob⟩ : ∃ b, W6.heap.size = b := ⟨_, rfl⟩
       have HO : Hid (BlkT (W6.alloc (.cells #[.int .i64 0, .int .i64 0, .slice none 0 0] 25)) ob 25 #[.int .i64 0, .int .i64 0, .slice none 0 0]) := Lib.hid (hob ▸ BlkT.new W6 _ _)
       have HOE : Hid (sb < ob) := Lib.hid (by have := HP.out.s.lt; omega)
       have HOG : Hid (g ≠ ob) := Lib.hid (by have := HG.out.lt; omega)
       replace HG := Lib.hid (HG.out.below (Below.alloc_self W6 (.cells #[.int .i64 0, .int .i64 0, .slice none 0 0] 25)))
       replace HP := Lib.hid (HP.out.later (Below.alloc_self W6 (.cells #[.int .i64 0, .int .i64 0, .slice none 0 0] 25)))
       rw [hob]
       generalize World.alloc W6 _ = W7 at *
       clear hob
       refine hK _ _ (HP.out.rd) ?_
       clear hK K'
       try simp only [Act.put, setL]
       refine wpPl_nil ?_
       simp only [drL]
       have z0 := HO.out.frozen 0
       have z1 := HO.out.frozen 1
       have z2 := HO.out.frozen 2
       obtain ⟨y0, y1, y2, -⟩ := HO.out.cells3
       have HQ := Lib.hid (HP.out.fin HG.out HO.out ⟨HGE.out, HOE.out, HOG.out⟩)
       clear HP HG HGE HOE HOG
       go_wp2
       go_meet
       exact ⟨g, ob, rfl, HQ⟩
      ·refine wpPl_goL rfl rfl fun K' hK => ?_
       go_simp
       obtain ⟨ob, hob⟩ : ∃ b, W5.heap.size = b := ⟨_, rfl⟩
       have HO : Hid (BlkT (W5.alloc (.cells #[.int .i64 0, .int .i64 0, .slice none 0 0] 25)) ob 25 #[.int .i64 0, .int .i64 0, .slice none 0 0]) := Lib.hid (hob ▸ BlkT.new W5 _ _)
       have HOE : Hid (sb < ob) := Lib.hid (by have := HP.out.s.lt; omega)
       replace HP := Lib.hid (HP.out.later (Below.alloc_self W5 (.cells #[.int .i64 0, .int .i64 0, .slice none 0 0] 25)))
       rw [hob]
       generalize World.alloc W5 _ = W6 at *
       clear hob
       refine hK _ _ (HP.out.rd) ?_
       clear hK K'
       try simp only [Act.put, setL]
       refine wpPl_goL rfl rfl fun K' hK => ?_
       go_simp
       obtain ⟨g, hg⟩ : ∃ b, W6.heap.size = b := ⟨_, rfl⟩
       have HG : Hid (FMs (W6.alloc (.cells (madeCells #[.float .f64 0] ml) 35)) g ml (fun _ => 0)) := Lib.hid (hg ▸ FMs.made W6 ml)
       have HGE : Hid (sb < g) := Lib.hid (by have := HP.out.s.lt; omega)
       have HOG : Hid (g ≠ ob) := Lib.hid (by have := HO.out.lt; omega)
       replace HO := Lib.hid (HO.out.alloc (.cells (madeCells #[.float .f64 0] ml) 35))
       replace HP := Lib.hid (HP.out.later (Below.alloc_self W6 (.cells (madeCells #[.float .f64 0] ml) 35)))
       rw [hg]
       generalize World.alloc W6 _ = W7 at *
       clear hg
       refine hK _ _ (HP.out.rd) ?_
       clear hK K'
       try simp only [Act.put, setL]
       repeat (refine tkL (v := ?_) rfl rfl rfl (fun w' hSw => ?_) (HP.out.rd) ?_; rotate_left; (focus (go_simp; with_reducible rfl)); simp only [setL])
       refine wpPl_nil ?_
       simp only [drL]
       have z0 := HO.out.frozen 0
       have z1 := HO.out.frozen 1
       have z2 := HO.out.frozen 2
       obtain ⟨y0, y1, y2, -⟩ := HO.out.cells3
       have HQ := Lib.hid (HP.out.fin HG.out HO.out ⟨HGE.out, HOE.out, HOG.out⟩)
       clear HP HG HGE HOE HOG
       go_wp2
       go_meet
       exact ⟨g, ob, rfl, HQ⟩
     case rest =>
      obtain ⟨g, ob, rfl, HD0⟩ := hcut
      clear HP0 hmk
      have HR0 : Hid (RecR n k (smS n R (colL n k m) 0).1 (fun _ => 0)) := Lib.hid (RecR.zero n k)
      replace HD0 : Hid (SmR 94 w w3 wc xb sb g ob n k ml sl (.slice uo un uc) (.slice to1 ml tc) (smS n R (colL n k m) 0).2 (fun _ => 0)) := HD0
      obtain ⟨-, o0, o1, o2⟩ := HD0.out.rd2
      go_wp2
      clear o0 o1 o2
      go_loopw [61] (fun jv wr => ∃ (j : Nat) (vs : Nat → Nat), j ≤ k ∧ jv = .int .i64 j ∧ Hid (RecR n k (smS n R (colL n k m) j).1 vs) ∧ Hid (SmR 94 w w3 wr xb sb g ob n k ml sl (.slice uo un uc) (.slice to1 ml tc) (smS n R (colL n k m) j).2 vs)) (fun jv _ => k - (intOf jv).toNat)
      case atStart => exact ⟨0, _, Nat.zero_le _, rfl, HR0, HD0⟩
      case round =>
       clear HR0 HD0
       obtain ⟨j, vs, hj, rfl, HR, HD⟩ := hrel
       obtain ⟨⟨x0, x1, x2⟩, o0, o1, o2⟩ := HD.out.rd2
       by_cases hlt : j < k
       ·have HSQ2 := Lib.hid (smS_succ n R (colL n k m) j)
        have HCO := Lib.hid fun W (hb : Below w3.heap.size w3 W) => mCol_any n k j (.slice to1 ml tc) m W (HTL.out.below hb) HCK2.out HML.out hs hlt
        have hcl : (colL n k m j).length = n := by simp [colL]
        generalize smS n R (colL n k m) j = st at *
        obtain ⟨X, f⟩ := st
        dsimp only at HR HD HSQ2
        generalize colL n k m j = cj at *
        have HCL := Lib.hid hcl
        clear hcl
        go_wp2_with fail
        refine (HCO.out _ HD.out.b).mono ?_
        rintro e5 w5 ⟨cv, rfl, hcv, hcn, hb1⟩
        have HLT := Lib.hid HD.out.s.lt
        replace HD := Lib.hid (HD.out.later hb1)
        have HC : Hid (FSn w5 cv cj sb) := Lib.hid ⟨hcv, fun _ a c d e => by have := hcn a c d e; have := HLT.out; omega⟩
        have HBR := Lib.hid fun i hi => bO_rep hcv i hi
        have HUN := Lib.hid fun W (hb : Below w3.heap.size w3 W) => (FSn.of (b := sb) HU.out (by have := HD.out.ne; omega)).below hb
        clear hcv hcn hb1 HLT HCO x0 x1 x2 o0 o1 o2
        go_upto_region 18 with fail
        refine wp_region_plF (fun w' : World => w'.cell? ⟨xb, 0, none⟩ = some (.int .i64 n) ∧ w'.cell? ⟨xb, 1, none⟩ = some (.int .i64 n) ∧ w'.cell? ⟨xb, 2, none⟩ = some (.slice uo un uc)) 9 (.take 0 (.take 1 (.take 2 (.take 3 (.take 4 (.take 8 (.run 5 (.run 6 (.take 7 .nil))))))))) (by kernel_rfl) (by kernel_rfl) ?_
        replace HD := Lib.hid (HD.out.later (drew_below _))
        replace HC := Lib.hid (HC.out.below (drew_below _))
        generalize World.drew _ = W5 at HD HC ⊢
        repeat (refine tkL (v := ?_) rfl rfl rfl (fun w' hSw => ?_) HD.out.rd2.1 ?_; rotate_left; (focus (go_simp; with_reducible rfl)); simp only [setL])
        refine wpPl_goL rfl rfl fun K' hK => ?_
        go_simp
        refine (down_any sb f n _ R _ cj (bO cj) _ hs (HUN.out _ HD.out.b) HRL.out HC.out HCL.out HBR.out HD.out.s).mono ?_
        rintro e1 W5v1 ⟨v, x, rfl, hv, hxl, hr, hnw, hs1, hu⟩
        have HLT := Lib.hid HD.out.s.lt
        replace HD := Lib.hid (HD.out.step hu hs1)
        have HV : Hid (FSn W5v1 v x sb) := Lib.hid ⟨hv, fun _ a c d e => by have := hnw a c d e; have := HLT.out; omega⟩
        have HXL := Lib.hid hxl
        have HXR := Lib.hid hr
        clear hv hxl hr hnw hs1 hu HLT HC HBR
        refine hK _ _ HD.out.rd2.1 ?_
        clear hK K'
        try simp only [Act.put, setL]
        repeat (refine tkL (v := ?_) rfl rfl rfl (fun w' hSw => ?_) HD.out.rd2.1 ?_; rotate_left; (focus (go_simp; with_reducible rfl)); simp only [setL])
        refine wpPl_goL rfl rfl fun K' hK => ?_
        go_simp
        refine (up_any sb _ n _ R _ x _ _ hs (HUN.out _ HD.out.b) HRL.out HV.out HXL.out HXR.out HD.out.s).mono ?_
        rintro e1 W5v2 ⟨v2, x2, rfl, hv, hxl, hr, hnw, hs1, hu⟩
        have HGT := Lib.hid HD.out.gm.lt
        replace HD := Lib.hid (HD.out.step hu hs1)
        have HV2 : Hid (FSn W5v2 v2 x2 g) := Lib.hid ⟨hv, fun _ a c d e => by have := hnw a c d e; have := HGT.out; omega⟩
        have HXL2 := Lib.hid hxl
        have HXR2 : Hid (∀ i (h : i < x2.length), Rep ((smC n R cj f).1 i) x2[i]) := Lib.hid hr
        replace HD : Hid (SmR 94 w w3 W5v2 xb sb g ob n k ml sl (.slice uo un uc) (.slice to1 ml tc) (smC n R cj f).2 vs) := HD
        obtain ⟨ao, ca, rfl, -⟩ := id hv
        rw [hxl] at HV2 ⊢
        clear hv hxl hr hnw hs1 hu HV HXL HXR HGT HUN
        refine hK _ _ HD.out.rd2.1 ?_
        clear hK K'
        try simp only [Act.put, setL]
        repeat (refine tkL (v := ?_) rfl rfl rfl (fun w' hSw => ?_) HD.out.rd2.1 ?_; rotate_left; (focus (go_simp; with_reducible rfl)); simp only [setL])
        refine wpPl_nil ?_
        simp only [drL]
        generalize smC n R cj f = y at *
        obtain ⟨y0, f2⟩ := y
        dsimp only at HXR2 HD HSQ2
        have HR1 : Hid (RecR n k (putC X y0 j 0) vs) := Lib.hid (by rw [putC_zero]; exact HR.out)
        clear HR
        go_wp2
        go_loopw [78] (fun iv wr => ∃ (i : Nat) (vs : Nat → Nat), i ≤ n ∧ iv = .int .i64 i ∧ Hid (RecR n k (putC X y0 j i) vs) ∧ Hid (FSn wr (.slice ao n ca) x2 g) ∧ Hid (SmR 94 w w3 wr xb sb g ob n k ml sl (.slice uo un uc) (.slice to1 ml tc) f2 vs)) (fun iv _ => n - (intOf iv).toNat)
        case atStart => exact ⟨0, vs, Nat.zero_le _, rfl, HR1, HV2, HD⟩
        case round =>
         clear HR1 HV2 HD
         obtain ⟨i, vs, hi, rfl, HR, HV, HD⟩ := hrel
         by_cases hin : i < n
         ·obtain ⟨bb, off, z, rfl, ⟨hh, hz⟩, hcc⟩ := HV.out.cellU HXL2.out hin
          have c0 := hcc _ (Upd.refl _ _)
          have HZ : Hid (Rep (y0 i) z) := Lib.hid (by rw [hz]; exact HXR2.out i hh)
          have HVV := Lib.hid HV.out
          clear hcc hz hh
          obtain ⟨p0, p1, p2⟩ := HD.out.om3
          obtain ⟨-, o0, o1, o2⟩ := HD.out.rd2
          have HPN : Hid (i * k + j < ml) := Lib.hid (by rw [← HN.out]; exact at_ltR hin hlt)
          have hik : i * k ≤ 12 * 12 := Nat.mul_le_mul (by omega) hd
          have e1 : IntKind.i64.wrap ((i : Int) * (k : Int)) = ((i * k : Nat) : Int) := by rw [← Int.natCast_mul]; exact IntWalk.i64_in _ (by omega)
          have e2 : IntKind.i64.wrap (((i * k : Nat) : Int) + (j : Int)) = ((i * k + j : Nat) : Int) := by rw [← Int.natCast_add]; exact IntWalk.i64_in _ (by omega)
          have hp1 : i * k + j < ml := HPN.out
          have g0 := HD.out.gm.cell hp1
          have g1 := HD.out.gm.frozen (i * k + j)
          have HG2 := Lib.hid (HD.out.gm.set (v := z) hp1)
          have HRS := Lib.hid (HR.out.set (i := i) hlt HZ.out)
          rw [← putC_succ] at HRS
          generalize hpp : i * k + j = p at *
          generalize ((i * k : Nat) : Int) = pi at *
          clear hik HR
          go_wp2
          have hu8 : Upd g wr (wr.setCell ⟨g, p, none⟩ (.float .f64 z)) := Upd.set _
          replace HD := Lib.hid (HD.out.put hu8 HG2.out)
          have HV3 := Lib.hid (HVV.out.upd hu8)
          go_roundw
          case rel => exact ⟨i + 1, _, by omega, by go_num, HRS, HV3, HD⟩
          case measure => simp [intOf] <;> omega
         ·obtain rfl : i = n := by omega
          clear HV HXR2 HXL2
          go_wp2
          go_roundw
          case rel => exact ⟨j + 1, vs, by omega, by go_num, Lib.hid (by rw [HSQ2.out]; exact HR.out), Lib.hid (by rw [HSQ2.out]; exact HD.out)⟩
          case measure => simp [intOf] <;> omega
       ·obtain rfl : j = k := by omega
        clear x0 x1 x2
        have s0 := HD.out.s.cell 0
        generalize smS n R (colL n j m) j = st at *
        obtain ⟨X, f⟩ := st
        dsimp only at HR HD HFN HCS s0
        obtain ⟨p0, p1, p2⟩ := HD.out.om3
        obtain ⟨-, -, ⟨q0, q1, q2⟩, f0, f1, f2⟩ := HD.out.B.rd
        cases f
        ·obtain ⟨rfl, -, hE⟩ := HCS.out false rfl
         obtain ⟨rfl, rfl, rfl, rfl⟩ := hE rfl
         have hN := HN.out
         subst hN
         have HDN := Lib.hid (HD.out.done HR.out (HFN.out rfl) hs hd)
         clear HCS HFN HD HR
         go_wp2
         exact bodyPost_ret (v := .tuple #[MatV n j (.slice (some ⟨g, 0, none⟩) (n * j) (n * j)), .int .i64 0, .int .i64 0]) (by simp [results, Tryz.results32, go_sem, q0, q1, q2]) rfl HDN.out
        ·obtain ⟨rfl, hE, -⟩ := HCS.out true rfl
         obtain ⟨rfl, rfl, rfl, rfl⟩ := hE rfl
         have HBB := Lib.hid HD.out.B
         clear HCS HFN HD HR p0 p1 p2
         go_wp2
         exact bodyPost_ret (v := .tuple #[MatV 0 0 (.slice none 0 0), .int .i64 ((0 : Nat) : Int), .int .i64 5]) (by simp [results, Tryz.results32, go_sem, q0, q1, q2]) rfl (HBB.out.err (by decide))
    ·subst h3
     obtain ⟨hE1, hE2⟩ := sm_e4 (m := m) (d := k) h0 h2 rfl h4
     obtain ⟨hE3, hE4, hE5⟩ := sm_err hE1 h4
     rw [hE1, hE2, hE3, hE4, hE5]
     rw [h0] at HSQ
     rw [h2] at HGD
     have hp := beq_eq_false_iff_ne.2 h4
     generalize cholE (n : Int) c l = e at *
     generalize cholP (n : Int) c l = pl at *
     generalize cholN (n : Int) c l = Nn at *
     generalize cholL (n : Int) c l = R at *
     clear hE1 hE2 hE3 hE4 hE5 h0 h2 h4 hl hm HLW hml
     obtain ⟨⟨m0, m1, m2⟩, ⟨o0, o1, o2⟩, ⟨q0, q1, q2⟩, f0, f1, f2⟩ := HB.out.rd
     go_enter Tryz.func32, Tryz.ntmps32
     go_wp2_with fail
     refine (HSQ.out _ HB.out.b).mono ?_
     rintro e1 w1 ⟨rfl, hb1⟩
     replace HB := Lib.hid (HB.out.later hb1)
     clear hb1 HSQ
     clear m0 m1 m2 o0 o1 o2 q0 q1 q2 f0 f1 f2
     obtain ⟨⟨m0, m1, m2⟩, ⟨o0, o1, o2⟩, ⟨q0, q1, q2⟩, f0, f1, f2⟩ := HB.out.rd
     go_wp2_with fail
     refine (HGD.out _ HB.out.b).mono ?_
     rintro e2 w2 ⟨rfl, hb1⟩
     replace HB := Lib.hid (HB.out.later hb1)
     clear hb1 HGD
     clear m0 m1 m2 o0 o1 o2 q0 q1 q2 f0 f1 f2
     obtain ⟨⟨m0, m1, m2⟩, ⟨o0, o1, o2⟩, ⟨q0, q1, q2⟩, f0, f1, f2⟩ := HB.out.rd
     go_wp2_with fail
     refine (HCH.out _ HB.out.b).mono ?_
     rintro e3 w3 ⟨u, rfl, hu, -, hb1⟩
     obtain ⟨ul, hul⟩ : ∃ ul, ul = u := ⟨_, rfl⟩
     obtain ⟨uo, uc, hue, -⟩ := id hu
     generalize List.length _ = un at hue
     subst hul
     subst hue
     replace HB := Lib.hid (HB.out.later hb1)
     clear hb1 HCH
     clear m0 m1 m2 o0 o1 o2 q0 q1 q2 f0 f1 f2
     obtain ⟨⟨m0, m1, m2⟩, ⟨o0, o1, o2⟩, ⟨q0, q1, q2⟩, f0, f1, f2⟩ := HB.out.rd
     go_upto_region 10 with fail
     clear m0 m1 m2 o0 o1 o2 q0 q1 q2 f0 f1 f2
     replace HB := Lib.hid (HB.out.later (Below.alloc_self w3 (.cells #[.int .i64 Nn, .int .i64 Nn, .slice uo un uc] 25)))
     clear hu
     generalize World.alloc w3 _ = W3 at *
     obtain ⟨⟨m0, m1, m2⟩, ⟨o0, o1, o2⟩, ⟨q0, q1, q2⟩, f0, f1, f2⟩ := HB.out.rd
     go_wp2
     refine bodyPost_ret (v := .tuple #[MatV 0 0 (.slice none 0 0), .int .i64 pl, .int .i64 e]) (by simp [results, Tryz.results32, go_sem, q0, q1, q2]) rfl (HB.out.err (beq_eq_false_iff_ne.1 hp))
   ·obtain ⟨hE1, hE2⟩ := sm_e3 (m := m) (d := k) h0 h2 h3
    obtain ⟨hE3, hE4, hE5⟩ := sm_err hE1 (by decide)
    rw [hE1, hE2, hE3, hE4, hE5]
    rw [h0] at HSQ
    rw [h2] at HGD
    have hp := beq_eq_false_iff_ne.2 h3
    clear hE1 hE2 hE3 hE4 hE5 h0 h2 h3 hl hm HLW hml HCH
    obtain ⟨⟨m0, m1, m2⟩, ⟨o0, o1, o2⟩, ⟨q0, q1, q2⟩, f0, f1, f2⟩ := HB.out.rd
    go_enter Tryz.func32, Tryz.ntmps32
    go_wp2_with fail
    refine (HSQ.out _ HB.out.b).mono ?_
    rintro e1 w1 ⟨rfl, hb1⟩
    replace HB := Lib.hid (HB.out.later hb1)
    clear hb1 HSQ
    clear m0 m1 m2 o0 o1 o2 q0 q1 q2 f0 f1 f2
    obtain ⟨⟨m0, m1, m2⟩, ⟨o0, o1, o2⟩, ⟨q0, q1, q2⟩, f0, f1, f2⟩ := HB.out.rd
    go_wp2_with fail
    refine (HGD.out _ HB.out.b).mono ?_
    rintro e2 w2 ⟨rfl, hb1⟩
    replace HB := Lib.hid (HB.out.later hb1)
    clear hb1 HGD
    clear m0 m1 m2 o0 o1 o2 q0 q1 q2 f0 f1 f2
    obtain ⟨⟨m0, m1, m2⟩, ⟨o0, o1, o2⟩, ⟨q0, q1, q2⟩, f0, f1, f2⟩ := HB.out.rd
    go_wp2
    refine bodyPost_ret (v := .tuple #[MatV 0 0 (.slice none 0 0), .int .i64 ((0 : Nat) : Int), .int .i64 3]) (by simp [results, Tryz.results32, go_sem, q0, q1, q2]) rfl (HB.out.err (by decide))
  ·obtain ⟨hE1, hE2⟩ := sm_e2 (m := m) h0 h2
   obtain ⟨hE3, hE4, hE5⟩ := sm_err hE1 h2
   rw [hE1, hE2, hE3, hE4, hE5]
   rw [h0] at HSQ
   have hp := beq_eq_false_iff_ne.2 h2
   generalize chkB s d m = e at *
   clear hE1 hE2 hE3 hE4 hE5 h0 h2 hl hm HLW HCH
   obtain ⟨⟨m0, m1, m2⟩, ⟨o0, o1, o2⟩, ⟨q0, q1, q2⟩, f0, f1, f2⟩ := HB.out.rd
   go_enter Tryz.func32, Tryz.ntmps32
   go_wp2_with fail
   refine (HSQ.out _ HB.out.b).mono ?_
   rintro e1 w1 ⟨rfl, hb1⟩
   replace HB := Lib.hid (HB.out.later hb1)
   clear hb1 HSQ
   clear m0 m1 m2 o0 o1 o2 q0 q1 q2 f0 f1 f2
   obtain ⟨⟨m0, m1, m2⟩, ⟨o0, o1, o2⟩, ⟨q0, q1, q2⟩, f0, f1, f2⟩ := HB.out.rd
   go_wp2_with fail
   refine (HGD.out _ HB.out.b).mono ?_
   rintro e2 w2 ⟨rfl, hb1⟩
   replace HB := Lib.hid (HB.out.later hb1)
   clear hb1 HGD
   clear m0 m1 m2 o0 o1 o2 q0 q1 q2 f0 f1 f2
   obtain ⟨⟨m0, m1, m2⟩, ⟨o0, o1, o2⟩, ⟨q0, q1, q2⟩, f0, f1, f2⟩ := HB.out.rd
   go_wp2
   refine bodyPost_ret (v := .tuple #[MatV 0 0 (.slice none 0 0), .int .i64 ((0 : Nat) : Int), .int .i64 e]) (by simp [results, Tryz.results32, go_sem, q0, q1, q2]) rfl (HB.out.err (beq_eq_false_iff_ne.1 hp))
 ·obtain ⟨hE1, hE2⟩ := sm_e1 (s := s) (d := d) (m := m) h0
  obtain ⟨hE3, hE4, hE5⟩ := sm_err hE1 h0
  rw [hE1, hE2, hE3, hE4, hE5]
  have hp := beq_eq_false_iff_ne.2 h0
  generalize evnB r c l = e at *
  clear hE1 hE2 hE3 hE4 hE5 h0 hl hm HLW HCH HGD
  obtain ⟨⟨m0, m1, m2⟩, ⟨o0, o1, o2⟩, ⟨q0, q1, q2⟩, f0, f1, f2⟩ := HB.out.rd
  go_enter Tryz.func32, Tryz.ntmps32
  go_wp2_with fail
  refine (HSQ.out _ HB.out.b).mono ?_
  rintro e1 w1 ⟨rfl, hb1⟩
  replace HB := Lib.hid (HB.out.later hb1)
  clear hb1 HSQ
  clear m0 m1 m2 o0 o1 o2 q0 q1 q2 f0 f1 f2
  obtain ⟨⟨m0, m1, m2⟩, ⟨o0, o1, o2⟩, ⟨q0, q1, q2⟩, f0, f1, f2⟩ := HB.out.rd
  go_wp2
  refine bodyPost_ret (v := .tuple #[MatV 0 0 (.slice none 0 0), .int .i64 ((0 : Nat) : Int), .int .i64 e]) (by simp [results, Tryz.results32, go_sem, q0, q1, q2]) rfl (HB.out.err (beq_eq_false_iff_ne.1 hp))
end
end Go.Proofs.YtfmecpembnmnkaaGreatDoor
