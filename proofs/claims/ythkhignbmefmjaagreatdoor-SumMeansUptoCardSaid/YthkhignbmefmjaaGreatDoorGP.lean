/- Walks: the references' exact numbers (binnacleref03). Printed by wip/gen/rx1.py. -/
import Derived.Test.YthkhignbmefmjaaGreatDoorGO
import Derived.Test.YthkhignbmefmjaaGreatDoorGC
namespace Go.Proofs.YthkhignbmefmjaaGreatDoor
section
open Go.RowKit
theorem objT_rexact : ObjT 48 := by intro k; cases k <;> decide
def RxNew (z e : Int) (w : World) (en : Ending) (w' : World) : Prop :=
 ∃ b, en = .returned (ExV b e) ∧ w.heap.size ≤ b ∧ RInt w' b z ∧ Below w.heap.size w w'
def RxAny (z e : Int) (w : World) (en : Ending) (w' : World) : Prop :=
 ∃ b, en = .returned (ExV b e) ∧ RInt w' b z ∧ Below w.heap.size w w'
def XB1 (t : Nat) (w0 W : World) (b : Nat) (e : Int) : Prop :=
 BlkT W w0.heap.size t #[.pointer (some ⟨b, 0, none⟩), .int .i64 e] ∧ BlkT W (w0.heap.size + 1) t #[.pointer none, .int .i64 0] ∧ Below w0.heap.size w0 W
theorem XB1.lt {t : Nat} {w0 W : World} {b : Nat} {e : Int} (h : XB1 t w0 W b e) : w0.heap.size + 1 < W.heap.size := h.2.1.lt
theorem XB1.later {t : Nat} {w0 W V : World} {b : Nat} {e : Int} (h : XB1 t w0 W b e) (hb : Below W.heap.size W V) : XB1 t w0 V b e :=
 ⟨h.1.below hb, h.2.1.below hb, h.2.2.trans (hb.mono h.2.2.size)⟩
theorem XB1.mod {t ib : Nat} {w0 W V : World} {b : Nat} {e : Int} (h : XB1 t w0 W b e) (hm : Mod ib 0 W V) (hs : w0.heap.size + 1 < ib) : XB1 t w0 V b e :=
 ⟨h.1.mod hm (by omega), h.2.1.mod hm (by omega), hm.below h.2.2 (by omega) h.2.2.size⟩
theorem XB1.cells {t : Nat} {w0 W : World} {b : Nat} {e : Int} (h : XB1 t w0 W b e) : W.cell? ⟨w0.heap.size, 0, none⟩ = some (.pointer (some ⟨b, 0, none⟩)) ∧ W.cell? ⟨w0.heap.size, 1, none⟩ = some (.int .i64 e) := ⟨h.1.cell 0, h.1.cell 1⟩
theorem XB1.start0 (t : Nat) (w : World) (b : Nat) (e : Int) : XB1 t w ((w.alloc (.cells #[.pointer (some ⟨b, 0, none⟩), .int .i64 e] t)).alloc (.cells #[.pointer none, .int .i64 0] t)) b e :=
 ⟨(BlkT.new w _ _).alloc _, BlkT.new1 w _ _ _, below2 _ _ _⟩
def XB2 (t : Nat) (w0 W : World) (b : Nat) (e : Int) (c : Nat) (f : Int) : Prop :=
 BlkT W w0.heap.size t #[.pointer (some ⟨b, 0, none⟩), .int .i64 e] ∧ BlkT W (w0.heap.size + 1) t #[.pointer (some ⟨c, 0, none⟩), .int .i64 f] ∧ BlkT W (w0.heap.size + 1 + 1) t #[.pointer none, .int .i64 0] ∧ Below w0.heap.size w0 W
theorem XB2.lt {t : Nat} {w0 W : World} {b c : Nat} {e f : Int} (h : XB2 t w0 W b e c f) : w0.heap.size + 1 + 1 < W.heap.size := h.2.2.1.lt
theorem XB2.later {t : Nat} {w0 W V : World} {b c : Nat} {e f : Int} (h : XB2 t w0 W b e c f) (hb : Below W.heap.size W V) : XB2 t w0 V b e c f :=
 ⟨h.1.below hb, h.2.1.below hb, h.2.2.1.below hb, h.2.2.2.trans (hb.mono h.2.2.2.size)⟩
theorem XB2.mod {t ib : Nat} {w0 W V : World} {b c : Nat} {e f : Int} (h : XB2 t w0 W b e c f) (hm : Mod ib 0 W V) (hs : w0.heap.size + 1 + 1 < ib) : XB2 t w0 V b e c f :=
 ⟨h.1.mod hm (by omega), h.2.1.mod hm (by omega), h.2.2.1.mod hm (by omega), hm.below h.2.2.2 (by omega) h.2.2.2.size⟩
theorem XB2.cells {t : Nat} {w0 W : World} {b c : Nat} {e f : Int} (h : XB2 t w0 W b e c f) : ((W.cell? ⟨w0.heap.size, 0, none⟩ = some (.pointer (some ⟨b, 0, none⟩)) ∧ W.cell? ⟨w0.heap.size, 1, none⟩ = some (.int .i64 e)) ∧ W.cell? ⟨w0.heap.size + 1, 0, none⟩ = some (.pointer (some ⟨c, 0, none⟩))) ∧ W.cell? ⟨w0.heap.size + 1, 1, none⟩ = some (.int .i64 f) :=
 ⟨⟨⟨h.1.cell 0, h.1.cell 1⟩, h.2.1.cell 0⟩, h.2.1.cell 1⟩
theorem XB2.start0 (t : Nat) (w : World) (b c : Nat) (e f : Int) : XB2 t w (((w.alloc (.cells #[.pointer (some ⟨b, 0, none⟩), .int .i64 e] t)).alloc (.cells #[.pointer (some ⟨c, 0, none⟩), .int .i64 f] t)).alloc (.cells #[.pointer none, .int .i64 0] t)) b e c f :=
 ⟨((BlkT.new w _ _).alloc _).alloc _, (BlkT.new1 w _ _ _).alloc _, BlkT.new2 w _ _ _ _, below3 _ _ _ _⟩
theorem XB2.start (t : Nat) (w : World) (b c : Nat) (e f : Int) : XB2 t w (((w.alloc (.cells #[.pointer (some ⟨b, 0, none⟩), .int .i64 e] t)).alloc (.cells #[.pointer (some ⟨c, 0, none⟩), .int .i64 f] t)).alloc (.cells #[.pointer none, .int .i64 0] t)).drew b e c f :=
 (XB2.start0 t w b c e f).later (drew_below _)
theorem rstore2 {w0 wr : World} {rb rt ib : Nat} {rcs : Array Value} {y : Int} (hi : RInt wr ib y) (hr : BlkT wr rb rt rcs) (hT : ObjT rt) (hb : Below w0.heap.size w0 wr) (hne : ib ≠ rb) (h0 : w0.heap.size ≤ rb) (x0 x1 : Value) :
  RInt ((wr.setCell ⟨rb, 0, none⟩ x0).setCell ⟨rb, 1, none⟩ x1) ib y ∧ Below w0.heap.size w0 ((wr.setCell ⟨rb, 0, none⟩ x0).setCell ⟨rb, 1, none⟩ x1) :=
 ⟨(hi.setOther hr hT hne _).setOther (hr.set _) hT hne _, (hb.setCell h0 _).setCell h0 _⟩
theorem RInt.ne_box {w : World} {p b t : Nat} {z : Int} {x y : Value} {a : Option Addr} (h : RInt w p z) (hb : BlkT w b t #[x, y]) (hx : x = .pointer a) : p ≠ b := by
 intro e; subst e
 have h1 := h.2.1
 rw [hb.cell 0, hx] at h1
 simp at h1
theorem IntK.zero2 {k : IntKind} {s : Nat} (w : World) (o p : _root_.Go.Obj) (t : Nat) (ht : ObjT t) : IntK k s (((w.alloc o).alloc p).alloc (.cells #[.bool false, .slice none 0 0] t)) (w.heap.size + 1 + 1) 0 0 := by
 have := IntK.zero1 (k := k) (s := s) (w.alloc o) p t ht
 simpa using this
theorem rln_of_bl {N B : Nat} (h : bl N ≤ B) : ln 32 N ≤ B := Nat.le_trans (ln_le_bl 32 N (by decide)) h
set_option maxRecDepth 100000 in
set_option maxHeartbeats 600000 in
theorem rZero_any (w : World) : Calls Tryz.prog 68 #[] w (RxNew 0 0 w) := by
 go_enter Tryz.func68, Tryz.ntmps68
 go_wp2
 refine bodyPost_ret (v := ExV (w.heap.size + 1) 0) (by simp [results, Tryz.results68, go_sem, ExV]) rfl ⟨_, rfl, by omega, IntK.zero1 _ _ _ objT_rint, below2 _ _ _⟩
set_option maxRecDepth 100000 in
set_option maxHeartbeats 600000 in
theorem rLsh_at (b o c p : Nat) (n : Nat) (m : Int) (X : Int) (w : World) (hz : Spot w b o) (hx : IntK .u32 32 w c p X) (hl : ln 32 X.natAbs ≤ 68719476736) (hn : n ≤ 1099511627776) (hm : m = n) :
  Calls Tryz.prog 63 #[.pointer (some ⟨b, o, none⟩), .pointer (some ⟨c, p, none⟩), .int .u64 m] w (Puts .u32 32 b o (X * 2 ^ n) w) := by
 subst hm; exact rLsh_any b o c p n X w hz hx hl hn
set_option maxRecDepth 100000 in
set_option maxHeartbeats 600000 in
theorem rLow_any (b : Nat) (z e f : Int) (w : World) (hx : RInt w b z) (hl : bl z.natAbs ≤ 68719476736) (h1 : -274877906944 ≤ f) (h2 : f ≤ e) (h3 : e ≤ 274877906944) :
  Calls Tryz.prog 115 #[ExV b e, .int .i64 f] w (RxAny (z * 2 ^ (e - f).toNat) f w) := by
 have HX := Lib.hid hx
 have HL := Lib.hid (rln_of_bl hl)
 clear hx hl
 unfold ExV
 by_cases hef : f = e
 ·subst hef
  have HE : Hid (z * 2 ^ (f - f).toNat = z) := Lib.hid (by simp)
  rw [HE.out]
  clear h2
  go_enter Tryz.func115, Tryz.ntmps115
  go_wp2
  refine bodyPost_ret (v := ExV b f) (by simp [results, Tryz.results115, go_sem, ExV]) rfl ⟨_, rfl, HX.out.below (below2 _ _ _), below2 _ _ _⟩
 ·have HN : Hid (e - f = ((e - f).toNat : Int)) := Lib.hid (by omega)
  have HN2 : Hid ((e - f).toNat ≤ 1099511627776) := Lib.hid (by omega)
  have hlt : ¬ e ≤ f := by omega
  generalize (e - f).toNat = n at *
  have HW := Lib.hid ((XB1.start0 48 w b e).later (Below.alloc_self _ (.cells #[.bool false, .slice none 0 0] 92)))
  have HZ := Lib.hid (IntK.zero2 (k := .u32) (s := 32) w (.cells #[.pointer (some ⟨b, 0, none⟩), .int .i64 e] 48) (.cells #[.pointer none, .int .i64 0] 48) _ objT_rint)
  go_enter Tryz.func115, Tryz.ntmps115
  go_wp2_with fail
  refine (rLsh_at _ 0 _ 0 n _ z _ HZ.out.1 (HX.out.below HW.out.2.2) HL.out HN2.out HN.out).mono ?_
  rintro e2 w2 ⟨rfl, hi2, hm2⟩
  have HI := Lib.hid hi2
  replace HW := Lib.hid (HW.out.mod hm2 (by omega))
  clear hi2 hm2
  obtain ⟨r0, r1, r2, r3⟩ := HW.out.2.1.cells2
  have HF := Lib.hid (rstore2 HI.out HW.out.2.1 objT_rexact HW.out.2.2 (by omega) (by omega))
  generalize z * 2 ^ n = R at *
  clear HI HZ HN HN2 hef
  go_wp2
  refine bodyPost_ret (v := ExV (w.heap.size + 1 + 1) f) (by simp [results, Tryz.results115, go_sem, ExV, r0, r1]) rfl ⟨_, rfl, (HF.out _ _).1, (HF.out _ _).2⟩
set_option maxRecDepth 100000 in
set_option maxHeartbeats 600000 in
theorem rRsh_at (b o c p : Nat) (n : Nat) (m : Int) (X : Int) (w : World) (hz : Spot w b o) (hx : IntK .u32 32 w c p X) (hl : ln 32 X.natAbs ≤ 68719476736) (hn : n ≤ 1099511627776) (hm : m = n) :
  Calls Tryz.prog 125 #[.pointer (some ⟨b, o, none⟩), .pointer (some ⟨c, p, none⟩), .int .u64 m] w (Puts .u32 32 b o (X / 2 ^ n) w) := by
 subst hm; exact rRsh_any b o c p n X w hz hx hl hn
set_option maxRecDepth 100000 in
set_option maxHeartbeats 600000 in
theorem rOdd_any (b : Nat) (z e : Int) (w : World) (hx : RInt w b z) (hl : bl z.natAbs ≤ 68719476736) (h1 : -1099511627776 ≤ e) (h2 : e ≤ 1099511627776) (hT : Tab32 w) (hTs : 2 < w.heap.size) :
  Calls Tryz.prog 81 #[ExV b e] w (RxNew (hvZ z) (nrE z e) w) := by
 have HX := Lib.hid hx
 have HL := Lib.hid (rln_of_bl hl)
 by_cases hz : z = 0
 ·subst hz
  have HS0 : Hid ((0 : Int).sign = 0) := Lib.hid rfl
  have HR : Hid (hvZ 0 = 0 ∧ nrE 0 e = 0) := Lib.hid ⟨hvZ_zero, if_pos rfl⟩
  rw [HR.out.1, HR.out.2]
  clear hx hl hT hTs HL
  unfold ExV
  go_enter Tryz.func81, Tryz.ntmps81
  go_wp2_with fail
  refine (rSign_any _ 0 0 _ (HX.out.below (below2 _ _ _))).mono ?_
  rintro e2 w2 ⟨rfl, rfl⟩
  rw [HS0.out]
  go_wp2
  refine bodyPost_ret (v := ExV (w.heap.size + 1 + 1) 0) (by simp [results, Tryz.results81, go_sem, ExV]) rfl ⟨_, rfl, by omega, IntK.zero2 _ _ _ _ objT_rint, below3 _ _ _ _⟩
 ·obtain ⟨sg, HS, hsg⟩ : ∃ sg, Hid (z.sign = sg) ∧ (sg == 0) = false := ⟨_, Lib.hid rfl, by have := sign_ne hz; simpa using this⟩
  have HR : Hid (hvZ z = z / 2 ^ tzb z.natAbs ∧ nrE z e = e + tzb z.natAbs) := Lib.hid ⟨rfl, if_neg hz⟩
  rw [HR.out.1, HR.out.2]
  have ht1 : tzb z.natAbs ≤ 68719476736 := Nat.le_trans tzb_le hl
  have HT1 : Hid (tzb z.natAbs ≤ 1099511627776) := Lib.hid (by omega)
  have HT := Lib.hid (And.intro hT hTs)
  obtain ⟨t, hte⟩ : ∃ t, tzb z.natAbs = t := ⟨_, rfl⟩
  rw [hte] at ht1 HT1 ⊢
  have HTE := Lib.hid hte
  have k1 : IntKind.i64.wrap (e + (t : Int)) = e + (t : Int) := IntWalk.i64_in _ (by omega)
  have k2 : IntKind.i64.wrap (t : Int) = (t : Int) := IntWalk.i64_in _ (by omega)
  clear hx hl hT hTs hz HR hte
  unfold ExV
  go_enter Tryz.func81, Tryz.ntmps81
  go_wp2_with fail
  refine (rSign_any _ 0 z _ (HX.out.below (below2 _ _ _))).mono ?_
  rintro e2 w2 ⟨rfl, rfl⟩
  rw [HS.out]
  go_wp2_with fail
  refine (rTrailingZeroBits_any _ 0 z _ (HX.out.below (below2 _ _ _)) (Tab32.below HT.out.1 HT.out.2 (below2 _ _ _)) HL.out).mono ?_
  rintro e2 w2 ⟨rfl, hb2⟩
  rw [HTE.out]
  have HW := Lib.hid (((XB1.start0 48 w b e).later hb2).later (drew_below _))
  clear hb2
  go_wp2
  refine wp_region_pl (fun w' : World => w'.cell? ⟨w.heap.size, 0, none⟩ = some (.pointer (some ⟨b, 0, none⟩)) ∧ w'.cell? ⟨w.heap.size, 1, none⟩ = some (.int .i64 e)) 10 (.take 1 (.take 2 (.take 3 (.take 5 (.take 6 (.take 7 (.take 8 (.take 9 (.run 0 (.run 4 .nil)))))))))) (by kernel_rfl) (by kernel_rfl) ?_
  obtain ⟨W0, hW0⟩ : ∃ v, w2.drew = v := ⟨_, rfl⟩
  rw [hW0] at HW ⊢
  clear hW0
  have hS : (fun w' : World => w'.cell? ⟨w.heap.size, 0, none⟩ = some (.pointer (some ⟨b, 0, none⟩)) ∧ w'.cell? ⟨w.heap.size, 1, none⟩ = some (.int .i64 e)) W0 := HW.out.cells
  repeat (refine tkL (v := ?_) rfl rfl rfl (fun w' hSw => ?_) hS ?_; rotate_left; (focus (go_simp; with_reducible rfl)); simp only [setL])
  clear hS
  refine wpPl_goL rfl rfl fun K' hK => ?_
  go_simp
  have hb1 := Below.alloc_self W0 (.cells #[.bool false, .slice none 0 0] 92)
  have HZ := Lib.hid (IntK.zero (k := .u32) (s := 32) W0 _ objT_rint)
  have iblt := HW.out.lt
  obtain ⟨ib, hib⟩ : ∃ i, W0.heap.size = i := ⟨_, rfl⟩
  obtain ⟨V1, hV1⟩ : ∃ v, W0.alloc (.cells #[.bool false, .slice none 0 0] 92) = v := ⟨_, rfl⟩
  rw [hV1] at hb1 HZ
  rw [hib] at HZ iblt
  rw [hV1]
  try rw [hib]
  clear hV1 hib
  replace HW := Lib.hid (HW.out.later hb1)
  refine hK _ _ HW.out.cells ?_
  clear hK K' hb1
  refine wpPl_goL rfl rfl fun K' hK => ?_
  go_simp
  refine (rRsh_at ib 0 b 0 t _ z _ HZ.out.1 (HX.out.below HW.out.2.2) HL.out HT1.out rfl).mono ?_
  rintro e1 V2 ⟨rfl, hi1, hm1⟩
  have HI := Lib.hid hi1
  clear hi1
  replace HW := Lib.hid (HW.out.mod hm1 (by omega))
  refine hK _ _ HW.out.cells ?_
  clear hK K' hm1
  refine wpPl_nil ?_
  simp only [drL]
  obtain ⟨r0, r1, r2, r3⟩ := HW.out.2.1.cells2
  have HF := Lib.hid (rstore2 HI.out HW.out.2.1 objT_rexact HW.out.2.2 (by omega) (by omega))
  have hib0 : w.heap.size ≤ ib := by omega
  clear HZ HI
  generalize z / 2 ^ t = R at *
  go_wp2
  refine bodyPost_ret (v := ExV ib (e + (t : Int))) (by simp [results, Tryz.results81, go_sem, ExV, r0, r1]) rfl ⟨ib, rfl, hib0, (HF.out _ _).1, (HF.out _ _).2⟩
end
section
open Go.RowKit
theorem rfield0 (p : Nat) (E : Int) (W : World) : (Instr.field 48 (.agg #[.pointer (some ⟨p, 0, none⟩), .int .i64 E]) 0).run Tryz.prog W = .ok (.pointer (some ⟨p, 0, none⟩)) W := by
 kernel_rfl
set_option maxRecDepth 100000 in
set_option maxHeartbeats 600000 in
theorem rAddX_both (b c : Nat) (z e y f g : Int) (w : World) (hx : RInt w b z) (hy : RInt w c y) (hz : z ≠ 0) (h0 : y ≠ 0) (hg : min e f = g)
  (hl : bl z.natAbs ≤ 34359738368) (hl2 : bl y.natAbs ≤ 34359738368) (he1 : -8589934592 ≤ e) (he2 : e ≤ 8589934592) (hf1 : -8589934592 ≤ f) (hf2 : f ≤ 8589934592) :
  Calls Tryz.prog 69 #[ExV b e, ExV c f] w (RxAny (z * 2 ^ (e - g).toNat + y * 2 ^ (f - g).toNat) g w) := by
 have HX := Lib.hid hx
 have HY := Lib.hid hy
 obtain ⟨sg, HS, hsg⟩ : ∃ sg, Hid (z.sign = sg) ∧ (sg == 0) = false := ⟨_, Lib.hid rfl, by have := sign_ne hz; simpa using this⟩
 obtain ⟨sh, HS2, hsh⟩ : ∃ sg, Hid (y.sign = sg) ∧ (sg == 0) = false := ⟨_, Lib.hid rfl, by have := sign_ne h0; simpa using this⟩
 have HL := Lib.hid hl
 have HL2 := Lib.hid hl2
 have hg1 : g ≤ e := by omega
 have hg2 : g ≤ f := by omega
 have hg3 : -8589934592 ≤ g := by omega
 clear hx hy h0 hz hl hl2
 unfold ExV
 go_enter Tryz.func69, Tryz.ntmps69
 go_wp2_with fail
 refine (rSign_any _ 0 z _ (HX.out.below (below3 _ _ _ _))).mono ?_
 rintro e2 w2 ⟨rfl, rfl⟩
 rw [HS.out]
 go_wp2_with fail
 refine (rSign_any _ 0 y _ (HY.out.below (below3 _ _ _ _))).mono ?_
 rintro e2 w2 ⟨rfl, rfl⟩
 rw [HS2.out]
 go_wp2
 refine wp_region_q (fun w' : World => ((w'.cell? ⟨w.heap.size, 0, none⟩ = some (.pointer (some ⟨b, 0, none⟩)) ∧ w'.cell? ⟨w.heap.size, 1, none⟩ = some (.int .i64 e)) ∧ w'.cell? ⟨w.heap.size + 1, 0, none⟩ = some (.pointer (some ⟨c, 0, none⟩))) ∧ w'.cell? ⟨w.heap.size + 1, 1, none⟩ = some (.int .i64 f)) 11 (.take 1 (.take 2 (.take 5 (.take 6 (.take 10 (.bag [(0, 21, []), (3, 24, [(4, 25)]), (7, 28, [(8, 29)])] (.run 9 .nil))))))) (by kernel_rfl) (by kernel_rfl) ?_
 have HW := Lib.hid (XB2.start 48 w b c e f)
 obtain ⟨W0, hW0⟩ : ∃ v, (((w.alloc (.cells #[.pointer (some ⟨b, 0, none⟩), .int .i64 e] 48)).alloc (.cells #[.pointer (some ⟨c, 0, none⟩), .int .i64 f] 48)).alloc (.cells #[.pointer none, .int .i64 0] 48)).drew = v := ⟨_, rfl⟩
 rw [hW0] at HW ⊢
 clear hW0
 have hS : (fun w' : World => ((w'.cell? ⟨w.heap.size, 0, none⟩ = some (.pointer (some ⟨b, 0, none⟩)) ∧ w'.cell? ⟨w.heap.size, 1, none⟩ = some (.int .i64 e)) ∧ w'.cell? ⟨w.heap.size + 1, 0, none⟩ = some (.pointer (some ⟨c, 0, none⟩))) ∧ w'.cell? ⟨w.heap.size + 1, 1, none⟩ = some (.int .i64 f)) W0 := HW.out.cells
 repeat (refine wpPq_takeL (v := ?_) rfl rfl (fun _ _ _ h => h) rfl (fun w' hSw => ?_) hS ?_; rotate_left; (focus (go_simp; with_reducible rfl)); simp only [setL])
 clear hS
 refine wpPq_bag (pick [(0, fun v w' => ∃ p, v = .pointer (some ⟨p, 0, none⟩) ∧ RInt w' p 0 ∧ w.heap.size + 1 + 1 < p), (3, fun v w' => ∃ p, v = ExV p g ∧ RInt w' p (z * 2 ^ (e - g).toNat)), (4, fun v w' => ∃ p, v = .pointer (some ⟨p, 0, none⟩) ∧ RInt w' p (z * 2 ^ (e - g).toNat)), (7, fun v w' => ∃ p, v = ExV p g ∧ RInt w' p (y * 2 ^ (f - g).toNat)), (8, fun v w' => ∃ p, v = .pointer (some ⟨p, 0, none⟩) ∧ RInt w' p (y * 2 ^ (f - g).toNat))]) (pick_mono (bag_cons (fun v w1 w2 ⟨p0, hv0, hp0, hq0⟩ hb => ⟨p0, hv0, hp0.below hb, hq0⟩) (bag_cons (fun v w1 w2 ⟨p3, hv3, hp3⟩ hb => ⟨p3, hv3, hp3.below hb⟩) (bag_cons (fun v w1 w2 ⟨p4, hv4, hp4⟩ hb => ⟨p4, hv4, hp4.below hb⟩) (bag_cons (fun v w1 w2 ⟨p7, hv7, hp7⟩ hb => ⟨p7, hv7, hp7.below hb⟩) (bag_cons (fun v w1 w2 ⟨p8, hv8, hp8⟩ hb => ⟨p8, hv8, hp8.below hb⟩) bag_nil)))))) (fun w' hb => (HW.out.later hb).cells) (by simp [prE]) (fun _ _ _ _ _ h => h) (bag_cons (bag_one rfl ?_) (bag_cons (bag_one rfl ?_) (bag_cons (bag_one rfl ?_) bag_nil))) (bag_cons (read_one rfl ?_) (bag_cons (read_one rfl ?_) bag_nil)) ?_
 ·intro a' V hdf hin hdep hb1 K hK
  clear hin hdep hdf
  have HW := Lib.hid (HW.out.later hb1)
  go_simp
  exact hK _ _ ⟨_, rfl, IntK.zero V _ objT_rint, HW.out.lt⟩ (Below.alloc_self _ _)
 ·intro a' V hdf hin hdep hb1 K hK
  have i22 : a'.tmps[22]?.getD undef = .agg #[.pointer (some ⟨b, 0, none⟩), .int .i64 e] := evT (hin 22 (by decide))
  have i23 : a'.tmps[23]?.getD undef = .int .i64 g := evT (hin 23 (by decide))
  clear hin hdep hdf
  have HW := Lib.hid (HW.out.later hb1)
  go_simp
  refine (rLow_any b z e g _ (HX.out.below HW.out.2.2.2) (Nat.le_trans HL.out (by omega)) (by omega) hg1 (by omega)).mono ?_
  rintro e1 V2 ⟨p, rfl, hi1, hb2⟩
  exact hK _ _ ⟨p, rfl, hi1⟩ hb2
 ·intro a' V hdf hin hdep hb1 K hK
  have i26 : a'.tmps[26]?.getD undef = .agg #[.pointer (some ⟨c, 0, none⟩), .int .i64 f] := evT (hin 26 (by decide))
  have i27 : a'.tmps[27]?.getD undef = .int .i64 g := evT (hin 27 (by decide))
  clear hin hdep hdf
  have HW := Lib.hid (HW.out.later hb1)
  go_simp
  refine (rLow_any c y f g _ (HY.out.below HW.out.2.2.2) (Nat.le_trans HL2.out (by omega)) (by omega) hg2 (by omega)).mono ?_
  rintro e1 V2 ⟨p, rfl, hi1, hb2⟩
  exact hK _ _ ⟨p, rfl, hi1⟩ hb2
 ·intro a' V hdf hin hdep hb1
  obtain ⟨p3, hv3, hp3⟩ : (fun (v : Value) (w' : World) => ∃ p, v = ExV p g ∧ RInt w' p (z * 2 ^ (e - g).toNat)) (a'.tmps.getD 24 undef) V := hdep ⟨3, .data⟩ (by simp) rfl 24 (by decide)
  replace hv3 := evT hv3
  clear hin hdep hdf
  have HW := Lib.hid (HW.out.later hb1)
  simp only [ExV] at hv3
  have hfd := fun W => rfield0 p3 g W
  refine ⟨.pointer (some ⟨p3, 0, none⟩), fun W hSw => ?_, ⟨_, rfl, hp3⟩⟩
  go_simp
 ·intro a' V hdf hin hdep hb1
  obtain ⟨p7, hv7, hp7⟩ : (fun (v : Value) (w' : World) => ∃ p, v = ExV p g ∧ RInt w' p (y * 2 ^ (f - g).toNat)) (a'.tmps.getD 28 undef) V := hdep ⟨7, .data⟩ (by simp) rfl 28 (by decide)
  replace hv7 := evT hv7
  clear hin hdep hdf
  have HW := Lib.hid (HW.out.later hb1)
  simp only [ExV] at hv7
  have hfd := fun W => rfield0 p7 g W
  refine ⟨.pointer (some ⟨p7, 0, none⟩), fun W hSw => ?_, ⟨_, rfl, hp7⟩⟩
  go_simp
 intro vals B1 hb1 hR
 replace HW := Lib.hid (HW.out.later hb1)
 obtain ⟨p0, hv0, hp0, hq0⟩ : (fun (v : Value) (w' : World) => ∃ p, v = .pointer (some ⟨p, 0, none⟩) ∧ RInt w' p 0 ∧ w.heap.size + 1 + 1 < p) (vals 0) B1 := hR (0, 21) (by decide)
 obtain ⟨p3, hv3, hp3⟩ : (fun (v : Value) (w' : World) => ∃ p, v = ExV p g ∧ RInt w' p (z * 2 ^ (e - g).toNat)) (vals 3) B1 := hR (3, 24) (by decide)
 obtain ⟨p4, hv4, hp4⟩ : (fun (v : Value) (w' : World) => ∃ p, v = .pointer (some ⟨p, 0, none⟩) ∧ RInt w' p (z * 2 ^ (e - g).toNat)) (vals 4) B1 := hR (4, 25) (by decide)
 obtain ⟨p7, hv7, hp7⟩ : (fun (v : Value) (w' : World) => ∃ p, v = ExV p g ∧ RInt w' p (y * 2 ^ (f - g).toNat)) (vals 7) B1 := hR (7, 28) (by decide)
 obtain ⟨p8, hv8, hp8⟩ : (fun (v : Value) (w' : World) => ∃ p, v = .pointer (some ⟨p, 0, none⟩) ∧ RInt w' p (y * 2 ^ (f - g).toNat)) (vals 8) B1 := hR (8, 29) (by decide)
 clear hb1 hR
 simp only [prE, List.flatMap_cons, List.flatMap_nil, List.cons_append, List.nil_append, List.append_nil, setD, List.setIfInBounds_toArray, List.set_cons_zero, List.set_cons_succ, hv0, hv3, hv4, hv7, hv8]
 clear vals hv0 hv3 hv4 hv7 hv8
 refine wpPq_goL rfl rfl fun K' hK => ?_
 go_simp
 refine (rAdd_any p0 0 p4 0 p8 0 _ _ _ hp0.1 hp4 hp8 ?_ ?_).mono ?_
 ·exact rln_of_bl (Nat.le_trans (bl_shl _ _) (by have := HL.out; omega))
 ·exact rln_of_bl (Nat.le_trans (bl_shl _ _) (by have := HL2.out; omega))
 rintro e1 V2 ⟨rfl, hi1, hm1⟩
 have HI := Lib.hid hi1
 clear hi1
 replace HW := Lib.hid (HW.out.mod hm1 (by omega))
 refine hK _ _ HW.out.cells ?_
 clear hK K' hm1
 refine wpPq_nil ?_
 simp only [drL]
 obtain ⟨r0, r1, r2, r3⟩ := HW.out.2.2.1.cells2
 have HF := Lib.hid (rstore2 HI.out HW.out.2.2.1 objT_rexact HW.out.2.2.2 (by omega) (by omega))
 clear HI hp0 hp3 hp4 hp7 hp8
 generalize z * 2 ^ (e - g).toNat + y * 2 ^ (f - g).toNat = R at *
 go_wp2
 refine bodyPost_ret (v := ExV p0 g) (by simp [results, Tryz.results69, go_sem, ExV, r0, r1]) rfl ⟨_, rfl, (HF.out _ _).1, (HF.out _ _).2⟩
set_option maxRecDepth 100000 in
set_option maxHeartbeats 600000 in
theorem rAddX_zero (b c : Nat) (e y f : Int) (w : World) (hx : RInt w b 0) (hy : RInt w c y) : Calls Tryz.prog 69 #[ExV b e, ExV c f] w (RxAny y f w) := by
 have HX := Lib.hid hx
 have HY := Lib.hid hy
 clear hx hy
 unfold ExV
 have HS0 : Hid ((0 : Int).sign = 0) := Lib.hid rfl
 go_enter Tryz.func69, Tryz.ntmps69
 go_wp2_with fail
 refine (rSign_any _ 0 0 _ (HX.out.below (below3 _ _ _ _))).mono ?_
 rintro e2 w2 ⟨rfl, rfl⟩
 rw [HS0.out]
 go_wp2
 refine bodyPost_ret (v := ExV c f) (by simp [results, Tryz.results69, go_sem, ExV]) rfl ⟨c, rfl, HY.out.below (below3 _ _ _ _), below3 _ _ _ _⟩
set_option maxRecDepth 100000 in
set_option maxHeartbeats 600000 in
theorem rAddX_zero2 (b c : Nat) (z e f : Int) (w : World) (hx : RInt w b z) (hy : RInt w c 0) (h0 : z ≠ 0) : Calls Tryz.prog 69 #[ExV b e, ExV c f] w (RxAny z e w) := by
 have HX := Lib.hid hx
 have HY := Lib.hid hy
 obtain ⟨sg, HS, hsg⟩ : ∃ sg, Hid (z.sign = sg) ∧ (sg == 0) = false := ⟨_, Lib.hid rfl, by have := sign_ne h0; simpa using this⟩
 clear hx hy h0
 unfold ExV
 have HS0 : Hid ((0 : Int).sign = 0) := Lib.hid rfl
 go_enter Tryz.func69, Tryz.ntmps69
 go_wp2_with fail
 refine (rSign_any _ 0 z _ (HX.out.below (below3 _ _ _ _))).mono ?_
 rintro e2 w2 ⟨rfl, rfl⟩
 rw [HS.out]
 go_wp2_with fail
 refine (rSign_any _ 0 0 _ (HY.out.below (below3 _ _ _ _))).mono ?_
 rintro e2 w2 ⟨rfl, rfl⟩
 rw [HS0.out]
 go_wp2
 refine bodyPost_ret (v := ExV b e) (by simp [results, Tryz.results69, go_sem, ExV]) rfl ⟨b, rfl, HX.out.below (below3 _ _ _ _), below3 _ _ _ _⟩
theorem rAddX_any (b c : Nat) (z e y f : Int) (w : World) (hx : RInt w b z) (hy : RInt w c y)
  (hl : bl z.natAbs ≤ 34359738368) (hl2 : bl y.natAbs ≤ 34359738368) (he1 : -8589934592 ≤ e) (he2 : e ≤ 8589934592) (hf1 : -8589934592 ≤ f) (hf2 : f ≤ 8589934592) :
  Calls Tryz.prog 69 #[ExV b e, ExV c f] w (RxAny (plZ z e y f) (plE z e y f) w) := by
 unfold plZ plE
 by_cases hz : z = 0
 ·subst hz; rw [if_pos rfl, if_pos rfl]; exact rAddX_zero b c e y f w hx hy
 ·rw [if_neg hz, if_neg hz]
  by_cases h0 : y = 0
  ·subst h0; rw [if_pos rfl, if_pos rfl]; exact rAddX_zero2 b c z e f w hx hy hz
  ·rw [if_neg h0, if_neg h0]; exact rAddX_both b c z e y f _ w hx hy hz h0 rfl hl hl2 he1 he2 hf1 hf2
end
end Go.Proofs.YthkhignbmefmjaaGreatDoor
