/- Walks: the references' Whole, Magnitudes; the law's word 'below'. Printed by wip/gen/bw1.py. -/
import Derived.Test.YtjoajbbapfgaoaaGreatDoorZNe3
import Derived.Test.YtjoajbbapfgaoaaGreatDoorZSm1
import Derived.Test.YtjoajbbapfgaoaaGreatDoorZRk5
namespace Go.Proofs.YtjoajbbapfgaoaaGreatDoor
open Go.RowKit

/-- The pairs of a list's amounts. -/
def mgs (l : List Nat) : List (Int × Int) := l.map fun b => (((valZ b).natAbs : Int), pE b)

theorem mgs_small {l : List Nat} (hn : l.length ≤ 1099511627776) (hf : l.all finB = true) (k : Nat) (hk : k ≤ l.length) :
    -1074 ≤ (foldS ((mgs l).take k)).2 ∧ (foldS ((mgs l).take k)).2 ≤ 1023 ∧ bl (foldS ((mgs l).take k)).1.natAbs ≤ 2139 := by
  have hl : (mgs l).length = l.length := by unfold mgs; simp
  refine foldS_small (M := 1074) (by omega) (by omega) (fun t ht => ?_) (by rw [hl]; exact sum_len hn) k (by rw [hl]; exact hk)
  unfold mgs at ht
  rw [List.mem_map] at ht
  obtain ⟨b, hb, rfl⟩ := ht
  have hfb := List.all_eq_true.1 hf b hb
  have := pE_bd hfb
  refine ⟨this.1, this.2, ?_⟩
  rw [natAbs_sc, Int.natAbs_natCast, ← natAbs_sc]
  exact sc_one hfb

set_option maxRecDepth 100000 in
set_option maxHeartbeats 600000 in
theorem rWhole_any (n : Int) (w : World) (h1 : -9223372036854775808 ≤ n) (h2 : n ≤ 9223372036854775807) : Calls Tryz.prog 72 #[.int .i64 n] w (RxNew n 0 w) := by
  have HW0 := Lib.hid (BlkT.new w #[.pointer none, .int .i64 0] 34)
  go_enter Tryz.func72, Tryz.ntmps72
  go_wp2_with fail
  refine (rNewInt_any n _ h1 h2).mono ?_
  rintro e1 w1 ⟨ib, rfl, hib, hi, hb⟩
  have HB := Lib.hid ((below1 w _).trans (hb.mono (below1 w _).size))
  have HW1 := Lib.hid (HW0.out.below hb)
  have HI := Lib.hid hi
  have HLT : Hid (w.heap.size < ib) := Lib.hid (by simp at hib; omega)
  obtain ⟨r0, r1, r2, r3⟩ := HW1.out.cells2
  have HF := Lib.hid (rstore2 HI.out HW1.out objT_rexact HB.out (by have := HLT.out; omega) (Nat.le_refl _))
  clear hib hi hb HW0
  go_wp2
  refine bodyPost_ret (v := ExV ib 0) (by simp [results, Tryz.results72, go_sem, ExV, r0, r1]) rfl ⟨ib, rfl, Nat.le_of_lt HLT.out, (HF.out _ _).1, (HF.out _ _).2⟩

set_option maxRecDepth 100000 in
set_option maxHeartbeats 1600000 in
theorem rMags_any (v : Value) (l : List Nat) (w : World) (hl : FSl w v l) (hf : l.all finB = true) :
    Calls Tryz.prog 70 #[v] w (RxAny (foldS (mgs l)).1 (foldS (mgs l)).2 w) := by
  obtain ⟨ao, cap, rfl, hcap, hn, hx, hc⟩ := hl
  have HC := Lib.hid hc
  have HX := Lib.hid hx
  have HF := Lib.hid hf
  have HK := Lib.hid (mgs_small hn hf)
  have HLp : Hid ((mgs l).length = l.length) := Lib.hid (by unfold mgs; simp)
  have HG : Hid (∀ k (h : k < l.length), foldS ((mgs l).take (k + 1)) = (plZ (foldS ((mgs l).take k)).1 (foldS ((mgs l).take k)).2 ((valZ l[k]).natAbs : Int) (pE l[k]), plE (foldS ((mgs l).take k)).1 (foldS ((mgs l).take k)).2 ((valZ l[k]).natAbs : Int) (pE l[k]))) := by
    refine Lib.hid fun k h => ?_
    rw [foldS_take (by rw [HLp.out]; exact h)]
    unfold mgs; simp
  clear hc hx hf
  go_enter Tryz.func70, Tryz.ntmps70
  go_wp2_with fail
  refine (rZero_any _).mono ?_
  rintro e1 w1 ⟨q0, rfl, hq0, hi0, hb1⟩
  have HA0 := Lib.hid (RAcc.start hb1 hi0)
  obtain ⟨bb, hbb⟩ : ∃ i, w1.heap.size = i := ⟨_, rfl⟩
  unfold ExV
  clear hq0 hi0 hb1
  go_wp2
  rw [hbb] at HA0
  go_loopw [9] (fun i wr => ∃ (k : Nat) (p : Nat), k ≤ l.length ∧ i = .int .i64 k ∧ Hid (RAcc w wr bb (foldS ((mgs l).take k)).1 (foldS ((mgs l).take k)).2 p)) (fun i _ => l.length - (intOf i).toNat)
  case atStart => exact ⟨0, q0, Nat.zero_le _, rfl, HA0⟩
  case round =>
    clear hbb
    obtain ⟨k, p, hk, rfl, HR⟩ := hrel
    have HKk := Lib.hid (HK.out k hk)
    by_cases hlt : k < l.length
    · obtain ⟨b, off, rfl, hb, hcc⟩ := HC.out (by omega)
      have hck := (HR.out.below.cell (p := ⟨b, off + k, none⟩) hb).trans (hcc k hlt)
      have HOF := Lib.hid fun W => rOf_any l[k] W (HX.out _ (List.getElem_mem _)) (List.all_eq_true.1 HF.out _ (List.getElem_mem _))
      have HGk := Lib.hid (HG.out k hlt)
      have HB5 := Lib.hid (pE_bd (List.all_eq_true.1 HF.out _ (List.getElem_mem hlt)))
      have HB6 : Hid (bl (((valZ l[k]).natAbs : Int)).natAbs ≤ 53) := Lib.hid (by rw [Int.natAbs_natCast]; exact val_bl)
      clear hcc
      generalize hs1 : foldS ((mgs l).take (k + 1)) = s1 at *
      have HS1 := Lib.hid hs1
      clear hs1
      generalize foldS ((mgs l).take k) = s0 at *
      have HAB := Lib.hid fun b W (h : RInt W b (valZ l[k])) => rAbsX_any b (valZ l[k]) (pE l[k]) W h
      generalize ((valZ l[k]).natAbs : Int) = y at *
      generalize valZ l[k] = y0 at *
      generalize pE l[k] = f at *
      generalize l[k] = x at *
      obtain ⟨z, e⟩ := s0
      obtain ⟨z1, g⟩ := s1
      simp only at HR HGk HKk
      obtain ⟨r0, r1, r2, r3⟩ := HR.out.box.cells2
      have HEq : Hid (plZ z e y f = z1 ∧ plE z e y f = g) := Lib.hid (by have := HGk.out; simp only [Prod.mk.injEq] at this; exact ⟨this.1.symm, this.2.symm⟩)
      go_wp2
      refine wp_region_q (fun w' : World => w'.cell? ⟨bb, 0, none⟩ = some (.pointer (some ⟨p, 0, none⟩)) ∧ w'.cell? ⟨bb, 1, none⟩ = some (.int .i64 e)) 4 (.take 0 (.take 1 (.run 2 (.run 3 .nil)))) (by kernel_rfl) (by kernel_rfl) ?_
      replace HR := Lib.hid (HR.out.later (drew_below wr))
      clear r0 r1 r2 r3 hck
      obtain ⟨W0, hW0⟩ : ∃ u, wr.drew = u := ⟨_, rfl⟩
      rw [hW0] at HR ⊢
      clear hW0
      have hS : (fun w' : World => w'.cell? ⟨bb, 0, none⟩ = some (.pointer (some ⟨p, 0, none⟩)) ∧ w'.cell? ⟨bb, 1, none⟩ = some (.int .i64 e)) W0 := (And.intro (HR.out.box.cell 0) (HR.out.box.cell 1))
      repeat (refine wpPq_takeL (v := ?_) rfl rfl (fun _ _ _ h => h) rfl (fun w' hSw => ?_) hS ?_; rotate_left; (focus (go_simp; with_reducible rfl)); simp only [List.setIfInBounds_toArray, List.set_cons_zero, List.set_cons_succ])
      clear hS
      refine wpPq_goL rfl rfl fun K' hK => ?_
      go_simp
      refine (HOF.out W0).mono ?_
      rintro e1 V1 ⟨q, rfl, hq, hi3, hb1⟩
      have HI2 := Lib.hid hi3
      replace HR := Lib.hid (HR.out.later hb1)
      refine hK _ _ (And.intro (HR.out.box.cell 0) (HR.out.box.cell 1)) ?_
      clear hK K' hb1 hq hi3
      refine wpPq_goL rfl rfl fun K' hK => ?_
      go_simp
      refine (HAB.out q _ HI2.out).mono ?_
      rintro e1 V2 ⟨q2, rfl, hq, hi3, hb1⟩
      have HI3 := Lib.hid hi3
      replace HR := Lib.hid (HR.out.later hb1)
      refine hK _ _ (And.intro (HR.out.box.cell 0) (HR.out.box.cell 1)) ?_
      clear hK K' hb1
      refine wpPq_nil ?_
      simp only [List.drop_succ_cons, List.drop_zero]
      clear hq hi3
      unfold ExV
      obtain ⟨r0, r1, r2, r3⟩ := HR.out.box.cells2
      go_wp2_with fail
      refine (rAddX_any p q2 z e y f _ HR.out.num HI3.out (by have := HKk.out.2.2; omega) (by have := HB6.out; omega) (by have := HKk.out.1; omega) (by have := HKk.out.2.1; omega) (by have := HB5.out.1; omega) (by have := HB5.out.2; omega)).mono ?_
      rintro e4 w4 ⟨p2, rfl, hi4, hb4⟩
      rw [HEq.out.1] at hi4
      rw [HEq.out.2]
      have HR4 := Lib.hid (HR.out.later hb4)
      have HI4 := Lib.hid hi4
      clear hi4 hb4 HR HI3 r0 r1 r2 r3
      obtain ⟨r0, r1, r2, r3⟩ := HR4.out.box.cells2
      unfold ExV
      go_wp2
      go_roundw
      case rel => exact ⟨k + 1, p2, by omega, by go_num, Lib.hid (by rw [HS1.out]; exact HR4.out.put HI4.out)⟩
      case measure => simp [intOf]; omega
    · obtain rfl : k = l.length := by omega
      have HTk : Hid ((mgs l).take l.length = mgs l) := Lib.hid (by rw [← HLp.out]; exact List.take_length)
      rw [HTk.out] at HR HKk
      clear HK HG HF HX HC HTk HLp
      generalize foldS (mgs l) = s0 at *
      obtain ⟨z, e⟩ := s0
      simp only at HR HKk ⊢
      obtain ⟨r0, r1, r2, r3⟩ := HR.out.box.cells2
      obtain ⟨x0, x1, x2, x3⟩ := HR.out.res.cells2
      have HFN := Lib.hid (rstore2 HR.out.num HR.out.res objT_rexact HR.out.below (RInt.ne_box HR.out.num HR.out.res rfl) (Nat.le_refl _))
      go_wp2
      refine bodyPost_ret (v := ExV p e) (by simp [results, Tryz.results70, go_sem, ExV, x0, x1]) rfl ⟨_, rfl, (HFN.out _ _).1, (HFN.out _ _).2⟩

/-- Boxes of exact numbers. -/
def XB0 (W : World) (b q : Nat) (z e : Int) : Prop := BlkT W b 34 #[.pointer (some ⟨q, 0, none⟩), .int .i64 e] ∧ RInt W q z
theorem XB0.below {W V : World} {b q : Nat} {z e : Int} (h : XB0 W b q z e) (hb : Below W.heap.size W V) : XB0 V b q z e := ⟨h.1.below hb, h.2.below hb⟩
theorem XB0.new {w : World} {q : Nat} {z e : Int} (h : RInt w q z) : XB0 (w.alloc (.cells #[.pointer (some ⟨q, 0, none⟩), .int .i64 e] 34)) w.heap.size q z e := ⟨BlkT.new w _ _, h.below (Below.alloc_self w _)⟩
theorem XB0.st2 {W : World} {b q r : Nat} {z e f : Int} {a : Option Addr} (h : XB0 W b q z e) (hr : BlkT W r 34 #[.pointer a, .int .i64 f]) (hn : b ≠ r) (x0 x1 : Value) : XB0 ((W.setCell ⟨r, 0, none⟩ x0).setCell ⟨r, 1, none⟩ x1) b q z e :=
  ⟨(h.1.setOther hn _).setOther hn _, h.2.st2 hr _ _⟩
theorem XB0.put {W : World} {p r : Nat} {z e f : Int} {a : Option Addr} (h : RInt W p z) (hr : BlkT W r 34 #[.pointer a, .int .i64 f]) : XB0 ((W.setCell ⟨r, 0, none⟩ (.pointer (some ⟨p, 0, none⟩))).setCell ⟨r, 1, none⟩ (.int .i64 e)) r p z e :=
  ⟨(hr.set (i := 0) _).set (i := 1) _, h.st2 hr _ _⟩

/-- The sign that 'below' asks of. -/
def belP (x e n y f : Int) : Int := plZ (x * plZ 1 0 (-(n * 1)) (0 + -53)) (e + plE 1 0 (-(n * 1)) (0 + -53)) (-(n * 1 * y)) (0 + -53 + f)

/-- The boxes of 'below': x, y, u, one. -/
structure BelB (w0 W : World) (b3 b5 b7 b8 q3 q5 q7 q8 : Nat) (x e y f : Int) : Prop where
  x : XB0 W b3 q3 x e
  y : XB0 W b5 q5 y f
  u : XB0 W b7 q7 1 (-53)
  o : XB0 W b8 q8 1 0
  below : Below w0.heap.size w0 W
theorem BelB.later {w0 W V : World} {b3 b5 b7 b8 q3 q5 q7 q8 : Nat} {x e y f : Int} (h : BelB w0 W b3 b5 b7 b8 q3 q5 q7 q8 x e y f) (hb : Below W.heap.size W V) : BelB w0 V b3 b5 b7 b8 q3 q5 q7 q8 x e y f :=
  ⟨h.x.below hb, h.y.below hb, h.u.below hb, h.o.below hb, h.below.trans (hb.mono h.below.size)⟩
theorem BelB.st2 {w0 W : World} {b3 b5 b7 b8 q3 q5 q7 q8 r : Nat} {x e y f g : Int} {a : Option Addr} (h : BelB w0 W b3 b5 b7 b8 q3 q5 q7 q8 x e y f) (hr : BlkT W r 34 #[.pointer a, .int .i64 g]) (h3 : b3 < r ∧ b5 < r ∧ b7 < r ∧ b8 < r) (h0 : w0.heap.size ≤ r) (x0 x1 : Value) :
    BelB w0 ((W.setCell ⟨r, 0, none⟩ x0).setCell ⟨r, 1, none⟩ x1) b3 b5 b7 b8 q3 q5 q7 q8 x e y f :=
  ⟨h.x.st2 hr (by omega) _ _, h.y.st2 hr (by omega) _ _, h.u.st2 hr (by omega) _ _, h.o.st2 hr (by omega) _ _, (h.below.setCell h0 _).setCell h0 _⟩

set_option maxRecDepth 100000 in
set_option maxHeartbeats 4000000 in
theorem below_any (q3 q5 : Nat) (x e n y f : Int) (w : World) (hx : RInt w q3 x) (hy : RInt w q5 y) (hxb : bl x.natAbs ≤ 100000) (hyb : bl y.natAbs ≤ 100000) (he : -100000 ≤ e ∧ e ≤ 100000) (hf : -100000 ≤ f ∧ f ≤ 100000) (hn : 0 ≤ n ∧ n ≤ 4096) :
    Calls Tryz.prog 73 #[ExV q3 e, .int .i64 n, ExV q5 f] w (Gives (.bool (decide ((belP x e n y f).sign ≤ 0))) w) := by
  have HX := Lib.hid hx
  have HY := Lib.hid hy
  have hbn : bl n.natAbs ≤ 13 := bl_le_of_lt (by omega)
  have HNU := Lib.hid fun p q W (h1 : RInt W p n) (h2 : RInt W q 1) => rMulX_any p q n 0 1 (-53) W h1 h2 (by omega) (by decide) (by decide) (by decide) (by decide) (by decide)
  have HON := Lib.hid fun p q W (h1 : RInt W p 1) (h2 : RInt W q (-(n * 1))) => rAddX_any p q 1 0 (-(n * 1)) (0 + -53) W h1 h2 (by decide) (by rw [Int.natAbs_neg, Int.mul_one]; omega) (by decide) (by decide) (by decide) (by decide)
  have b1 := bl_plZ (z := 1) (e := 0) (y := -(n * 1)) (f := 0 + -53)
  rw [Int.natAbs_neg, Int.mul_one, show bl (1 : Int).natAbs = 1 by decide] at b1
  have b2 := plE_bd (z := 1) (e := 0) (y := -(n * 1)) (f := 0 + -53) (by omega) (by omega) (by omega) (by omega)
  have HXO := Lib.hid fun p q W (h1 : RInt W p x) (h2 : RInt W q (plZ 1 0 (-(n * 1)) (0 + -53))) => rMulX_any p q x e (plZ 1 0 (-(n * 1)) (0 + -53)) (plE 1 0 (-(n * 1)) (0 + -53)) W h1 h2 (by omega) (by rw [Int.mul_one]; omega) (by omega) (by omega) (by omega) (by omega)
  have HNY := Lib.hid fun p q W (h1 : RInt W p (n * 1)) (h2 : RInt W q y) => rMulX_any p q (n * 1) (0 + -53) y f W h1 h2 (by rw [Int.mul_one]; omega) (by omega) (by omega) (by omega) (by omega) (by omega)
  have b3 := bl_mul x.natAbs (plZ 1 0 (-(n * 1)) (0 + -53)).natAbs
  have b4 := bl_mul (n * 1).natAbs y.natAbs
  rw [← Int.natAbs_mul] at b3 b4
  rw [Int.mul_one] at b3 b4
  have HCM := Lib.hid fun p q W (h1 : RInt W p (x * plZ 1 0 (-(n * 1)) (0 + -53))) (h2 : RInt W q (n * 1 * y)) => rCmpX_any p q (x * plZ 1 0 (-(n * 1)) (0 + -53)) (e + plE 1 0 (-(n * 1)) (0 + -53)) (n * 1 * y) (0 + -53 + f) W h1 h2 (by rw [Int.mul_one]; omega) (by rw [Int.mul_one]; omega) (by omega) (by omega) (by omega) (by omega)
  have HBP : Hid (belP x e n y f = plZ (x * plZ 1 0 (-(n * 1)) (0 + -53)) (e + plE 1 0 (-(n * 1)) (0 + -53)) (-(n * 1 * y)) (0 + -53 + f)) := Lib.hid rfl
  rw [← HBP.out] at HCM
  have HNN : Hid (-9223372036854775808 ≤ n ∧ n ≤ 9223372036854775807) := Lib.hid ⟨by omega, by omega⟩
  clear b1 b2 b3 b4 hbn hn hx hy hxb hyb he hf HBP
  obtain ⟨nu, hnu⟩ : ∃ z, n * 1 = z := ⟨_, rfl⟩
  obtain ⟨eu, heu⟩ : ∃ z, (0 : Int) + -53 = z := ⟨_, rfl⟩
  rw [hnu] at HNU HON HXO HNY HCM
  rw [heu] at HNU HON HXO HNY HCM
  clear hnu heu
  generalize plZ 1 0 (-nu) eu = po at *
  generalize plE 1 0 (-nu) eu = ep at *
  obtain ⟨xo, hxo⟩ : ∃ z, x * po = z := ⟨_, rfl⟩
  obtain ⟨exo, hexo⟩ : ∃ z, e + ep = z := ⟨_, rfl⟩
  obtain ⟨ny, hny⟩ : ∃ z, nu * y = z := ⟨_, rfl⟩
  obtain ⟨eny, heny⟩ : ∃ z, eu + f = z := ⟨_, rfl⟩
  rw [hxo, hexo] at HXO HCM
  rw [hny, heny] at HNY HCM
  clear hxo hexo hny heny
  generalize (belP x e n y f).sign = cg at *
  obtain ⟨rr, hrr⟩ : ∃ b, decide (cg ≤ 0) = b := ⟨_, rfl⟩
  rw [hrr]
  have HB0 : Hid (XB0 ((w.alloc (.cells #[.pointer (some ⟨q3, 0, none⟩), .int .i64 e] 34)).alloc (.cells #[.pointer (some ⟨q5, 0, none⟩), .int .i64 f] 34)) w.heap.size q3 x e ∧ XB0 ((w.alloc (.cells #[.pointer (some ⟨q3, 0, none⟩), .int .i64 e] 34)).alloc (.cells #[.pointer (some ⟨q5, 0, none⟩), .int .i64 f] 34)) (w.heap.size + 1) q5 y f ∧ Below w.heap.size w ((w.alloc (.cells #[.pointer (some ⟨q3, 0, none⟩), .int .i64 e] 34)).alloc (.cells #[.pointer (some ⟨q5, 0, none⟩), .int .i64 f] 34))) :=
    Lib.hid ⟨⟨(BlkT.new w _ _).alloc _, HX.out.below (below2 _ _ _)⟩, ⟨BlkT.new1 w _ _ _, HY.out.below (below2 _ _ _)⟩, below2 _ _ _⟩
  unfold ExV
  go_enter Tryz.func73, Tryz.ntmps73
  go_wp2_with fail
  refine (rPower_any (-53) _).mono ?_
  rintro e1 w1 ⟨q7, rfl, -, hi7, hb7⟩
  have HB1 : Hid (XB0 (w1.alloc (.cells #[.pointer (some ⟨q7, 0, none⟩), .int .i64 (-53)] 34)) w.heap.size q3 x e ∧ XB0 (w1.alloc (.cells #[.pointer (some ⟨q7, 0, none⟩), .int .i64 (-53)] 34)) (w.heap.size + 1) q5 y f ∧ XB0 (w1.alloc (.cells #[.pointer (some ⟨q7, 0, none⟩), .int .i64 (-53)] 34)) w1.heap.size q7 1 (-53) ∧ Below w.heap.size w (w1.alloc (.cells #[.pointer (some ⟨q7, 0, none⟩), .int .i64 (-53)] 34)) ∧ w.heap.size + 1 < w1.heap.size) :=
    Lib.hid ⟨(HB0.out.1.below hb7).below (Below.alloc_self _ _), (HB0.out.2.1.below hb7).below (Below.alloc_self _ _), XB0.new hi7, (HB0.out.2.2.trans (hb7.mono HB0.out.2.2.size)).trans ((Below.alloc_self _ _).mono (Nat.le_trans HB0.out.2.2.size hb7.size)), by have := HB0.out.2.1.1.lt; have := hb7.size; omega⟩
  clear hi7 hb7 HB0
  unfold ExV
  go_wp2_with fail
  refine (rWhole_any 1 _ (by decide) (by decide)).mono ?_
  rintro e2 w2 ⟨q8, rfl, -, hi8, hb8⟩
  have HW : Hid (BelB w (w2.alloc (.cells #[.pointer (some ⟨q8, 0, none⟩), .int .i64 0] 34)) w.heap.size (w.heap.size + 1) w1.heap.size w2.heap.size q3 q5 q7 q8 x e y f) :=
    Lib.hid ⟨(HB1.out.1.below hb8).below (Below.alloc_self _ _), (HB1.out.2.1.below hb8).below (Below.alloc_self _ _), (HB1.out.2.2.1.below hb8).below (Below.alloc_self _ _), XB0.new hi8, (HB1.out.2.2.2.1.trans (hb8.mono HB1.out.2.2.2.1.size)).trans ((Below.alloc_self _ _).mono (Nat.le_trans HB1.out.2.2.2.1.size hb8.size))⟩
  clear hi8 hb8 HB1
  unfold ExV
  go_wp2
  obtain ⟨b7, hb7⟩ : ∃ i, w1.heap.size = i := ⟨_, rfl⟩
  obtain ⟨b8, hb8⟩ : ∃ i, w2.heap.size = i := ⟨_, rfl⟩
  rw [hb7, hb8] at HW
  try rw [hb7]
  try rw [hb8]
  generalize w2.alloc (.cells #[.pointer (some ⟨q8, 0, none⟩), .int .i64 0] 34) = W2 at HW ⊢
  clear hb7 hb8
  refine wp_region_q (fun w' : World => w'.cell? ⟨b7, 0, none⟩ = some (.pointer (some ⟨q7, 0, none⟩)) ∧ w'.cell? ⟨b7, 1, none⟩ = some (.int .i64 (-53))) 5 (.take 0 (.take 2 (.bag [(1, 13, []), (3, 15, []), (4, 9, [])] .nil))) (by kernel_rfl) (by kernel_rfl) ?_
  replace HW := Lib.hid (HW.out.later (drew_below _))
  generalize World.drew _ = W3 at HW ⊢
  obtain ⟨B0, hB0⟩ : ∃ i, W3.heap.size = i := ⟨_, rfl⟩
  have HSZ : Hid (SzLe W3 B0) := Lib.hid (Nat.le_of_eq hB0.symm)
  have HLB : Hid ((w.heap.size < B0 ∧ w.heap.size + 1 < B0 ∧ b7 < B0 ∧ b8 < B0) ∧ w.heap.size ≤ B0) := Lib.hid (by rw [← hB0]; exact ⟨⟨HW.out.x.1.lt, HW.out.y.1.lt, HW.out.u.1.lt, HW.out.o.1.lt⟩, HW.out.below.size⟩)
  clear hB0
  have hS : (fun w' : World => w'.cell? ⟨b7, 0, none⟩ = some (.pointer (some ⟨q7, 0, none⟩)) ∧ w'.cell? ⟨b7, 1, none⟩ = some (.int .i64 (-53))) W3 := ⟨HW.out.u.1.cell 0, HW.out.u.1.cell 1⟩
  repeat (refine wpPq_takeL (v := ?_) rfl rfl (fun _ _ _ h => h) rfl (fun w' hSw => ?_) hS ?_; rotate_left; (focus (go_simp; with_reducible rfl)); simp only [List.setIfInBounds_toArray, List.set_cons_zero, List.set_cons_succ])
  clear hS
  refine wpPq_bag (pick [(1, fun v w' => ∃ p, v = ExV p 0 ∧ RInt w' p n), (3, fun v w' => ∃ p, v = ExV p eu ∧ RInt w' p nu), (4, fun v w' => ∃ r, v = .pointer (some ⟨r, 0, none⟩) ∧ B0 ≤ r ∧ BlkT w' r 34 #[.pointer none, .int .i64 0])]) (pick_mono (bag_cons (fun v w1 w2 ⟨p1, hv1, hi1⟩ hb => ⟨p1, hv1, hi1.below hb⟩) (bag_cons (fun v w1 w2 ⟨p3, hv3, hi3⟩ hb => ⟨p3, hv3, hi3.below hb⟩) (bag_cons (fun v w1 w2 ⟨r4, hv4, hl4, hB4⟩ hb => ⟨r4, hv4, hl4, hB4.below hb⟩) bag_nil)))) (fun w' hb => ⟨(HW.out.later hb).u.1.cell 0, (HW.out.later hb).u.1.cell 1⟩) (by simp [prE]) (fun _ _ _ _ _ h => h) (bag_cons (bag_one rfl ?_) (bag_cons (bag_one rfl ?_) (bag_cons (bag_one rfl ?_) bag_nil))) bag_nil ?_
  · intro a' V hdf hin hdep hb1 K hK
    have i12 : a'.tmps[12]?.getD undef = .int .i64 n := evT (hin 12 (by decide))
    clear hin hdep hdf
    have HW := Lib.hid (HW.out.later hb1)
    have HSZ := Lib.hid (HSZ.out.below hb1)
    go_simp
    refine (rWhole_any n _ HNN.out.1 HNN.out.2).mono ?_
    rintro e1 V2 ⟨p, rfl, -, hi, hb2⟩
    exact hK _ _ ⟨p, rfl, hi⟩ hb2
  · intro a' V hdf hin hdep hb1 K hK
    have i14 : a'.tmps[14]?.getD undef = ExV q7 (-53) := evT (hin 14 (by decide))
    obtain ⟨p1, hv1, hi1⟩ : (fun (v : Value) (w' : World) => ∃ p, v = ExV p 0 ∧ RInt w' p n) (a'.tmps.getD 13 undef) V := hdep ⟨1, .data⟩ (by simp) rfl 13 (by decide)
    replace hv1 := evT hv1
    clear hin hdep hdf
    have HW := Lib.hid (HW.out.later hb1)
    have HSZ := Lib.hid (HSZ.out.below hb1)
    simp only [ExV] at hv1
    go_simp
    refine (HNU.out _ _ _ hi1 HW.out.u.2).mono ?_
    rintro e1 V2 ⟨p, rfl, -, hi, hb2⟩
    exact hK _ _ ⟨p, rfl, hi⟩ hb2
  · intro a' V hdf hin hdep hb1 K hK
    clear hin hdep hdf
    have HW := Lib.hid (HW.out.later hb1)
    have HSZ := Lib.hid (HSZ.out.below hb1)
    go_simp
    exact hK _ _ ⟨_, rfl, HSZ.out, BlkT.new V _ _⟩ (Below.alloc_self _ _)
  intro vals B1 hb1 hR
  replace HW := Lib.hid (HW.out.later hb1)
  replace HSZ := Lib.hid (HSZ.out.below hb1)
  obtain ⟨p1, hv1, hi1⟩ : (fun (v : Value) (w' : World) => ∃ p, v = ExV p 0 ∧ RInt w' p n) (vals 1) B1 := hR (1, 13) (by decide)
  obtain ⟨p3, hv3, hi3⟩ : (fun (v : Value) (w' : World) => ∃ p, v = ExV p eu ∧ RInt w' p nu) (vals 3) B1 := hR (3, 15) (by decide)
  obtain ⟨r4, hv4, hl4, hB4⟩ : (fun (v : Value) (w' : World) => ∃ r, v = .pointer (some ⟨r, 0, none⟩) ∧ B0 ≤ r ∧ BlkT w' r 34 #[.pointer none, .int .i64 0]) (vals 4) B1 := hR (4, 9) (by decide)
  clear hb1 hR
  simp only [prE, List.flatMap_cons, List.flatMap_nil, List.cons_append, List.nil_append, List.append_nil, setD, List.setIfInBounds_toArray, List.set_cons_zero, List.set_cons_succ, hv1, hv3, hv4]
  clear vals hv1 hv3 hv4
  refine wpPq_nil ?_
  simp only [List.drop_succ_cons, List.drop_zero]
  skip
  have HLT : Hid ((w.heap.size < r4 ∧ w.heap.size + 1 < r4 ∧ b7 < r4 ∧ b8 < r4) ∧ w.heap.size ≤ r4) := Lib.hid (by have := HLB.out; omega)
  have HST := Lib.hid (And.intro (HW.out.st2 hB4 HLT.out.1 HLT.out.2 (.pointer (some ⟨p3, 0, none⟩)) (.int .i64 eu)) (XB0.put (e := eu) hi3 hB4))
  obtain ⟨t0, t1, t2, t3⟩ := hB4.cells2
  clear hi1 hi3 hl4 HW HSZ HLB HLT hB4
  unfold ExV
  go_wp2
  generalize (B1.setCell ⟨r4, 0, none⟩ (.pointer (some ⟨p3, 0, none⟩))).setCell ⟨r4, 1, none⟩ (.int .i64 eu) = W4 at HST ⊢
  have HW := Lib.hid HST.out.1
  have HU := Lib.hid HST.out.2
  clear HST t0 t1 t2 t3
  refine wp_region_pl (fun w' : World => ((((((w'.cell? ⟨w.heap.size, 0, none⟩ = some (.pointer (some ⟨q3, 0, none⟩)) ∧ w'.cell? ⟨w.heap.size, 1, none⟩ = some (.int .i64 e)) ∧ w'.cell? ⟨b8, 0, none⟩ = some (.pointer (some ⟨q8, 0, none⟩))) ∧ w'.cell? ⟨b8, 1, none⟩ = some (.int .i64 0)) ∧ w'.cell? ⟨r4, 0, none⟩ = some (.pointer (some ⟨p3, 0, none⟩))) ∧ w'.cell? ⟨r4, 1, none⟩ = some (.int .i64 eu)) ∧ w'.cell? ⟨w.heap.size + 1, 0, none⟩ = some (.pointer (some ⟨q5, 0, none⟩))) ∧ w'.cell? ⟨w.heap.size + 1, 1, none⟩ = some (.int .i64 f)) 8 (.take 0 (.take 1 (.take 2 (.take 6 (.take 7 (.run 3 (.run 4 (.run 5 .nil)))))))) (by kernel_rfl) (by kernel_rfl) ?_
  replace HW := Lib.hid (HW.out.later (drew_below _))
  replace HU := Lib.hid (HU.out.below (drew_below _))
  generalize World.drew _ = W5 at HW HU ⊢
  have hS : (fun w' : World => ((((((w'.cell? ⟨w.heap.size, 0, none⟩ = some (.pointer (some ⟨q3, 0, none⟩)) ∧ w'.cell? ⟨w.heap.size, 1, none⟩ = some (.int .i64 e)) ∧ w'.cell? ⟨b8, 0, none⟩ = some (.pointer (some ⟨q8, 0, none⟩))) ∧ w'.cell? ⟨b8, 1, none⟩ = some (.int .i64 0)) ∧ w'.cell? ⟨r4, 0, none⟩ = some (.pointer (some ⟨p3, 0, none⟩))) ∧ w'.cell? ⟨r4, 1, none⟩ = some (.int .i64 eu)) ∧ w'.cell? ⟨w.heap.size + 1, 0, none⟩ = some (.pointer (some ⟨q5, 0, none⟩))) ∧ w'.cell? ⟨w.heap.size + 1, 1, none⟩ = some (.int .i64 f)) W5 := ⟨⟨⟨⟨⟨⟨⟨HW.out.x.1.cell 0, HW.out.x.1.cell 1⟩, HW.out.o.1.cell 0⟩, HW.out.o.1.cell 1⟩, HU.out.1.cell 0⟩, HU.out.1.cell 1⟩, HW.out.y.1.cell 0⟩, HW.out.y.1.cell 1⟩
  repeat (refine wpPl_takeL (v := ?_) rfl rfl (fun _ _ _ h => h) rfl (fun w' hSw => ?_) hS ?_; rotate_left; (focus (go_simp; with_reducible rfl)); simp only [List.setIfInBounds_toArray, List.set_cons_zero, List.set_cons_succ])
  clear hS
  refine wpPl_goL rfl rfl fun K' hK => ?_
  go_simp
  refine (rNegX_any _ _ _ _ HU.out.2).mono ?_
  rintro e1 V1 ⟨pa, rfl, -, hi, hb1⟩
  have HA3 := Lib.hid hi
  clear hi
  unfold ExV
  replace HW := Lib.hid (HW.out.later hb1)
  replace HU := Lib.hid (HU.out.below hb1)
  refine hK _ _ ⟨⟨⟨⟨⟨⟨⟨HW.out.x.1.cell 0, HW.out.x.1.cell 1⟩, HW.out.o.1.cell 0⟩, HW.out.o.1.cell 1⟩, HU.out.1.cell 0⟩, HU.out.1.cell 1⟩, HW.out.y.1.cell 0⟩, HW.out.y.1.cell 1⟩ ?_
  clear hK K' hb1
  refine wpPl_goL rfl rfl fun K' hK => ?_
  go_simp
  refine (HON.out _ _ _ HW.out.o.2 HA3.out).mono ?_
  rintro e1 V2 ⟨pb, rfl, hi, hb1⟩
  have HA4 := Lib.hid hi
  clear hi
  unfold ExV
  replace HW := Lib.hid (HW.out.later hb1)
  replace HU := Lib.hid (HU.out.below hb1)
  replace HA3 := Lib.hid (HA3.out.below hb1)
  refine hK _ _ ⟨⟨⟨⟨⟨⟨⟨HW.out.x.1.cell 0, HW.out.x.1.cell 1⟩, HW.out.o.1.cell 0⟩, HW.out.o.1.cell 1⟩, HU.out.1.cell 0⟩, HU.out.1.cell 1⟩, HW.out.y.1.cell 0⟩, HW.out.y.1.cell 1⟩ ?_
  clear hK K' hb1
  refine wpPl_goL rfl rfl fun K' hK => ?_
  go_simp
  refine (HXO.out _ _ _ HW.out.x.2 HA4.out).mono ?_
  rintro e1 V3 ⟨pc, rfl, -, hi, hb1⟩
  have HA5 := Lib.hid hi
  clear hi
  unfold ExV
  replace HW := Lib.hid (HW.out.later hb1)
  replace HU := Lib.hid (HU.out.below hb1)
  replace HA3 := Lib.hid (HA3.out.below hb1)
  replace HA4 := Lib.hid (HA4.out.below hb1)
  refine hK _ _ ⟨⟨⟨⟨⟨⟨⟨HW.out.x.1.cell 0, HW.out.x.1.cell 1⟩, HW.out.o.1.cell 0⟩, HW.out.o.1.cell 1⟩, HU.out.1.cell 0⟩, HU.out.1.cell 1⟩, HW.out.y.1.cell 0⟩, HW.out.y.1.cell 1⟩ ?_
  clear hK K' hb1
  refine wpPl_nil ?_
  simp only [List.drop_succ_cons, List.drop_zero]
  skip
  go_wp2_with fail
  refine (HNY.out _ _ _ HU.out.2 HW.out.y.2).mono ?_
  rintro e8 w8 ⟨pd, rfl, -, hi8, hb8⟩
  have HA8 := Lib.hid hi8
  replace HA5 := Lib.hid (HA5.out.below hb8)
  replace HW := Lib.hid (HW.out.later hb8)
  clear hi8 hb8
  unfold ExV
  go_wp2_with fail
  refine (HCM.out _ _ _ HA5.out HA8.out).mono ?_
  rintro e9 w9 ⟨rfl, hb9⟩
  have HBE := Lib.hid (HW.out.later hb9).below
  clear hb9
  go_wp2
  go_ret
  exact ⟨rfl, HBE.out⟩

end Go.Proofs.YtjoajbbapfgaoaaGreatDoor
