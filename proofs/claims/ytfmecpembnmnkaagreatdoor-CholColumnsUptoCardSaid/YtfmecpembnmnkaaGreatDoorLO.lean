/- Walks: the references' Inverse, chol.Inverse. Printed by wip/gen/ch34.py. -/
import Derived.Test.YtfmecpembnmnkaaGreatDoorLN
import Derived.Test.YtfmecpembnmnkaaGreatDoorLK
import Derived.Deep.CutRange
namespace Go.Proofs.YtfmecpembnmnkaaGreatDoor
open Go.RowKit
attribute [local go_sem] run_store_f
theorem sm_dim {r c s d : Int} {l m : List Nat} (h : smE r c l s d m = 0) : smN r c l s d m = s ∧ smK r c l s d m = d := ⟨if_pos h, if_pos h⟩
theorem ChB.upd {w0 W V : World} {r c : Int} {sl : Value} {b : Nat} (h : ChB w0 W r c sl) (hu : Upd b W V) (hb : b < W.heap.size) (hn : w0.heap.size + 1 < b) : ChB w0 V r c sl := h.of_mod (SmR.below_of hu hb) hn
theorem sm_place {r c s d : Int} {l m : List Nat} (h : smE r c l s d m = 0) : smP r c l s d m = 0 := by
 unfold smE at h
 unfold smP
 by_cases h0 : evnB r c l = 0
 ·rw [if_neg (fun t => t h0)] at h ⊢
  by_cases h1 : chkB s d m = 0
  ·rw [if_neg (fun t => t h1)] at h ⊢
   by_cases h2 : s = r
   ·rw [if_neg (fun t => t h2)] at h ⊢
    by_cases h3 : cholE r c l = 0
    ·exact chol_place h3
    ·rw [if_pos h3] at h; exact absurd h h3
   ·rw [if_pos h2]
  ·rw [if_pos h1]
 ·rw [if_pos h0]
theorem matR_good {n : Nat} (hn : n ≤ 12) {X : Nat → Nat → Fo} (hX : ∀ i j, finO (X i j) = true) : evnB n n (matR n n X) = 0 := by
 have h1 : chkB n n (matR n n X) = 0 := by
  unfold chkB
  rw [if_pos (by omega), if_pos (by rw [show (matR n n X).length = n * n by simp [matR], Int.natCast_mul]), if_pos]
  rw [List.all_eq_true]
  intro x hx
  unfold matR at hx
  simp only [List.mem_map, List.mem_range] at hx
  obtain ⟨p, -, rfl⟩ := hx
  have h := hX (p / n) (p % n)
  cases e : X (p / n) (p % n) with
  | none => rw [e] at h; cases h
  | some v => rw [e] at h; exact h
 unfold evnB
 rw [if_neg (fun t => t h1), if_pos rfl]
set_option maxRecDepth 100000 in
set_option maxHeartbeats 6400000 in
theorem cinv_any (r c : Int) (sl : Value) (l : List Nat) (w : World) (hl : FSl w sl l) :
  Calls Tryz.prog 35 #[MatV r c sl] w (ChA (invE r c l) (invP r c l) (invN r c l) (invL r c l) w) := by
 have HB := Lib.hid (ChB.new w r c sl)
 have HSQ := Lib.hid (csquare_any r c sl l _ (hl.below (below2 w (.cells #[.int .i64 r, .int .i64 c, sl] 25) (.cells #[.int .i64 0, .int .i64 0, .slice none 0 0] 25))))
 by_cases h0 : sqrB r c l = 0
 ·obtain ⟨n, rfl, rfl, hq, -⟩ := sqr_zero h0
  have hev := hq.evn
  obtain ⟨e1, e2, hOK⟩ := inv_ok hev
  have hn := hq.hn
  have HSM := Lib.hid fun tl W (hb : Below w.heap.size w W) (hU : FSl W tl (unitL n)) => csolveMat_any n n sl l n n tl (unitL n) W (hl.below hb) hU
  have HDM := Lib.hid fun h => sm_dim (r := n) (c := n) (l := l) (s := n) (d := n) (m := unitL n) h
  have HP0 := Lib.hid fun h => sm_place (r := n) (c := n) (l := l) (s := n) (d := n) (m := unitL n) h
  have HEY := Lib.hid fun W => Eye_any n hn W
  have HMR := Lib.hid fun u (X : Nat → Nat → Fo) W (h1 : FSl W u (matR n n X)) (hX : ∀ i j, finO (X i j) = true) => Mirror_any n u (matR n n X) W h1 (matR_good hn hX) hn (by simp [matR]) X rfl hX
  rw [e1, e2]
  rw [h0] at HSQ
  generalize smE n n l n n (unitL n) = E at *
  generalize smP n n l n n (unitL n) = P at *
  generalize smN n n l n n (unitL n) = Nn at *
  generalize smK n n l n n (unitL n) = Kk at *
  generalize smL n n l n n (unitL n) = Q at *
  have HOK := Lib.hid hOK
  generalize invN n n l = iN at *
  generalize invL n n l = iL at *
  generalize unitL n = U at *
  clear e1 e2 hOK h0 hev hq hl
  obtain ⟨⟨m0, m1, m2⟩, ⟨q0, q1, q2⟩, f0, f1, f2⟩ := HB.out.cells
  go_enter Tryz.func35, Tryz.ntmps35
  go_wp2_with fail
  refine HSQ.out.mono ?_
  rintro e1 w1 ⟨rfl, hb1⟩
  replace HB := Lib.hid (HB.out.later hb1)
  clear hb1 HSQ
  clear m0 m1 m2 q0 q1 q2 f0 f1 f2
  obtain ⟨⟨m0, m1, m2⟩, ⟨q0, q1, q2⟩, f0, f1, f2⟩ := HB.out.cells
  go_wp2_with fail
  refine (HEY.out _).mono ?_
  rintro e2 w2 ⟨u, rfl, hu, hb1⟩
  obtain ⟨ul, hul⟩ : ∃ ul, ul = u := ⟨_, rfl⟩
  obtain ⟨uo, uc, hue, -⟩ := id hu
  generalize List.length _ = un at hue
  subst hul
  subst hue
  replace HB := Lib.hid (HB.out.later hb1)
  have HU := Lib.hid hu
  clear hb1 hu HEY
  clear m0 m1 m2 q0 q1 q2 f0 f1 f2
  go_upto_region 5 with fail
  have HOB : Hid (BlkT (w2.alloc (.cells #[.int .i64 n, .int .i64 n, .slice uo un uc] 25)) w2.heap.size 25 #[.int .i64 n, .int .i64 n, .slice uo un uc]) := Lib.hid (BlkT.new w2 _ _)
  have HB2 := Below.alloc_self w2 (.cells #[.int .i64 n, .int .i64 n, .slice uo un uc] 25)
  replace HB := Lib.hid (HB.out.later HB2)
  replace HU := Lib.hid (HU.out.below HB2)
  clear HB2
  obtain ⟨ob, hob⟩ : ∃ b, w2.heap.size = b := ⟨_, rfl⟩
  rw [hob] at HOB ⊢
  generalize World.alloc w2 _ = W2 at *
  clear hob
  obtain ⟨⟨m0, m1, m2⟩, ⟨q0, q1, q2⟩, f0, f1, f2⟩ := HB.out.cells
  obtain ⟨o0, o1, o2, -⟩ := HOB.out.cells3
  go_wp2_with fail
  refine (HSM.out _ _ HB.out.b HU.out).mono ?_
  rintro e3 w3 ⟨x, rfl, hx, hfr, hb1, hz⟩
  obtain ⟨xl, hxl⟩ : ∃ xl, xl = x := ⟨_, rfl⟩
  obtain ⟨xo, xc, hxe, -⟩ := id hx
  generalize List.length _ = xn at hxe
  subst hxl
  subst hxe
  have HSZ := Lib.hid HB.out.q.lt
  replace HB := Lib.hid (HB.out.later hb1)
  have HX := Lib.hid hx
  have HZ : Hid (E = 0 → ∃ X : Nat → Nat → Fo, Q = matR n n X ∧ ∀ i j, finO (X i j) = true) := Lib.hid fun h => by
   obtain ⟨g, n2, k2, vs, X, a1, a2, -, -, -, a6, a7⟩ := hz h
   obtain ⟨b1, b2⟩ := HDM.out h
   obtain rfl : n2 = n := by omega
   obtain rfl : k2 = n2 := by omega
   exact ⟨X, a6, a7⟩
  clear hb1 hx hz hfr o0 o1 o2 HOB HU HSM
  clear m0 m1 m2 q0 q1 q2 f0 f1 f2
  go_upto_region 6 with fail
  have HXB : Hid (BlkT (w3.alloc (.cells #[.int .i64 Nn, .int .i64 Kk, .slice xo xn xc] 25)) w3.heap.size 25 #[.int .i64 Nn, .int .i64 Kk, .slice xo xn xc]) := Lib.hid (BlkT.new w3 _ _)
  have HB2 := Below.alloc_self w3 (.cells #[.int .i64 Nn, .int .i64 Kk, .slice xo xn xc] 25)
  have HXL : Hid (w.heap.size + 1 < w3.heap.size) := Lib.hid HB.out.q.lt
  replace HB := Lib.hid (HB.out.later HB2)
  replace HX := Lib.hid (HX.out.below HB2)
  clear HB2
  obtain ⟨xb, hxb⟩ : ∃ b, w3.heap.size = b := ⟨_, rfl⟩
  rw [hxb] at HXB HXL ⊢
  generalize World.alloc w3 _ = W3 at *
  clear hxb
  obtain ⟨⟨m0, m1, m2⟩, ⟨q0, q1, q2⟩, f0, f1, f2⟩ := HB.out.cells
  by_cases hE : E = 0
  ·obtain ⟨X, rfl, hXf⟩ := HZ.out hE
   obtain ⟨b1, b2⟩ := HDM.out hE
   obtain ⟨rfl, rfl⟩ := HOK.out.2 hE
   have hP : P = 0 := HP0.out hE
   subst hP
   subst b1
   subst b2
   subst hE
   have HMI := Lib.hid fun W (h : FSl W (.slice xo xn xc) (matR n n X)) => HMR.out _ X W h hXf
   generalize mirL n (matR n n X) = R at *
   clear HMR HZ HOK HDM hXf HP0
   obtain ⟨x0, x1, x2, -⟩ := HXB.out.cells3
   have z0 := HXB.out.frozen 0
   have z1 := HXB.out.frozen 1
   have z2 := HXB.out.frozen 2
   go_wp2_with fail
   refine (HMI.out _ HX.out).mono ?_
   rintro e8 w8 ⟨v, rfl, hv, hvn, hb8⟩
   obtain ⟨vl, hvl⟩ : ∃ vl, vl = v := ⟨_, rfl⟩
   obtain ⟨vo, vc, hve, -⟩ := id hv
   generalize List.length _ = vn at hve
   subst hvl
   subst hve
   have HVB : Hid (∀ a c d, (Value.slice vo vn vc) = .slice (some a) c d → xb < a.block ∧ w.heap.size + 1 < a.block) := Lib.hid fun a c d e => by have h1 := hvn a c d e; have h2 := HXB.out.lt; have h3 := HB.out.q.lt; omega
   replace HB := Lib.hid (HB.out.later hb8)
   replace HXB := Lib.hid (HXB.out.below hb8)
   have HV := Lib.hid hv
   clear hv hvn hb8 x0 x1 x2 z0 z1 z2 HX HMI
   clear m0 m1 m2 q0 q1 q2 f0 f1 f2
   obtain ⟨x0, x1, x2, -⟩ := HXB.out.cells3
   have z0 := HXB.out.frozen 0
   have z1 := HXB.out.frozen 1
   have z2 := HXB.out.frozen 2
   go_upto_region 9 with fail
   clear x0 x1 x2 z0 z1 z2
   have HUP : Hid (Upd xb w8 (((w8.setCell ⟨xb, 0, none⟩ (.int .i64 n)).setCell ⟨xb, 1, none⟩ (.int .i64 n)).setCell ⟨xb, 2, none⟩ (.slice vo vn vc))) := Lib.hid (Upd.set3 _ _ _)
   replace HB := Lib.hid (HB.out.upd HUP.out HXB.out.lt HXL.out)
   replace HXB := Lib.hid (BlkT.set3 (.int .i64 n) (.int .i64 n) (.slice vo vn vc) HXB.out)
   replace HV := Lib.hid (HV.out.upd_lt (fun a c d e => (HVB.out a c d e).1) HUP.out)
   clear HUP
   generalize World.setCell (World.setCell (World.setCell w8 _ _) _ _) _ _ = W8 at *
   obtain ⟨x0, x1, x2, -⟩ := HXB.out.cells3
   obtain ⟨⟨m0, m1, m2⟩, ⟨q0, q1, q2⟩, f0, f1, f2⟩ := HB.out.cells
   have HFI : Hid (∀ a b c, FSl (((W8.setCell ⟨w.heap.size + 1, 0, none⟩ a).setCell ⟨w.heap.size + 1, 1, none⟩ b).setCell ⟨w.heap.size + 1, 2, none⟩ c) (.slice vo vn vc) R ∧ Below w.heap.size w (((W8.setCell ⟨w.heap.size + 1, 0, none⟩ a).setCell ⟨w.heap.size + 1, 1, none⟩ b).setCell ⟨w.heap.size + 1, 2, none⟩ c)) := Lib.hid fun a b c => ⟨HV.out.upd_lt (fun a c d e => (HVB.out a c d e).2) (Upd.set3 _ _ _), below_three HB.out.b _ (Nat.le_succ _) _ _ _⟩
   clear HXB HV HB
   go_wp2
   exact bodyPost_ret (v := .tuple #[MatV n n (.slice vo vn vc), .int .i64 0, .int .i64 0]) (by simp [results, Tryz.results35, go_sem, q0, q1, q2]) rfl ⟨_, rfl, (HFI.out _ _ _).1, (fun a c d e => by have := (HVB.out a c d e).2; omega), (HFI.out _ _ _).2⟩
  ·obtain ⟨rfl, rfl⟩ := HOK.out.1 hE
   have hp : (E == 0) = false := beq_eq_false_iff_ne.2 hE
   clear HZ HOK HDM HX HXB HMR
   go_wp2
   exact bodyPost_ret (v := .tuple #[MatV 0 0 (.slice none 0 0), .int .i64 P, .int .i64 E]) (by simp [results, Tryz.results35, go_sem, q0, q1, q2]) rfl HB.out.err
 ·obtain ⟨e1, e2, e3, e4⟩ := inv_sq h0
  rw [e1, e2, e3, e4]
  have hp := beq_eq_false_iff_ne.2 h0
  generalize sqrB r c l = k at *
  clear hl h0 e1 e2 e3 e4
  obtain ⟨⟨m0, m1, m2⟩, ⟨q0, q1, q2⟩, f0, f1, f2⟩ := HB.out.cells
  go_enter Tryz.func35, Tryz.ntmps35
  go_wp2_with fail
  refine HSQ.out.mono ?_
  rintro e1 w1 ⟨rfl, hb1⟩
  replace HB := Lib.hid (HB.out.later hb1)
  clear hb1 HSQ
  clear m0 m1 m2 q0 q1 q2 f0 f1 f2
  obtain ⟨⟨m0, m1, m2⟩, ⟨q0, q1, q2⟩, f0, f1, f2⟩ := HB.out.cells
  go_wp2
  exact bodyPost_ret (v := .tuple #[MatV 0 0 (.slice none 0 0), .int .i64 ((0 : Nat) : Int), .int .i64 k]) (by simp [results, Tryz.results35, go_sem, q0, q1, q2]) rfl HB.out.err
end Go.Proofs.YtfmecpembnmnkaaGreatDoor
