/- Walks: the references' zeroSum and Add of a format. Printed by wip/gen/cx3.py. -/
import Derived.Test.YtloohbkceppocaaGreatDoorKF
namespace Go.Proofs.YtloohbkceppocaaGreatDoor
section
open Go.RowKit
def AnsK (k : Int) (w : World) (e : Ending) (w' : World) : Prop := ∃ (R : Nat) (fl : Int), e = .returned (.tuple #[.int .u64 (R : Nat), .int .i64 fl]) ∧ W64 R ∧ nanB R = false ∧ ky R = k ∧ Below w.heap.size w w'
theorem nought_rok (neg : Bool) : W64 (joinB neg 0 0) ∧ nanB (joinB neg 0 0) = false ∧ ky (joinB neg 0 0) = 0 := by cases neg <;> decide
theorem infin_ok (neg : Bool) : W64 (joinB neg 2047 0) ∧ nanB (joinB neg 2047 0) = false ∧ ky (joinB neg 2047 0) = if neg then -(kInf : Int) else kInf := by cases neg <;> decide
def NoughtAny (w : World) (e : Ending) (w' : World) : Prop := ∃ neg : Bool, e = .returned (.int .u64 (joinB neg 0 0 : Nat)) ∧ Below w.heap.size w w'
theorem sum_place {x y : Nat} (fx : finB x = true) (fy : finB y = true) (mode : Int) :
  ∃ S m, addI (sgnB x) (mntB x) (xpnB x) (sgnB y) (mntB y) (xpnB y) = S ∧ min (xpnB x) (xpnB y) = m ∧ bl S.natAbs ≤ 1048576 ∧ -100000 ≤ m ∧ m ≤ 100000 ∧ ky (rndX S m mode) = adK x y mode := by
 have ex := xpn_bd fx
 have ey := xpn_bd fy
 have hb := bl_addI (na := sgnB x) (nb := sgnB y) (ea := xpnB x) (eb := xpnB y) (mnt_bd x) (mnt_bd y)
 obtain ⟨u1, u2⟩ := up_sum fx fy
 have hs : sc 1074 (addI (sgnB x) (mntB x) (xpnB x) (sgnB y) (mntB y) (xpnB y)) (min (xpnB x) (xpnB y)) = fI x + fI y := by
  rw [sc_addI (by omega) (by omega), sc_take fy (Int.le_refl _), sc_take fx (Int.le_refl _)]
  rfl
 refine ⟨_, _, rfl, rfl, by omega, by omega, by omega, ?_⟩
 exact ky_same (M := 1074) mode (by omega) (by omega) u1 (by rw [hs, u2])
theorem inf_place {x : Nat} (hx : W64 x) (n : nanB x = false) (f : finB x = false) : ky x = if sgnB x then -(kInf : Int) else kInf := by
 rw [ky_cases hx]
 have h1 := num_of n
 have h2 : x < 18446744073709551616 := hx
 have h3 : x % kSign = kInf := by
  unfold finB expF at f
  unfold kInf kSign kHid at *
  have := of_decide_eq_false f
  omega
 rw [h3]
set_option maxRecDepth 100000 in
set_option maxHeartbeats 3200000 in
theorem cZeroSum_any (one neg : Bool) (mode : Int) (w : World) : Calls Tryz.prog 110 #[fmtV, .bool one, .bool neg, .int .i64 mode] w (NoughtAny w) := by
 have HN := Lib.hid fun neg W => cNought_any neg W
 have HB := Lib.hid ((Bks.nil w).alloc #[.int .i64 53, .int .i64 (-1022), .int .i64 1023, .int .i64 11] 81)
 unfold fmtV at *
 cases one
 ·go_enter Tryz.func110, Tryz.ntmps110
  obtain ⟨⟨k0, k1, k2, k3⟩, -⟩ := (HB.out.get (.head _)).cells4
  go_wp2_with fail
  refine (HN.out _ _).mono ?_
  rintro e1 w1 ⟨rfl, hb1⟩
  replace HB := Lib.hid (HB.out.later hb1)
  clear hb1
  go_wp2
  go_ret
  exact ⟨_, rfl, HB.out.2⟩
 ·go_enter Tryz.func110, Tryz.ntmps110
  obtain ⟨⟨k0, k1, k2, k3⟩, -⟩ := (HB.out.get (.head _)).cells4
  go_wp2_with fail
  refine (HN.out _ _).mono ?_
  rintro e1 w1 ⟨rfl, hb1⟩
  replace HB := Lib.hid (HB.out.later hb1)
  clear hb1
  go_wp2
  go_ret
  exact ⟨_, rfl, HB.out.2⟩
theorem Bks.fmt_two {w0 W : World} {l : List (Nat × Nat × Array Value)} {c x y s t u : Nat} {a b d e a' b' d' e' f g h i : Value} (hh : Bks w0 W ((c, s, #[f, g, h, i]) :: (x, t, #[a, b, d, e]) :: (y, u, #[a', b', d', e']) :: l)) :
  (W.cell? ⟨c, 0, none⟩ = some f ∧ W.cell? ⟨c, 1, none⟩ = some g ∧ W.cell? ⟨c, 2, none⟩ = some h ∧ W.cell? ⟨c, 3, none⟩ = some i) ∧ (W.cell? ⟨x, 0, none⟩ = some a ∧ W.cell? ⟨x, 1, none⟩ = some b ∧ W.cell? ⟨x, 2, none⟩ = some d ∧ W.cell? ⟨x, 3, none⟩ = some e) ∧ W.cell? ⟨y, 0, none⟩ = some a' ∧ W.cell? ⟨y, 1, none⟩ = some b' ∧ W.cell? ⟨y, 2, none⟩ = some d' ∧ W.cell? ⟨y, 3, none⟩ = some e' :=
 ⟨(hh.get (.head _)).cells4.1, hh.ab4⟩
set_option maxRecDepth 100000 in
set_option maxHeartbeats 3200000 in
theorem cAdd_any (x y p q : Nat) (mode : Int) (w : World) (hx : W64 x) (hy : W64 y) (nx : nanB x = false) (ny : nanB y = false) (hop : finB x = false → finB y = false → sgnB x = sgnB y) (hmode : mode = 3 ∨ mode = 4) (hp : RInt w p (mntB x : Nat)) (hq : RInt w q (mntB y : Nat)) :
  Calls Tryz.prog 68 #[fmtV, NumV (kndB x) (sgnB x) p (xpnB x), NumV (kndB y) (sgnB y) q (xpnB y), .int .i64 mode] w (AnsK (suK x y mode) w) := by
 have HP := Lib.hid hp
 have HQ := Lib.hid hq
 have HIN := Lib.hid fun neg W => cInfinity_any neg W
 have HK := Lib.hid (Bks.new3 w 81 87 87 #[.int .i64 53, .int .i64 (-1022), .int .i64 1023, .int .i64 11] #[.int .i64 (kndB x), .bool (sgnB x), .pointer (some ⟨p, 0, none⟩), .int .i64 (xpnB x)] #[.int .i64 (kndB y), .bool (sgnB y), .pointer (some ⟨q, 0, none⟩), .int .i64 (xpnB y)])
 unfold suK
 cases fx : finB x
 ·rw [if_pos rfl]
  have HI := Lib.hid fun W => cInfinity_any (sgnB x) W
  have HJ := Lib.hid (infin_ok (sgnB x))
  rw [← inf_place hx nx fx] at HJ
  generalize ky x = KK at *
  generalize joinB (sgnB x) 2047 0 = JJ at *
  clear HIN
  have hk : kndB x = 1 := by unfold kndB; rw [fx]; rfl
  rw [hk] at HK ⊢
  clear hk
  unfold NumV fmtV at *
  generalize xpnB x = xpx at *
  generalize xpnB y = xpy at *
  cases fy : finB y
  ·have hk : kndB y = 1 := by unfold kndB; rw [fy]; rfl
   rw [hk] at HK ⊢
   have hsg := hop fx fy
   rw [← hsg] at HK ⊢
   clear hk hsg hop hx hy nx ny fx fy hmode hp hq HP HQ
   generalize sgnB x = s at *
   have hne : (s != s) = false := by cases s <;> rfl
   go_enter Tryz.func68, Tryz.ntmps68
   obtain ⟨⟨k0, k1, k2, k3⟩, -⟩ := (HK.out.get (.head _)).cells4
   obtain ⟨⟨c0, c1, c2, c3⟩, g0, g1, g2, g3⟩ := HK.out.ab4
   go_wp2_with fail
   refine (HI.out _).mono ?_
   rintro e1 w1 ⟨rfl, hb1⟩
   replace HK := Lib.hid (HK.out.later hb1)
   clear hb1
   clear k0 k1 k2 k3 c0 c1 c2 c3 g0 g1 g2 g3
   obtain ⟨⟨k0, k1, k2, k3⟩, -⟩ := (HK.out.get (.head _)).cells4
   obtain ⟨⟨c0, c1, c2, c3⟩, g0, g1, g2, g3⟩ := HK.out.ab4
   go_wp2
   refine bodyPost_ret (v := .tuple #[.int .u64 (JJ : Nat), .int .i64 0]) (by simp [results, Tryz.results68, go_sem]) rfl ⟨_, _, rfl, HJ.out.1, HJ.out.2.1, HJ.out.2.2, HK.out.2⟩
  ·have hk : kndB y = 0 := knd_fin fy
   rw [hk] at HK ⊢
   clear hk hop hx hy nx ny fx fy hmode hp hq HP HQ
   generalize sgnB x = s at *
   generalize sgnB y = s2 at *
   go_enter Tryz.func68, Tryz.ntmps68
   obtain ⟨⟨k0, k1, k2, k3⟩, -⟩ := (HK.out.get (.head _)).cells4
   obtain ⟨⟨c0, c1, c2, c3⟩, g0, g1, g2, g3⟩ := HK.out.ab4
   go_wp2_with fail
   refine (HI.out _).mono ?_
   rintro e1 w1 ⟨rfl, hb1⟩
   replace HK := Lib.hid (HK.out.later hb1)
   clear hb1
   clear k0 k1 k2 k3 c0 c1 c2 c3 g0 g1 g2 g3
   obtain ⟨⟨k0, k1, k2, k3⟩, -⟩ := (HK.out.get (.head _)).cells4
   obtain ⟨⟨c0, c1, c2, c3⟩, g0, g1, g2, g3⟩ := HK.out.ab4
   go_wp2
   refine bodyPost_ret (v := .tuple #[.int .u64 (JJ : Nat), .int .i64 0]) (by simp [results, Tryz.results68, go_sem]) rfl ⟨_, _, rfl, HJ.out.1, HJ.out.2.1, HJ.out.2.2, HK.out.2⟩
 rw [if_neg (by decide)]
 have hk : kndB x = 0 := knd_fin fx
 rw [hk] at HK ⊢
 clear hk
 cases fy : finB y
 ·rw [if_pos rfl]
  have HI := Lib.hid fun W => cInfinity_any (sgnB y) W
  have HJ := Lib.hid (infin_ok (sgnB y))
  rw [← inf_place hy ny fy] at HJ
  generalize ky y = KK at *
  generalize joinB (sgnB y) 2047 0 = JJ at *
  clear HIN
  have hk : kndB y = 1 := by unfold kndB; rw [fy]; rfl
  rw [hk] at HK ⊢
  clear hk hop hx hy nx ny fx fy hmode hp hq HP HQ
  unfold NumV fmtV at *
  generalize xpnB x = xpx at *
  generalize xpnB y = xpy at *
  generalize sgnB x = s at *
  generalize sgnB y = s2 at *
  go_enter Tryz.func68, Tryz.ntmps68
  obtain ⟨⟨k0, k1, k2, k3⟩, -⟩ := (HK.out.get (.head _)).cells4
  obtain ⟨⟨c0, c1, c2, c3⟩, g0, g1, g2, g3⟩ := HK.out.ab4
  go_wp2_with fail
  refine (HI.out _).mono ?_
  rintro e1 w1 ⟨rfl, hb1⟩
  replace HK := Lib.hid (HK.out.later hb1)
  clear hb1
  clear k0 k1 k2 k3 c0 c1 c2 c3 g0 g1 g2 g3
  obtain ⟨⟨k0, k1, k2, k3⟩, -⟩ := (HK.out.get (.head _)).cells4
  obtain ⟨⟨c0, c1, c2, c3⟩, g0, g1, g2, g3⟩ := HK.out.ab4
  go_wp2
  refine bodyPost_ret (v := .tuple #[.int .u64 (JJ : Nat), .int .i64 0]) (by simp [results, Tryz.results68, go_sem]) rfl ⟨_, _, rfl, HJ.out.1, HJ.out.2.1, HJ.out.2.2, HK.out.2⟩
 rw [if_neg (by decide)]
 have hk : kndB y = 0 := knd_fin fy
 rw [hk] at HK ⊢
 clear hk HIN hop
 obtain ⟨S, m, hS, hm, l1, l2, l3, hkk⟩ := sum_place fx fy mode
 rw [← hkk]
 have ex := xpn_bd fx
 have ey := xpn_bd fy
 have cx := mnt_bd x
 have cy := mnt_bd y
 have hlA := Nat.le_trans (ln_le_bl 32 (mntB x) (by decide)) cx
 have hlB := Nat.le_trans (ln_le_bl 32 (mntB y) (by decide)) cy
 have HSA := Lib.hid fun W h => cSigned_any 0 (sgnB x) p (mntB x) (xpnB x) m W h (by omega) (by omega) (by omega)
 have HSB := Lib.hid fun W h => cSigned_any 0 (sgnB y) q (mntB y) (xpnB y) m W h (by omega) (by omega) (by omega)
 have HSS : S = sgI (sgnB x) (mntB x) * 2 ^ (xpnB x - m).toNat + sgI (sgnB y) (mntB y) * 2 ^ (xpnB y - m).toNat := by rw [← hS, ← hm]; rfl
 have m1 := ln_shift (neg := sgnB x) (N := mntB x) (s := (xpnB x - m).toNat) (by omega) (by omega)
 have m2 := ln_shift (neg := sgnB y) (N := mntB y) (s := (xpnB y - m).toNat) (by omega) (by omega)
 have HAD := Lib.hid fun b x' y' W h1 h2 h3 => rAdd_any b 0 x' 0 y' 0 (sgI (sgnB x) (mntB x) * 2 ^ (xpnB x - m).toNat) (sgI (sgnB y) (mntB y) * 2 ^ (xpnB y - m).toNat) W h1 h2 h3 m1 m2
 rw [← HSS] at HAD
 have hmin : ∀ ts t w, (Builtin.min_ ts t #[.int .i64 (xpnB x), .int .i64 (xpnB y)]).run Tryz.prog w = .ok (.int .i64 m) w := fun ts t w => by rw [run_min2, hm]
 generalize sgI (sgnB x) (mntB x) * 2 ^ (xpnB x - m).toNat = ZA at *
 generalize sgI (sgnB y) (mntB y) * 2 ^ (xpnB y - m).toNat = ZB at *
 have HSG := Lib.hid fun r W h => rSign_any r 0 S W h
 have HZX := Lib.hid fun W h => cIsZero_any (sgnB x) p (mntB x) (xpnB x) W h
 have HZY := Lib.hid fun W h => cIsZero_any (sgnB y) q (mntB y) (xpnB y) W h
 have HZS := Lib.hid fun one neg md W => cZeroSum_any one neg md W
 skip
 obtain ⟨f0, hf0⟩ : ∃ f, w.heap.size = f := ⟨_, rfl⟩
 rw [hf0] at HK
 skip
 obtain ⟨b0, hs0⟩ : ∃ b, (S.sign == 0) = b := ⟨_, rfl⟩
 have hb0 : b0 = true ↔ S = 0 := by rw [← hs0, beq_iff_eq, Int.sign_eq_zero_iff_zero]
 obtain ⟨KK, hKK⟩ : ∃ k, ky (rndX S m mode) = k := ⟨_, rfl⟩
 rw [hKK]
 have HZK : Hid (b0 = true → KK = 0) := Lib.hid fun e => by rw [← hKK, hb0.1 e, show rndX 0 m mode = 0 from if_pos rfl]; decide
 have HJ : Hid (W64 (rndX S m mode) ∧ nanB (rndX S m mode) = false ∧ ky (rndX S m mode) = KK) := Lib.hid ⟨(rndX_lt S m mode).1, num_iff.2 (rndX_lt S m mode).2, hKK⟩
 have HRD := Lib.hid fun (e : b0 = false) p W h => (show Calls Tryz.prog 90 #[fmtV, .bool (decide (S < 0)), .pointer (some ⟨p, 0, none⟩), .int .i64 m, .bool false, .int .i64 mode] W (RoundAns (rndX S m mode) W) from by
  have hn : S ≠ 0 := fun t => by rw [hb0.2 t] at e; cases e
  have := cRound_any (decide (S < 0)) p S.natAbs m false mode W h (by omega) l1 l2 l3 (fun t => by cases t) (by omega)
  rwa [show roundR (decide (S < 0)) S.natAbs m false mode = rndX S m mode by unfold roundR; rw [if_neg (by decide), sgI_own]] at this)
 have hsg : decide (S.sign < 0) = decide (S < 0) := decide_eq_decide.2 (sign_iff S).2.2.1
 clear hKK hkk hb0
 generalize rndX S m mode = R at *
 generalize decide (S < 0) = sb at *
 generalize decide (mntB x = 0) = bx at *
 generalize decide (mntB y = 0) = by' at *
 generalize S.sign = sg at *
 clear hp hq hS hm l1 l2 l3 ex ey cx cy hlA hlB m1 m2 HSS hx hy nx ny fx fy hmode
 generalize sgnB x = sgx at *
 generalize mntB x = mtx at *
 generalize xpnB x = xpx at *
 generalize sgnB y = sgy at *
 generalize mntB y = mty at *
 generalize xpnB y = xpy at *
 unfold NumV fmtV at *
 go_enter Tryz.func68, Tryz.ntmps68
 obtain ⟨⟨k0, k1, k2, k3⟩, -⟩ := (HK.out.get (.head _)).cells4
 obtain ⟨⟨c0, c1, c2, c3⟩, g0, g1, g2, g3⟩ := HK.out.ab4
 go_upto_region 10 with fail
 clear k0 k1 k2 k3 c0 c1 c2 c3 g0 g1 g2 g3
 generalize World.alloc (World.alloc (World.alloc w _) _) _ = W1 at HK ⊢
 refine wp_region_q (fun w' : World => (w'.cell? ⟨f0 + 1, 0, none⟩ = some (.int .i64 0) ∧ w'.cell? ⟨f0 + 1, 1, none⟩ = some (.bool sgx) ∧ w'.cell? ⟨f0 + 1, 2, none⟩ = some (.pointer (some ⟨p, 0, none⟩)) ∧ w'.cell? ⟨f0 + 1, 3, none⟩ = some (.int .i64 xpx)) ∧ w'.cell? ⟨f0 + 1 + 1, 0, none⟩ = some (.int .i64 0) ∧ w'.cell? ⟨f0 + 1 + 1, 1, none⟩ = some (.bool sgy) ∧ w'.cell? ⟨f0 + 1 + 1, 2, none⟩ = some (.pointer (some ⟨q, 0, none⟩)) ∧ w'.cell? ⟨f0 + 1 + 1, 3, none⟩ = some (.int .i64 xpy)) 7 (.take 1 (.take 2 (.take 4 (.take 5 (.bag [(0, 62, []), (3, 65, []), (6, 68, [])] .nil))))) (by kernel_rfl) (by kernel_rfl) ?_
 replace HK := Lib.hid (HK.out.later (drew_below _))
 generalize World.drew _ = W10 at HK ⊢
 have HSZ : Hid (SzLe W10 W10.heap.size) := Lib.hid (Nat.le_refl _)
 have HLT := Lib.hid HK.out.lt
 have HSW : Hid (f0 ≤ W10.heap.size) := Lib.hid (by have := HK.out.size; omega)
 generalize W10.heap.size = nB at HSZ HLT HSW
 have hS : (fun w' : World => (w'.cell? ⟨f0 + 1, 0, none⟩ = some (.int .i64 0) ∧ w'.cell? ⟨f0 + 1, 1, none⟩ = some (.bool sgx) ∧ w'.cell? ⟨f0 + 1, 2, none⟩ = some (.pointer (some ⟨p, 0, none⟩)) ∧ w'.cell? ⟨f0 + 1, 3, none⟩ = some (.int .i64 xpx)) ∧ w'.cell? ⟨f0 + 1 + 1, 0, none⟩ = some (.int .i64 0) ∧ w'.cell? ⟨f0 + 1 + 1, 1, none⟩ = some (.bool sgy) ∧ w'.cell? ⟨f0 + 1 + 1, 2, none⟩ = some (.pointer (some ⟨q, 0, none⟩)) ∧ w'.cell? ⟨f0 + 1 + 1, 3, none⟩ = some (.int .i64 xpy)) W10 := HK.out.ab4
 repeat (refine wpPq_takeL (v := ?_) rfl rfl (fun _ _ _ h => h) rfl (fun w' hSw => ?_) hS ?_; rotate_left; (focus (go_simp; with_reducible rfl)); simp only [setL])
 clear hS
 refine wpPq_bag (pick [(0, fun v w' => ∃ r, v = .pointer (some ⟨r, 0, none⟩) ∧ nB ≤ r ∧ RInt w' r 0), (3, fun v w' => ∃ r, v = .pointer (some ⟨r, 0, none⟩) ∧ RInt w' r ZA), (6, fun v w' => ∃ r, v = .pointer (some ⟨r, 0, none⟩) ∧ RInt w' r ZB)]) (pick_mono (bag_cons (fun v w1 w2 ⟨r0, hv0, hl0, hp0⟩ hb => ⟨r0, hv0, hl0, hp0.below hb⟩) (bag_cons (fun v w1 w2 ⟨r3, hv3, hp3⟩ hb => ⟨r3, hv3, hp3.below hb⟩) (bag_cons (fun v w1 w2 ⟨r6, hv6, hp6⟩ hb => ⟨r6, hv6, hp6.below hb⟩) bag_nil)))) (fun w' hb => (HK.out.later hb).ab4) (by simp [prE]) (fun _ _ _ _ _ h => h) (bag_cons (bag_one rfl ?_) (bag_cons (bag_one rfl ?_) (bag_cons (bag_one rfl ?_) bag_nil))) bag_nil ?_
 ·intro a' V hdf hin hdep hb1 K hK
  clear hin hdep hdf
  have HK := Lib.hid (HK.out.later hb1)
  have HSZ := Lib.hid (HSZ.out.below hb1)
  go_simp
  exact hK _ _ ⟨_, rfl, HSZ.out, IntK.zero (k := .u32) (s := 32) V _ objT_rint⟩ (Below.alloc_self _ _)
 ·intro a' V hdf hin hdep hb1 K hK
  have i63 : a'.tmps[63]?.getD undef = .agg #[.int .i64 0, .bool sgx, .pointer (some ⟨p, 0, none⟩), .int .i64 xpx] := evT (hin 63 (by decide))
  have i64 : a'.tmps[64]?.getD undef = .int .i64 m := evT (hin 64 (by decide))
  clear hin hdep hdf
  have HK := Lib.hid (HK.out.later hb1)
  have HSZ := Lib.hid (HSZ.out.below hb1)
  go_simp
  refine (HSA.out _ (HP.out.below HK.out.2)).mono ?_
  rintro e1 V2 ⟨r, rfl, -, hr, hb2⟩
  exact hK _ _ ⟨r, rfl, hr⟩ hb2
 ·intro a' V hdf hin hdep hb1 K hK
  have i66 : a'.tmps[66]?.getD undef = .agg #[.int .i64 0, .bool sgy, .pointer (some ⟨q, 0, none⟩), .int .i64 xpy] := evT (hin 66 (by decide))
  have i67 : a'.tmps[67]?.getD undef = .int .i64 m := evT (hin 67 (by decide))
  clear hin hdep hdf
  have HK := Lib.hid (HK.out.later hb1)
  have HSZ := Lib.hid (HSZ.out.below hb1)
  go_simp
  refine (HSB.out _ (HQ.out.below HK.out.2)).mono ?_
  rintro e1 V2 ⟨r, rfl, -, hr, hb2⟩
  exact hK _ _ ⟨r, rfl, hr⟩ hb2
 intro vals B1 hb1 hR
 replace HK := Lib.hid (HK.out.later hb1)
 replace HSZ := Lib.hid (HSZ.out.below hb1)
 obtain ⟨r0, hv0, hl0, hp0⟩ : (fun (v : Value) (w' : World) => ∃ r, v = .pointer (some ⟨r, 0, none⟩) ∧ nB ≤ r ∧ RInt w' r 0) (vals 0) B1 := hR (0, 62) (by decide)
 obtain ⟨r3, hv3, hp3⟩ : (fun (v : Value) (w' : World) => ∃ r, v = .pointer (some ⟨r, 0, none⟩) ∧ RInt w' r ZA) (vals 3) B1 := hR (3, 65) (by decide)
 obtain ⟨r6, hv6, hp6⟩ : (fun (v : Value) (w' : World) => ∃ r, v = .pointer (some ⟨r, 0, none⟩) ∧ RInt w' r ZB) (vals 6) B1 := hR (6, 68) (by decide)
 clear hb1 hR
 simp only [prE, List.flatMap_cons, List.flatMap_nil, List.cons_append, List.nil_append, List.append_nil, setD, List.setIfInBounds_toArray, List.set_cons_zero, List.set_cons_succ, hv0, hv3, hv6]
 clear vals hv0 hv3 hv6
 refine wpPq_nil ?_
 simp only [drL]
 skip
 have HR0 : Hid (f0 + 1 + 1 < r0) := Lib.hid (by have := HLT.out _ (.tail _ (.tail _ (.head _))); omega)
 have H0 := Lib.hid hp0
 have H3 := Lib.hid hp3
 have H6 := Lib.hid hp6
 clear hp0 hp3 hp6 hl0 HSZ HLT HSW
 obtain ⟨⟨k0, k1, k2, k3⟩, -⟩ := (HK.out.get (.head _)).cells4
 obtain ⟨⟨c0, c1, c2, c3⟩, g0, g1, g2, g3⟩ := HK.out.ab4
 go_wp2_with fail
 refine (HAD.out r0 r3 r6 _ H0.out.1 H3.out H6.out).mono ?_
 rintro e3 w3 ⟨rfl, hi3, hm3⟩
 have HI := Lib.hid hi3
 have HK3 := Lib.hid (HK.out.mod hm3 (fun t m => by have := HR0.out; simp only [List.mem_cons, List.not_mem_nil, or_false] at m; rcases m with rfl | rfl | rfl <;> simp <;> omega) (by have := HR0.out; omega))
 clear hi3 hm3 H0 H3 H6 HK HAD
 clear k0 k1 k2 k3 c0 c1 c2 c3 g0 g1 g2 g3
 have HK := HK3
 clear HK3
 obtain ⟨⟨k0, k1, k2, k3⟩, -⟩ := (HK.out.get (.head _)).cells4
 obtain ⟨⟨c0, c1, c2, c3⟩, g0, g1, g2, g3⟩ := HK.out.ab4
 go_wp2_with fail
 refine (HSG.out r0 _ HI.out).mono ?_
 rintro e4 w4 ⟨rfl, rfl⟩
 cases b0
 ·replace HRD := Lib.hid (HRD.out rfl)
  clear HZK HZX HZY HZS
  go_upto_region 13 with fail
  clear k0 k1 k2 k3 c0 c1 c2 c3 g0 g1 g2 g3
  refine wp_region_pl (fun w' : World => w'.cell? ⟨f0, 0, none⟩ = some (.int .i64 53) ∧ w'.cell? ⟨f0, 1, none⟩ = some (.int .i64 (-1022)) ∧ w'.cell? ⟨f0, 2, none⟩ = some (.int .i64 1023) ∧ w'.cell? ⟨f0, 3, none⟩ = some (.int .i64 11)) 12 (.take 0 (.take 1 (.take 4 (.take 5 (.take 7 (.take 8 (.run 2 (.take 3 (.run 6 (.run 9 (.take 10 (.take 11 (.nil))))))))))))) (by kernel_rfl) (by kernel_rfl) ?_
  replace HK := Lib.hid (HK.out.later (drew_below _))
  replace HI := Lib.hid (HI.out.below (drew_below _))
  generalize World.drew _ = W13 at HK HI ⊢
  repeat (first | (refine tkL (v := ?_) rfl rfl rfl (fun w' hSw => ?_) (HK.out.get (.head _)).cells4.1 ?_; rotate_left; (focus (go_simp; with_reducible rfl)); simp only [setL]) | (refine skL rfl rfl rfl (HK.out.get (.head _)).cells4.1 ?_; simp only [setL]))
  refine wpPl_goL rfl rfl fun K' hK => ?_
  go_simp
  refine (HSG.out r0 _ HI.out).mono ?_
  rintro e1 W13v1 ⟨rfl, rfl⟩
  refine hK _ _ (HK.out.get (.head _)).cells4.1 ?_
  clear hK K'
  try simp only [Act.put, setL]
  repeat (first | (refine tkL (v := ?_) rfl rfl rfl (fun w' hSw => ?_) (HK.out.get (.head _)).cells4.1 ?_; rotate_left; (focus (go_simp; with_reducible rfl)); simp only [setL]) | (refine skL rfl rfl rfl (HK.out.get (.head _)).cells4.1 ?_; simp only [setL]))
  refine wpPl_goL rfl rfl fun K' hK => ?_
  go_simp
  refine (rAbs_any r0 0 r0 0 S _ HI.out.1 HI.out).mono ?_
  rintro e1 W13v2 ⟨rfl, hi5, hm5⟩
  replace HI := Lib.hid hi5
  replace HK := Lib.hid (HK.out.mod hm5 (fun t m => by have := HR0.out; simp only [List.mem_cons, List.not_mem_nil, or_false] at m; rcases m with rfl | rfl | rfl <;> simp <;> omega) (by have := HR0.out; omega))
  clear hi5 hm5
  refine hK _ _ (HK.out.get (.head _)).cells4.1 ?_
  clear hK K'
  try simp only [Act.put, setL]
  repeat (first | (refine tkL (v := ?_) rfl rfl rfl (fun w' hSw => ?_) (HK.out.get (.head _)).cells4.1 ?_; rotate_left; (focus (go_simp; with_reducible rfl)); simp only [setL]) | (refine skL rfl rfl rfl (HK.out.get (.head _)).cells4.1 ?_; simp only [setL]))
  refine wpPl_goL rfl rfl fun K' hK => ?_
  go_simp
  refine (HRD.out _ _ HI.out).mono ?_
  rintro e1 W13v3 ⟨fl, rfl, hb1⟩
  replace HK := Lib.hid (HK.out.later hb1)
  replace HI := Lib.hid (HI.out.below hb1)
  refine hK _ _ (HK.out.get (.head _)).cells4.1 ?_
  clear hK K' hb1
  try simp only [Act.put, setL]
  repeat (first | (refine tkL (v := ?_) rfl rfl rfl (fun w' hSw => ?_) (HK.out.get (.head _)).cells4.1 ?_; rotate_left; (focus (go_simp; with_reducible rfl)); simp only [setL]) | (refine skL rfl rfl rfl (HK.out.get (.head _)).cells4.1 ?_; simp only [setL]))
  refine wpPl_nil ?_
  simp only [drL]
  go_wp2
  refine bodyPost_ret (v := .tuple #[.int .u64 (R : Nat), .int .i64 fl]) (by simp [results, Tryz.results68, go_sem]) rfl ⟨_, _, rfl, HJ.out.1, HJ.out.2.1, HJ.out.2.2, HK.out.2⟩
 ·obtain rfl : KK = 0 := HZK.out (by first | rfl | trivial)
  clear HRD HJ HZK
  cases bx
  ·go_upto_region 12 with fail
   clear k0 k1 k2 k3 c0 c1 c2 c3 g0 g1 g2 g3
   refine wp_region_pl (fun w' : World => ((w'.cell? ⟨f0, 0, none⟩ = some (.int .i64 53) ∧ w'.cell? ⟨f0, 1, none⟩ = some (.int .i64 (-1022)) ∧ w'.cell? ⟨f0, 2, none⟩ = some (.int .i64 1023) ∧ w'.cell? ⟨f0, 3, none⟩ = some (.int .i64 11)) ∧ (w'.cell? ⟨f0 + 1, 0, none⟩ = some (.int .i64 0) ∧ w'.cell? ⟨f0 + 1, 1, none⟩ = some (.bool sgx) ∧ w'.cell? ⟨f0 + 1, 2, none⟩ = some (.pointer (some ⟨p, 0, none⟩)) ∧ w'.cell? ⟨f0 + 1, 3, none⟩ = some (.int .i64 xpx)) ∧ w'.cell? ⟨f0 + 1 + 1, 0, none⟩ = some (.int .i64 0) ∧ w'.cell? ⟨f0 + 1 + 1, 1, none⟩ = some (.bool sgy) ∧ w'.cell? ⟨f0 + 1 + 1, 2, none⟩ = some (.pointer (some ⟨q, 0, none⟩)) ∧ w'.cell? ⟨f0 + 1 + 1, 3, none⟩ = some (.int .i64 xpy))) 17 (.take 0 (.take 1 (.take 14 (.take 15 (.take 16 (.run 2 (.take 3 (.take 4 (.run 5 (.take 6 (.take 7 (.take 8 (.take 9 (.take 10 (.take 11 (.take 12 (.take 13 (.nil)))))))))))))))))) (by kernel_rfl) (by kernel_rfl) ?_
   replace HK := Lib.hid (HK.out.later (drew_below _))
   generalize World.drew _ = W12 at HK ⊢
   repeat (first | (refine tkL (v := ?_) rfl rfl rfl (fun w' hSw => ?_) HK.out.fmt_two ?_; rotate_left; (focus (go_simp; with_reducible rfl)); simp only [setL]) | (refine skL rfl rfl rfl HK.out.fmt_two ?_; simp only [setL]))
   refine wpPl_goL rfl rfl fun K' hK => ?_
   go_simp
   refine (HZX.out _ (HP.out.below HK.out.2)).mono ?_
   rintro e1 W12v1 ⟨rfl, hb1⟩
   replace HK := Lib.hid (HK.out.later hb1)
   refine hK _ _ HK.out.fmt_two ?_
   clear hK K' hb1
   try simp only [Act.put, setL]
   repeat (first | (refine tkL (v := ?_) rfl rfl rfl (fun w' hSw => ?_) HK.out.fmt_two ?_; rotate_left; (focus (go_simp; with_reducible rfl)); simp only [setL]) | (refine skL rfl rfl rfl HK.out.fmt_two ?_; simp only [setL]))
   refine wpPl_idleL rfl rfl rfl HK.out.fmt_two ?_
   simp only [setL]
   repeat (first | (refine tkL (v := ?_) rfl rfl rfl (fun w' hSw => ?_) HK.out.fmt_two ?_; rotate_left; (focus (go_simp; with_reducible rfl)); simp only [setL]) | (refine skL rfl rfl rfl HK.out.fmt_two ?_; simp only [setL]))
   refine wpPl_nil ?_
   simp only [drL]
   go_wp2_with fail
   refine (HZS.out _ _ _ _).mono ?_
   rintro e13 w13 ⟨ng, rfl, hb13⟩
   replace HK := Lib.hid (HK.out.later hb13)
   clear hb13
   go_wp2
   refine bodyPost_ret (v := .tuple #[.int .u64 (joinB ng 0 0 : Nat), .int .i64 0]) (by simp [results, Tryz.results68, go_sem]) rfl ⟨_, _, rfl, (nought_rok ng).1, (nought_rok ng).2.1, (nought_rok ng).2.2, HK.out.2⟩
  ·cases by'
   ·go_upto_region 12 with fail
    clear k0 k1 k2 k3 c0 c1 c2 c3 g0 g1 g2 g3
    refine wp_region_pl (fun w' : World => ((w'.cell? ⟨f0, 0, none⟩ = some (.int .i64 53) ∧ w'.cell? ⟨f0, 1, none⟩ = some (.int .i64 (-1022)) ∧ w'.cell? ⟨f0, 2, none⟩ = some (.int .i64 1023) ∧ w'.cell? ⟨f0, 3, none⟩ = some (.int .i64 11)) ∧ (w'.cell? ⟨f0 + 1, 0, none⟩ = some (.int .i64 0) ∧ w'.cell? ⟨f0 + 1, 1, none⟩ = some (.bool sgx) ∧ w'.cell? ⟨f0 + 1, 2, none⟩ = some (.pointer (some ⟨p, 0, none⟩)) ∧ w'.cell? ⟨f0 + 1, 3, none⟩ = some (.int .i64 xpx)) ∧ w'.cell? ⟨f0 + 1 + 1, 0, none⟩ = some (.int .i64 0) ∧ w'.cell? ⟨f0 + 1 + 1, 1, none⟩ = some (.bool sgy) ∧ w'.cell? ⟨f0 + 1 + 1, 2, none⟩ = some (.pointer (some ⟨q, 0, none⟩)) ∧ w'.cell? ⟨f0 + 1 + 1, 3, none⟩ = some (.int .i64 xpy))) 17 (.take 0 (.take 1 (.take 14 (.take 15 (.take 16 (.run 2 (.take 3 (.take 4 (.run 5 (.take 6 (.take 7 (.take 8 (.take 9 (.take 10 (.take 11 (.take 12 (.take 13 (.nil)))))))))))))))))) (by kernel_rfl) (by kernel_rfl) ?_
    replace HK := Lib.hid (HK.out.later (drew_below _))
    generalize World.drew _ = W12 at HK ⊢
    repeat (first | (refine tkL (v := ?_) rfl rfl rfl (fun w' hSw => ?_) HK.out.fmt_two ?_; rotate_left; (focus (go_simp; with_reducible rfl)); simp only [setL]) | (refine skL rfl rfl rfl HK.out.fmt_two ?_; simp only [setL]))
    refine wpPl_goL rfl rfl fun K' hK => ?_
    go_simp
    refine (HZX.out _ (HP.out.below HK.out.2)).mono ?_
    rintro e1 W12v1 ⟨rfl, hb1⟩
    replace HK := Lib.hid (HK.out.later hb1)
    refine hK _ _ HK.out.fmt_two ?_
    clear hK K' hb1
    try simp only [Act.put, setL]
    repeat (first | (refine tkL (v := ?_) rfl rfl rfl (fun w' hSw => ?_) HK.out.fmt_two ?_; rotate_left; (focus (go_simp; with_reducible rfl)); simp only [setL]) | (refine skL rfl rfl rfl HK.out.fmt_two ?_; simp only [setL]))
    refine wpPl_goL rfl rfl fun K' hK => ?_
    go_simp
    refine (HZY.out _ (HQ.out.below HK.out.2)).mono ?_
    rintro e1 W12v2 ⟨rfl, hb1⟩
    replace HK := Lib.hid (HK.out.later hb1)
    refine hK _ _ HK.out.fmt_two ?_
    clear hK K' hb1
    try simp only [Act.put, setL]
    repeat (first | (refine tkL (v := ?_) rfl rfl rfl (fun w' hSw => ?_) HK.out.fmt_two ?_; rotate_left; (focus (go_simp; with_reducible rfl)); simp only [setL]) | (refine skL rfl rfl rfl HK.out.fmt_two ?_; simp only [setL]))
    refine wpPl_nil ?_
    simp only [drL]
    go_wp2_with fail
    refine (HZS.out _ _ _ _).mono ?_
    rintro e13 w13 ⟨ng, rfl, hb13⟩
    replace HK := Lib.hid (HK.out.later hb13)
    clear hb13
    go_wp2
    refine bodyPost_ret (v := .tuple #[.int .u64 (joinB ng 0 0 : Nat), .int .i64 0]) (by simp [results, Tryz.results68, go_sem]) rfl ⟨_, _, rfl, (nought_rok ng).1, (nought_rok ng).2.1, (nought_rok ng).2.2, HK.out.2⟩
   ·go_upto_region 12 with fail
    clear k0 k1 k2 k3 c0 c1 c2 c3 g0 g1 g2 g3
    refine wp_region_pl (fun w' : World => ((w'.cell? ⟨f0, 0, none⟩ = some (.int .i64 53) ∧ w'.cell? ⟨f0, 1, none⟩ = some (.int .i64 (-1022)) ∧ w'.cell? ⟨f0, 2, none⟩ = some (.int .i64 1023) ∧ w'.cell? ⟨f0, 3, none⟩ = some (.int .i64 11)) ∧ (w'.cell? ⟨f0 + 1, 0, none⟩ = some (.int .i64 0) ∧ w'.cell? ⟨f0 + 1, 1, none⟩ = some (.bool sgx) ∧ w'.cell? ⟨f0 + 1, 2, none⟩ = some (.pointer (some ⟨p, 0, none⟩)) ∧ w'.cell? ⟨f0 + 1, 3, none⟩ = some (.int .i64 xpx)) ∧ w'.cell? ⟨f0 + 1 + 1, 0, none⟩ = some (.int .i64 0) ∧ w'.cell? ⟨f0 + 1 + 1, 1, none⟩ = some (.bool sgy) ∧ w'.cell? ⟨f0 + 1 + 1, 2, none⟩ = some (.pointer (some ⟨q, 0, none⟩)) ∧ w'.cell? ⟨f0 + 1 + 1, 3, none⟩ = some (.int .i64 xpy))) 17 (.take 0 (.take 1 (.take 14 (.take 15 (.take 16 (.run 2 (.take 3 (.take 4 (.run 5 (.take 6 (.take 7 (.take 8 (.take 9 (.take 10 (.take 11 (.take 12 (.take 13 (.nil)))))))))))))))))) (by kernel_rfl) (by kernel_rfl) ?_
    replace HK := Lib.hid (HK.out.later (drew_below _))
    generalize World.drew _ = W12 at HK ⊢
    repeat (first | (refine tkL (v := ?_) rfl rfl rfl (fun w' hSw => ?_) HK.out.fmt_two ?_; rotate_left; (focus (go_simp; with_reducible rfl)); simp only [setL]) | (refine skL rfl rfl rfl HK.out.fmt_two ?_; simp only [setL]))
    refine wpPl_goL rfl rfl fun K' hK => ?_
    go_simp
    refine (HZX.out _ (HP.out.below HK.out.2)).mono ?_
    rintro e1 W12v1 ⟨rfl, hb1⟩
    replace HK := Lib.hid (HK.out.later hb1)
    refine hK _ _ HK.out.fmt_two ?_
    clear hK K' hb1
    try simp only [Act.put, setL]
    repeat (first | (refine tkL (v := ?_) rfl rfl rfl (fun w' hSw => ?_) HK.out.fmt_two ?_; rotate_left; (focus (go_simp; with_reducible rfl)); simp only [setL]) | (refine skL rfl rfl rfl HK.out.fmt_two ?_; simp only [setL]))
    refine wpPl_goL rfl rfl fun K' hK => ?_
    go_simp
    refine (HZY.out _ (HQ.out.below HK.out.2)).mono ?_
    rintro e1 W12v2 ⟨rfl, hb1⟩
    replace HK := Lib.hid (HK.out.later hb1)
    refine hK _ _ HK.out.fmt_two ?_
    clear hK K' hb1
    try simp only [Act.put, setL]
    repeat (first | (refine tkL (v := ?_) rfl rfl rfl (fun w' hSw => ?_) HK.out.fmt_two ?_; rotate_left; (focus (go_simp; with_reducible rfl)); simp only [setL]) | (refine skL rfl rfl rfl HK.out.fmt_two ?_; simp only [setL]))
    refine wpPl_nil ?_
    simp only [drL]
    go_wp2_with fail
    refine (HZS.out _ _ _ _).mono ?_
    rintro e13 w13 ⟨ng, rfl, hb13⟩
    replace HK := Lib.hid (HK.out.later hb13)
    clear hb13
    go_wp2
    refine bodyPost_ret (v := .tuple #[.int .u64 (joinB ng 0 0 : Nat), .int .i64 0]) (by simp [results, Tryz.results68, go_sem]) rfl ⟨_, _, rfl, (nought_rok ng).1, (nought_rok ng).2.1, (nought_rok ng).2.2, HK.out.2⟩
end
section
open Go.RowKit
theorem mnt_fin {x : Nat} (f : finB x = true) : mntB x = mantB x ∧ xpnB x = expB x := by unfold mntB xpnB; rw [f]; exact ⟨rfl, rfl⟩
theorem mnt_ne {x : Nat} (hx : W64 x) (f : finB x = true) (h : ky x ≠ 0) : mntB x ≠ 0 := by rw [(mnt_fin f).1]; exact (mant_ne hx f h).2
theorem sgI_mul (s t : Bool) (A B : Nat) : sgI (s != t) (A * B) = sgI s A * sgI t B := by
 cases s <;> cases t <;> simp [sgI, Int.neg_mul, Int.mul_neg]
theorem bne_xor (s t : Bool) : (s != t) = (s ^^ t) := by cases s <;> cases t <;> rfl
theorem prod_place {x y : Nat} (hx : W64 x) (hy : W64 y) (fx : finB x = true) (fy : finB y = true) (x0 : ky x ≠ 0) (y0 : ky y ≠ 0) (mode : Int) :
  ∃ N m, mntB x * mntB y = N ∧ xpnB x + xpnB y = m ∧ N ≠ 0 ∧ bl N ≤ 1048576 ∧ -100000 ≤ m ∧ m ≤ 100000 ∧ ky (rndX (sgI (sgnB x != sgnB y) N) m mode) = mlK x y mode := by
 have ex := xpn_bd fx
 have ey := xpn_bd fy
 have cx := mnt_bd x
 have cy := mnt_bd y
 have hb := bl_mul (mntB x) (mntB y)
 have hx0 : mntB x ≠ 0 := mnt_ne hx fx x0
 have hy0 : mntB y ≠ 0 := mnt_ne hy fy y0
 have px := pE_bd fx
 have py := pE_bd fy
 refine ⟨_, _, rfl, rfl, Nat.mul_ne_zero hx0 hy0, by omega, by omega, by omega, ?_⟩
 refine ky_same (M := 1074 + 1074) mode (by decide) (by omega) (by omega) ?_
 rw [sgI_mul, sc_mul (by omega) (by omega), sc_mul (by omega) (by omega), sc_take fx (Int.le_refl _), sc_take fy (Int.le_refl _)]
end
section
open Go.RowKit
theorem Bks.rot3 {w0 W : World} {l : List (Nat × Nat × Array Value)} {p q r : Nat × Nat × Array Value} (h : Bks w0 W (p :: q :: r :: l)) : Bks w0 W (r :: p :: q :: l) := h.sub fun t m => by
 rcases List.mem_cons.1 m with rfl | m
 ·exact .tail _ (.tail _ (.head _))
 rcases List.mem_cons.1 m with rfl | m
 ·exact .head _
 rcases List.mem_cons.1 m with rfl | m
 ·exact .tail _ (.head _)
 ·exact .tail _ (.tail _ (.tail _ m))
set_option maxRecDepth 100000 in
set_option maxHeartbeats 3200000 in
theorem cIsZero_inf (neg : Bool) (p : Nat) (e : Int) (w : World) : Calls Tryz.prog 89 #[NumV 1 neg p e] w (Gives (.bool false) w) := by
 have HK := Lib.hid ((Bks.nil w).alloc #[.int .i64 1, .bool neg, .pointer (some ⟨p, 0, none⟩), .int .i64 e] 87)
 unfold NumV
 go_enter Tryz.func89, Tryz.ntmps89
 obtain ⟨⟨c0, c1, c2, c3⟩, -⟩ := (HK.out.get (.head _)).cells4
 go_wp2
 go_ret
 exact ⟨rfl, HK.out.2⟩
theorem cIsZ_ne {x p : Nat} (w : World) (hx : W64 x) (x0 : ky x ≠ 0) (hp : RInt w p (mntB x : Nat)) : Calls Tryz.prog 89 #[NumV (kndB x) (sgnB x) p (xpnB x)] w (Gives (.bool false) w) := by
 cases fx : finB x
 ·rw [show kndB x = 1 by unfold kndB; rw [fx]; rfl]
  exact cIsZero_inf _ _ _ _
 ·rw [knd_fin fx]
  have := cIsZero_any (sgnB x) p (mntB x) (xpnB x) w hp
  rwa [decide_eq_false (mnt_ne hx fx x0)] at this
set_option maxRecDepth 100000 in
set_option maxHeartbeats 3200000 in
theorem cTimes_any (na nb : Bool) (p q A B : Nat) (ea eb : Int) (w : World) (hp : RInt w p (A : Int)) (hq : RInt w q (B : Int)) (he : -4611686018427387904 ≤ ea + eb ∧ ea + eb ≤ 4611686018427387904) (hA : ln 32 A ≤ 68719476736) (hB : ln 32 B ≤ 68719476736) :
  Calls Tryz.prog 144 #[NumV 0 na p ea, NumV 0 nb q eb] w (NumNew 0 (na != nb) ((A * B : Nat) : Int) (ea + eb) w) := by
 have HP := Lib.hid hp
 have HQ := Lib.hid hq
 have hw : IntKind.i64.wrap (ea + eb) = ea + eb := IntWalk.i64_in _ (by omega)
 have HML := Lib.hid fun b W h1 h2 h3 => rMul_any b 0 p 0 q 0 (A : Int) (B : Int) W h1 h2 h3 (by rw [Int.natAbs_natCast]; exact hA) (by rw [Int.natAbs_natCast]; exact hB)
 rw [← Int.natCast_mul] at HML
 generalize A * B = C at *
 have HK := Lib.hid (Bks.rot3 (Bks.new3 w 87 87 87 #[.int .i64 0, .bool na, .pointer (some ⟨p, 0, none⟩), .int .i64 ea] #[.int .i64 0, .bool nb, .pointer (some ⟨q, 0, none⟩), .int .i64 eb] #[.int .i64 0, .bool false, .pointer none, .int .i64 0]))
 obtain ⟨f0, hf0⟩ : ∃ f, w.heap.size = f := ⟨_, rfl⟩
 rw [hf0] at HK
 unfold NumV NumNew at *
 obtain ⟨m, hm⟩ : ∃ m, ea + eb = m := ⟨_, rfl⟩
 replace hw := hw.trans hm
 rw [hm]
 obtain ⟨ng, hng⟩ : ∃ s, (!(na == nb)) = s := ⟨_, rfl⟩
 rw [show (na != nb) = ng from hng]
 clear hp hq he hA hB hm
 go_enter Tryz.func144, Tryz.ntmps144
 obtain ⟨⟨c0, c1, c2, c3⟩, g0, g1, g2, g3⟩ := HK.out.ab4
 go_upto_region 1 with fail
 clear c0 c1 c2 c3 g0 g1 g2 g3
 replace HP := Lib.hid (HP.out.below HK.out.2)
 replace HQ := Lib.hid (HQ.out.below HK.out.2)
 generalize World.alloc (World.alloc (World.alloc w _) _) _ = W0 at HK HP HQ ⊢
 refine wp_region_pl (fun w' : World => (w'.cell? ⟨f0, 0, none⟩ = some (.int .i64 0) ∧ w'.cell? ⟨f0, 1, none⟩ = some (.bool na) ∧ w'.cell? ⟨f0, 2, none⟩ = some (.pointer (some ⟨p, 0, none⟩)) ∧ w'.cell? ⟨f0, 3, none⟩ = some (.int .i64 ea)) ∧ w'.cell? ⟨f0 + 1, 0, none⟩ = some (.int .i64 0) ∧ w'.cell? ⟨f0 + 1, 1, none⟩ = some (.bool nb) ∧ w'.cell? ⟨f0 + 1, 2, none⟩ = some (.pointer (some ⟨q, 0, none⟩)) ∧ w'.cell? ⟨f0 + 1, 3, none⟩ = some (.int .i64 eb)) 17 (.take 0 (.take 1 (.take 2 (.take 3 (.take 4 (.take 6 (.take 7 (.take 8 (.take 9 (.take 11 (.take 12 (.take 13 (.take 14 (.take 15 (.run 5 (.run 10 (.take 16 (.nil)))))))))))))))))) (by kernel_rfl) (by kernel_rfl) ?_
 replace HK := Lib.hid (HK.out.later (drew_below _))
 replace HP := Lib.hid (HP.out.below (drew_below _))
 replace HQ := Lib.hid (HQ.out.below (drew_below _))
 generalize World.drew _ = W1 at HK HP HQ ⊢
 repeat (refine tkL (v := ?_) rfl rfl rfl (fun w' hSw => ?_) HK.out.ab4 ?_; rotate_left; (focus (go_simp; with_reducible rfl)); simp only [setL])
 refine wpPl_goL rfl rfl fun K' hK => ?_
 go_simp
 have hb1 := Below.alloc_self W1 (.cells #[.bool false, .slice none 0 0] 67)
 have H5 := Lib.hid (IntK.zero (k := .u32) (s := 32) W1 _ objT_rint)
 have HL5 : Hid (f0 + 1 + 1 < W1.heap.size) := Lib.hid (HK.out.lt _ (.head _))
 replace HK := Lib.hid (HK.out.later hb1)
 replace HP := Lib.hid (HP.out.below hb1)
 replace HQ := Lib.hid (HQ.out.below hb1)
 clear hb1
 generalize World.alloc W1 _ = W1v1 at *
 generalize W1.heap.size = r5 at *
 refine hK _ _ HK.out.ab4 ?_
 clear hK K'
 try simp only [Act.put, setL]
 repeat (refine tkL (v := ?_) rfl rfl rfl (fun w' hSw => ?_) HK.out.ab4 ?_; rotate_left; (focus (go_simp; with_reducible rfl)); simp only [setL])
 refine wpPl_goL rfl rfl fun K' hK => ?_
 go_simp
 refine (HML.out r5 _ H5.out.1 HP.out HQ.out).mono ?_
 rintro e1 W1v2 ⟨rfl, hi1, hm1⟩
 replace H5 := Lib.hid hi1
 replace HK := Lib.hid (HK.out.mod hm1 (fun t m => by have := HL5.out; simp only [List.mem_cons, List.not_mem_nil, or_false] at m; rcases m with rfl | rfl | rfl <;> simp <;> omega) (by have := HL5.out; omega))
 clear hi1 hm1
 refine hK _ _ HK.out.ab4 ?_
 clear hK K'
 try simp only [Act.put, setL]
 repeat (refine tkL (v := ?_) rfl rfl rfl (fun w' hSw => ?_) HK.out.ab4 ?_; rotate_left; (focus (go_simp; with_reducible rfl)); simp only [setL])
 refine wpPl_nil ?_
 simp only [drL]
 obtain ⟨⟨d0, d1, d2, d3⟩, d4, d5, d6, d7⟩ := (HK.out.get (.head _)).cells4
 go_wp2
 refine bodyPost_ret (v := .agg #[.int .i64 0, .bool ng, .pointer (some ⟨r5, 0, none⟩), .int .i64 m]) (by simp [results, Tryz.results144, go_sem, d0, d1, d2, d3]) rfl ⟨r5, rfl, by have := HL5.out; omega, RInt.set4 H5.out (HK.out.get (.head _)) (Nat.ne_of_gt HL5.out) _ _ _ _, (HK.out.set4 (by omega) (fun t m => by simp only [List.mem_cons, List.not_mem_nil, or_false] at m; rcases m with rfl | rfl <;> simp <;> omega) (.int .i64 0) (.bool ng) (.pointer (some ⟨r5, 0, none⟩)) (.int .i64 m)).2⟩
theorem Bks.fmt_one {w0 W : World} {l : List (Nat × Nat × Array Value)} {c x s t : Nat} {a b d e f g h i : Value} (hh : Bks w0 W ((c, s, #[f, g, h, i]) :: (x, t, #[a, b, d, e]) :: l)) :
  (W.cell? ⟨c, 0, none⟩ = some f ∧ W.cell? ⟨c, 1, none⟩ = some g ∧ W.cell? ⟨c, 2, none⟩ = some h ∧ W.cell? ⟨c, 3, none⟩ = some i) ∧ (W.cell? ⟨x, 0, none⟩ = some a ∧ W.cell? ⟨x, 1, none⟩ = some b ∧ W.cell? ⟨x, 2, none⟩ = some d ∧ W.cell? ⟨x, 3, none⟩ = some e) :=
 ⟨(hh.get (.head _)).cells4.1, (hh.get (.tail _ (.head _))).cells4.1⟩
set_option maxRecDepth 100000 in
set_option maxHeartbeats 3200000 in
theorem cSame_any (neg : Bool) (p N : Nat) (e mode : Int) (w : World) (hp : RInt w p (N : Int)) (h0 : N ≠ 0) (hl : bl N ≤ 1048576) (he1 : -100000 ≤ e) (he2 : e ≤ 100000) (hm : mode = 0 ∨ mode = 3 ∨ mode = 4) :
  Calls Tryz.prog 154 #[fmtV, NumV 0 neg p e, .int .i64 mode] w (AnsK (ky (rndX (sgI neg N) e mode)) w) := by
 have HP := Lib.hid hp
 have HZ := Lib.hid fun W h => cIsZero_any neg p N e W h
 rw [decide_eq_false h0] at HZ
 have HRD := Lib.hid fun W h => cRound_any neg p N e false mode W h h0 hl he1 he2 (fun t => by cases t) hm
 rw [show roundR neg N e false mode = rndX (sgI neg N) e mode from if_neg (by decide)] at HRD
 obtain ⟨KK, hKK⟩ : ∃ k, ky (rndX (sgI neg N) e mode) = k := ⟨_, rfl⟩
 rw [hKK]
 have HJ : Hid (W64 (rndX (sgI neg N) e mode) ∧ nanB (rndX (sgI neg N) e mode) = false ∧ ky (rndX (sgI neg N) e mode) = KK) := Lib.hid ⟨(rndX_lt _ e mode).1, num_iff.2 (rndX_lt _ e mode).2, hKK⟩
 clear hKK
 generalize rndX (sgI neg N) e mode = R at *
 have HK := Lib.hid (Bks.new2t w 81 87 #[.int .i64 53, .int .i64 (-1022), .int .i64 1023, .int .i64 11] #[.int .i64 0, .bool neg, .pointer (some ⟨p, 0, none⟩), .int .i64 e])
 unfold NumV fmtV at *
 clear hp h0 hl he1 he2 hm
 go_enter Tryz.func154, Tryz.ntmps154
 obtain ⟨⟨k0, k1, k2, k3⟩, c0, c1, c2, c3⟩ := HK.out.fmt_one
 go_wp2_with fail
 refine (HZ.out _ (HP.out.below HK.out.2)).mono ?_
 rintro e1 w1 ⟨rfl, hb1⟩
 replace HK := Lib.hid (HK.out.later hb1)
 clear hb1
 clear k0 k1 k2 k3 c0 c1 c2 c3
 obtain ⟨⟨k0, k1, k2, k3⟩, c0, c1, c2, c3⟩ := HK.out.fmt_one
 go_wp2_with fail
 refine (HRD.out _ (HP.out.below HK.out.2)).mono ?_
 rintro e2 w2 ⟨fl, rfl, hb2⟩
 replace HK := Lib.hid (HK.out.later hb2)
 clear hb2
 clear k0 k1 k2 k3 c0 c1 c2 c3
 obtain ⟨⟨k0, k1, k2, k3⟩, c0, c1, c2, c3⟩ := HK.out.fmt_one
 go_wp2
 refine bodyPost_ret (v := .tuple #[.int .u64 (R : Nat), .int .i64 fl]) (by simp [results, Tryz.results154, go_sem]) rfl ⟨_, _, rfl, HJ.out.1, HJ.out.2.1, HJ.out.2.2, HK.out.2⟩
set_option maxRecDepth 100000 in
set_option maxHeartbeats 3200000 in
theorem cMul_any (x y p q : Nat) (mode : Int) (w : World) (hx : W64 x) (hy : W64 y) (x0 : ky x ≠ 0) (y0 : ky y ≠ 0) (hmode : mode = 3 ∨ mode = 4) (hp : RInt w p (mntB x : Nat)) (hq : RInt w q (mntB y : Nat)) :
  Calls Tryz.prog 114 #[fmtV, NumV (kndB x) (sgnB x) p (xpnB x), NumV (kndB y) (sgnB y) q (xpnB y), .int .i64 mode] w (AnsK (prK x y mode) w) := by
 have HP := Lib.hid hp
 have HQ := Lib.hid hq
 have HK := Lib.hid (Bks.new3 w 81 87 87 #[.int .i64 53, .int .i64 (-1022), .int .i64 1023, .int .i64 11] #[.int .i64 (kndB x), .bool (sgnB x), .pointer (some ⟨p, 0, none⟩), .int .i64 (xpnB x)] #[.int .i64 (kndB y), .bool (sgnB y), .pointer (some ⟨q, 0, none⟩), .int .i64 (xpnB y)])
 have HZX := Lib.hid fun W h => cIsZ_ne (x := x) (p := p) W hx x0 h
 have HZY := Lib.hid fun W h => cIsZ_ne (x := y) (p := q) W hy y0 h
 obtain ⟨ng, hng⟩ : ∃ s, (!(sgnB x == sgnB y)) = s := ⟨_, rfl⟩
 have hng2 : (sgnB x != sgnB y) = ng := hng
 obtain ⟨f0, hf0⟩ : ∃ f, w.heap.size = f := ⟨_, rfl⟩
 rw [hf0] at HK
 unfold prK
 rw [if_neg (fun h => h.elim x0 y0)]
 cases fx : finB x
 ·rw [if_pos (.inl rfl)]
  have HI := Lib.hid fun W => cInfinity_any ng W
  have HJ := Lib.hid (infin_ok ng)
  rw [show (if ng = true then -(kInf : Int) else (kInf : Int)) = sgK x y by rw [← hng2, bne_xor]; exact xor_sgK hx hy x0 y0] at HJ
  generalize sgK x y = KK at *
  generalize joinB ng 2047 0 = JJ at *
  rw [show kndB x = 1 by unfold kndB; rw [fx]; rfl] at HK HZX ⊢
  cases fy : finB y
  ·rw [show kndB y = 1 by unfold kndB; rw [fy]; rfl] at HK HZY ⊢
   clear hng2 hp hq hx hy x0 y0 hmode fx fy
   generalize sgnB x = sgx at *
   generalize mntB x = mtx at *
   generalize xpnB x = xpx at *
   generalize sgnB y = sgy at *
   generalize mntB y = mty at *
   generalize xpnB y = xpy at *
   unfold NumV fmtV at *
   go_enter Tryz.func114, Tryz.ntmps114
   obtain ⟨⟨k0, k1, k2, k3⟩, ⟨c0, c1, c2, c3⟩, g0, g1, g2, g3⟩ := HK.out.fmt_two
   go_wp2_with fail
   refine (HZY.out _ (HQ.out.below HK.out.2)).mono ?_
   rintro e1 w1 ⟨rfl, hb1⟩
   replace HK := Lib.hid (HK.out.later hb1)
   clear hb1
   clear k0 k1 k2 k3 c0 c1 c2 c3 g0 g1 g2 g3
   obtain ⟨⟨k0, k1, k2, k3⟩, ⟨c0, c1, c2, c3⟩, g0, g1, g2, g3⟩ := HK.out.fmt_two
   go_wp2_with fail
   refine (HZX.out _ (HP.out.below HK.out.2)).mono ?_
   rintro e2 w2 ⟨rfl, hb2⟩
   replace HK := Lib.hid (HK.out.later hb2)
   clear hb2
   clear k0 k1 k2 k3 c0 c1 c2 c3 g0 g1 g2 g3
   obtain ⟨⟨k0, k1, k2, k3⟩, ⟨c0, c1, c2, c3⟩, g0, g1, g2, g3⟩ := HK.out.fmt_two
   go_wp2_with fail
   refine (HI.out _).mono ?_
   rintro e3 w3 ⟨rfl, hb3⟩
   replace HK := Lib.hid (HK.out.later hb3)
   clear hb3
   clear k0 k1 k2 k3 c0 c1 c2 c3 g0 g1 g2 g3
   obtain ⟨⟨k0, k1, k2, k3⟩, ⟨c0, c1, c2, c3⟩, g0, g1, g2, g3⟩ := HK.out.fmt_two
   go_wp2
   refine bodyPost_ret (v := .tuple #[.int .u64 (JJ : Nat), .int .i64 0]) (by simp [results, Tryz.results114, go_sem]) rfl ⟨_, _, rfl, HJ.out.1, HJ.out.2.1, HJ.out.2.2, HK.out.2⟩
  ·rw [show kndB y = 0 by exact knd_fin fy] at HK HZY ⊢
   clear hng2 hp hq hx hy x0 y0 hmode fx fy
   generalize sgnB x = sgx at *
   generalize mntB x = mtx at *
   generalize xpnB x = xpx at *
   generalize sgnB y = sgy at *
   generalize mntB y = mty at *
   generalize xpnB y = xpy at *
   unfold NumV fmtV at *
   go_enter Tryz.func114, Tryz.ntmps114
   obtain ⟨⟨k0, k1, k2, k3⟩, ⟨c0, c1, c2, c3⟩, g0, g1, g2, g3⟩ := HK.out.fmt_two
   go_wp2_with fail
   refine (HZY.out _ (HQ.out.below HK.out.2)).mono ?_
   rintro e1 w1 ⟨rfl, hb1⟩
   replace HK := Lib.hid (HK.out.later hb1)
   clear hb1
   clear k0 k1 k2 k3 c0 c1 c2 c3 g0 g1 g2 g3
   obtain ⟨⟨k0, k1, k2, k3⟩, ⟨c0, c1, c2, c3⟩, g0, g1, g2, g3⟩ := HK.out.fmt_two
   go_wp2_with fail
   refine (HI.out _).mono ?_
   rintro e2 w2 ⟨rfl, hb2⟩
   replace HK := Lib.hid (HK.out.later hb2)
   clear hb2
   clear k0 k1 k2 k3 c0 c1 c2 c3 g0 g1 g2 g3
   obtain ⟨⟨k0, k1, k2, k3⟩, ⟨c0, c1, c2, c3⟩, g0, g1, g2, g3⟩ := HK.out.fmt_two
   go_wp2
   refine bodyPost_ret (v := .tuple #[.int .u64 (JJ : Nat), .int .i64 0]) (by simp [results, Tryz.results114, go_sem]) rfl ⟨_, _, rfl, HJ.out.1, HJ.out.2.1, HJ.out.2.2, HK.out.2⟩
 rw [show kndB x = 0 by exact knd_fin fx] at HK HZX ⊢
 cases fy : finB y
 ·rw [if_pos (.inr rfl)]
  have HI := Lib.hid fun W => cInfinity_any ng W
  have HJ := Lib.hid (infin_ok ng)
  rw [show (if ng = true then -(kInf : Int) else (kInf : Int)) = sgK x y by rw [← hng2, bne_xor]; exact xor_sgK hx hy x0 y0] at HJ
  generalize sgK x y = KK at *
  generalize joinB ng 2047 0 = JJ at *
  rw [show kndB y = 1 by unfold kndB; rw [fy]; rfl] at HK HZY ⊢
  clear hng2 hp hq hx hy x0 y0 hmode fx fy
  generalize sgnB x = sgx at *
  generalize mntB x = mtx at *
  generalize xpnB x = xpx at *
  generalize sgnB y = sgy at *
  generalize mntB y = mty at *
  generalize xpnB y = xpy at *
  unfold NumV fmtV at *
  go_enter Tryz.func114, Tryz.ntmps114
  obtain ⟨⟨k0, k1, k2, k3⟩, ⟨c0, c1, c2, c3⟩, g0, g1, g2, g3⟩ := HK.out.fmt_two
  go_wp2_with fail
  refine (HZX.out _ (HP.out.below HK.out.2)).mono ?_
  rintro e1 w1 ⟨rfl, hb1⟩
  replace HK := Lib.hid (HK.out.later hb1)
  clear hb1
  clear k0 k1 k2 k3 c0 c1 c2 c3 g0 g1 g2 g3
  obtain ⟨⟨k0, k1, k2, k3⟩, ⟨c0, c1, c2, c3⟩, g0, g1, g2, g3⟩ := HK.out.fmt_two
  go_wp2_with fail
  refine (HI.out _).mono ?_
  rintro e2 w2 ⟨rfl, hb2⟩
  replace HK := Lib.hid (HK.out.later hb2)
  clear hb2
  clear k0 k1 k2 k3 c0 c1 c2 c3 g0 g1 g2 g3
  obtain ⟨⟨k0, k1, k2, k3⟩, ⟨c0, c1, c2, c3⟩, g0, g1, g2, g3⟩ := HK.out.fmt_two
  go_wp2
  refine bodyPost_ret (v := .tuple #[.int .u64 (JJ : Nat), .int .i64 0]) (by simp [results, Tryz.results114, go_sem]) rfl ⟨_, _, rfl, HJ.out.1, HJ.out.2.1, HJ.out.2.2, HK.out.2⟩
 rw [if_neg (by simp)]
 rw [show kndB y = 0 by exact knd_fin fy] at HK HZY ⊢
 obtain ⟨N, m, hN, hm, n0, l1, l2, l3, hkk⟩ := prod_place hx hy fx fy x0 y0 mode
 rw [hng2] at hkk
 have ex := xpn_bd fx
 have ey := xpn_bd fy
 have cx := mnt_bd x
 have cy := mnt_bd y
 have hlA := Nat.le_trans (ln_le_bl 32 (mntB x) (by decide)) cx
 have hlB := Nat.le_trans (ln_le_bl 32 (mntB y) (by decide)) cy
 have HTM := Lib.hid fun W h1 h2 => cTimes_any (sgnB x) (sgnB y) p q (mntB x) (mntB y) (xpnB x) (xpnB y) W h1 h2 (by omega) (by omega) (by omega)
 rw [hN, hm, hng2] at HTM
 have HSM := Lib.hid fun r W h => cSame_any ng r N m mode W h n0 l1 l2 l3 (by omega)
 rw [hkk] at HSM
 generalize mlK x y mode = KK at *
 clear hkk hN hm n0 l1 l2 l3 ex ey cx cy hlA hlB
 clear hng2 hp hq hx hy x0 y0 hmode fx fy
 generalize sgnB x = sgx at *
 generalize mntB x = mtx at *
 generalize xpnB x = xpx at *
 generalize sgnB y = sgy at *
 generalize mntB y = mty at *
 generalize xpnB y = xpy at *
 unfold NumNew at *
 unfold NumV fmtV at *
 go_enter Tryz.func114, Tryz.ntmps114
 obtain ⟨⟨k0, k1, k2, k3⟩, ⟨c0, c1, c2, c3⟩, g0, g1, g2, g3⟩ := HK.out.fmt_two
 go_upto_region 8 with fail
 clear k0 k1 k2 k3 c0 c1 c2 c3 g0 g1 g2 g3
 replace HP := Lib.hid (HP.out.below HK.out.2)
 replace HQ := Lib.hid (HQ.out.below HK.out.2)
 refine wp_region_pl (fun w' : World => (w'.cell? ⟨f0, 0, none⟩ = some (.int .i64 53) ∧ w'.cell? ⟨f0, 1, none⟩ = some (.int .i64 (-1022)) ∧ w'.cell? ⟨f0, 2, none⟩ = some (.int .i64 1023) ∧ w'.cell? ⟨f0, 3, none⟩ = some (.int .i64 11)) ∧ (w'.cell? ⟨f0 + 1, 0, none⟩ = some (.int .i64 0) ∧ w'.cell? ⟨f0 + 1, 1, none⟩ = some (.bool sgx) ∧ w'.cell? ⟨f0 + 1, 2, none⟩ = some (.pointer (some ⟨p, 0, none⟩)) ∧ w'.cell? ⟨f0 + 1, 3, none⟩ = some (.int .i64 xpx)) ∧ w'.cell? ⟨f0 + 1 + 1, 0, none⟩ = some (.int .i64 0) ∧ w'.cell? ⟨f0 + 1 + 1, 1, none⟩ = some (.bool sgy) ∧ w'.cell? ⟨f0 + 1 + 1, 2, none⟩ = some (.pointer (some ⟨q, 0, none⟩)) ∧ w'.cell? ⟨f0 + 1 + 1, 3, none⟩ = some (.int .i64 xpy)) 8 (.take 0 (.take 1 (.take 2 (.take 4 (.run 3 (.run 5 (.take 6 (.take 7 (.nil))))))))) (by kernel_rfl) (by kernel_rfl) ?_
 replace HK := Lib.hid (HK.out.later (drew_below _))
 replace HP := Lib.hid (HP.out.below (drew_below _))
 replace HQ := Lib.hid (HQ.out.below (drew_below _))
 generalize World.drew _ = W8 at HK HP HQ ⊢
 repeat (refine tkL (v := ?_) rfl rfl rfl (fun w' hSw => ?_) HK.out.fmt_two ?_; rotate_left; (focus (go_simp; with_reducible rfl)); simp only [setL])
 refine wpPl_goL rfl rfl fun K' hK => ?_
 go_simp
 refine (HTM.out _ HP.out HQ.out).mono ?_
 rintro e1 W8v1 ⟨r, rfl, -, hr, hb1⟩
 replace HK := Lib.hid (HK.out.later hb1)
 replace HP := Lib.hid (HP.out.below hb1)
 replace HQ := Lib.hid (HQ.out.below hb1)
 have HR := Lib.hid hr
 clear hr
 refine hK _ _ HK.out.fmt_two ?_
 clear hK K' hb1
 try simp only [Act.put, setL]
 repeat (refine tkL (v := ?_) rfl rfl rfl (fun w' hSw => ?_) HK.out.fmt_two ?_; rotate_left; (focus (go_simp; with_reducible rfl)); simp only [setL])
 refine wpPl_goL rfl rfl fun K' hK => ?_
 go_simp
 refine (HSM.out r _ HR.out).mono ?_
 rintro e1 W8v2 ⟨R, fl, rfl, a1, a2, a3, hb1⟩
 replace HK := Lib.hid (HK.out.later hb1)
 replace HP := Lib.hid (HP.out.below hb1)
 replace HQ := Lib.hid (HQ.out.below hb1)
 have HJ := Lib.hid (And.intro a1 (And.intro a2 a3))
 clear a1 a2 a3
 refine hK _ _ HK.out.fmt_two ?_
 clear hK K' hb1
 try simp only [Act.put, setL]
 repeat (refine tkL (v := ?_) rfl rfl rfl (fun w' hSw => ?_) HK.out.fmt_two ?_; rotate_left; (focus (go_simp; with_reducible rfl)); simp only [setL])
 refine wpPl_nil ?_
 simp only [drL]
 go_wp2
 refine bodyPost_ret (v := .tuple #[.int .u64 (R : Nat), .int .i64 fl]) (by simp [results, Tryz.results114, go_sem]) rfl ⟨_, _, rfl, HJ.out.1, HJ.out.2.1, HJ.out.2.2, HK.out.2⟩
end
end Go.Proofs.YtloohbkceppocaaGreatDoor
