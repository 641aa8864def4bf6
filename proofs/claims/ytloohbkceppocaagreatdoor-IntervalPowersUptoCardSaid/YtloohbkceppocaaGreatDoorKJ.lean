/- Walks: the references' power, Pow, Dot; what Pow and Dot answer to what they refuse. Printed by wip/gen/cxb.py. -/
import Derived.Test.YtloohbkceppocaaGreatDoorKH
import Derived.Test.YtloohbkceppocaaGreatDoorKI
import Derived.Test.YtloohbkceppocaaGreatDoorII
import Derived.Test.YtloohbkceppocaaGreatDoorIM
import Derived.Test.YtloohbkceppocaaGreatDoorGQ
import Derived.Test.YtloohbkceppocaaGreatDoorGM
import Derived.Test.YtloohbkceppocaaGreatDoorGL
import Derived.Test.YtloohbkceppocaaGreatDoorHB
namespace Go.Proofs.YtloohbkceppocaaGreatDoor
section
open Go.RowKit
attribute [local go_sem] run_store_f
def sgP (s : Bool) : Nat → Bool
 | 0 => false
 | k + 1 => sgP s k != s
theorem sgP_one (s : Bool) : sgP s 1 = s := by cases s <;> rfl
theorem sgI_pow (s : Bool) (A : Nat) : ∀ k : Nat, sgI (sgP s k) (A ^ k) = sgI s A ^ k
 | 0 => by rw [Nat.pow_zero, Int.pow_zero]; rfl
 | k + 1 => by rw [Nat.pow_succ, Int.pow_succ, ← sgI_pow s A k]; exact sgI_mul (sgP s k) s (A ^ k) A
theorem bl_powN {A b : Nat} (h : bl A ≤ b) : ∀ k : Nat, bl (A ^ k) ≤ b * k + 1
 | 0 => by rw [Nat.pow_zero, show bl 1 = 1 by decide]; omega
 | k + 1 => by
  have h1 := bl_powN h k
  have h2 := bl_mul (A ^ k) A
  rw [Nat.pow_succ, Nat.mul_succ]; omega
theorem power_place {x n : Nat} (hx : W64 x) (fx : finB x = true) (x0 : ky x ≠ 0) (h2 : n ≤ 16) (mode : Int) :
  mntB x ^ n ≠ 0 ∧ bl (mntB x ^ n) ≤ 1048576 ∧ -100000 ≤ xpnB x * (n : Int) ∧ xpnB x * (n : Int) ≤ 100000 ∧ ky (rndX (sgI (sgP (sgnB x) n) (mntB x ^ n)) (xpnB x * (n : Int)) mode) = pwK x n mode := by
 have ex := xpn_bd fx
 have cx := mnt_bd x
 have px := pE_bd fx
 have hb := bl_powN cx n
 have hm1 : 53 * n ≤ 53 * 16 := Nat.mul_le_mul_left _ h2
 have e1 : -1074 * (n : Int) ≤ xpnB x * (n : Int) := Int.mul_le_mul_of_nonneg_right (by omega) (by omega)
 have e2 : xpnB x * (n : Int) ≤ 971 * (n : Int) := Int.mul_le_mul_of_nonneg_right (by omega) (by omega)
 have e3 : -1074 * (n : Int) ≤ pE x * (n : Int) := Int.mul_le_mul_of_nonneg_right (by omega) (by omega)
 refine ⟨Nat.ne_of_gt (Nat.pow_pos (Nat.pos_of_ne_zero (mnt_ne hx fx x0))), by omega, by omega, by omega, ?_⟩
 unfold pwK
 refine ky_same (M := 1074 * (n : Int)) mode (by omega) (by omega) (by omega) ?_
 rw [sgI_pow, sc_powr (by omega), sc_powr (by omega), sc_take fx (Int.le_refl _)]
theorem power_step {sx : Bool} {A k n r q : Nat} {xp : Int} (hk : k < n) (h2 : n ≤ 16) (cx : bl A ≤ 53) (ex : -1074 ≤ xp ∧ xp ≤ 971) (W : World) (h1 : RInt W r ((A ^ k : Nat) : Int)) (h3 : RInt W q (A : Int)) :
  Calls Tryz.prog 144 #[NumV 0 (sgP sx k) r (xp * (k : Int)), NumV 0 sx q xp] W (NumNew 0 (sgP sx (k + 1)) ((A ^ (k + 1) : Nat) : Int) (xp * ((k + 1 : Nat) : Int)) W) := by
 have hb := bl_powN cx k
 have hm1 : 53 * k ≤ 53 * 16 := Nat.mul_le_mul_left _ (by omega)
 have e1 : -1074 * (k : Int) ≤ xp * (k : Int) := Int.mul_le_mul_of_nonneg_right (by omega) (by omega)
 have e2 : xp * (k : Int) ≤ 971 * (k : Int) := Int.mul_le_mul_of_nonneg_right (by omega) (by omega)
 have hlA := Nat.le_trans (ln_le_bl 32 A (by decide)) cx
 have hlK := Nat.le_trans (ln_le_bl 32 (A ^ k) (by decide)) hb
 have := cTimes_any (sgP sx k) sx r q (A ^ k) A (xp * (k : Int)) xp W h1 h3 (by omega) (by omega) (by omega)
 rw [← Nat.pow_succ, show xp * (k : Int) + xp = xp * ((k + 1 : Nat) : Int) by rw [Int.natCast_add, Int.mul_add]; omega] at this
 exact this
theorem abs_ok {x : Nat} (hx : W64 x) (nx : nanB x = false) : W64 (x % kSign) ∧ nanB (x % kSign) = false ∧ ky (x % kSign) = ((ky x).natAbs : Int) := by
 have hs : kSign = 9223372036854775808 := rfl
 have h1 := num_of nx
 have hlt : x % kSign < kSign := Nat.mod_lt _ (by decide)
 have hw : W64 (x % kSign) := by show x % kSign < 18446744073709551616; omega
 refine ⟨hw, num_iff.2 (by rw [Nat.mod_mod]; exact h1), ?_⟩
 rw [ky_abs hx]
 unfold ky
 rw [if_pos hlt]
theorem to_edge {x n : Nat} {mode : Int} (hx : W64 x) (nx : nanB x = false) (h1 : 1 ≤ n) (c : finB x = false ∨ ky x = 0) :
  (if finB x = true then pwK x n mode else if n % 2 = 0 then (kInf : Int) else ky x) = if n % 2 = 0 then ((ky x).natAbs : Int) else ky x := by
 cases fx : finB x
 ·have hp := inf_place hx nx fx
  rw [if_neg (by decide)]
  split
  ·rw [hp]; cases sgnB x <;> rfl
  ·rfl
 ·have h0 := c.resolve_left (fun t => by rw [fx] at t; cases t)
  rw [if_pos rfl, h0]
  have hv : valZ x = 0 := by rcases nought_two h0 with rfl | rfl <;> decide
  have : pwK x n mode = 0 := by
   unfold pwK
   rw [hv, Int.zero_pow (by omega), show rndX 0 (pE x * (n : Int)) mode = 0 from if_pos rfl]; decide
  rw [this]; split <;> rfl
set_option maxRecDepth 100000 in
set_option maxHeartbeats 3200000 in
theorem rPower_iv (x n : Nat) (mode : Int) (w : World) (hx : W64 x) (nx : nanB x = false) (h1 : 1 ≤ n) (h2 : n ≤ 16) (hmode : mode = 3 ∨ mode = 4) : Calls Tryz.prog 95 #[.float .f64 x, .int .i64 (n : Int), .int .i64 mode] w (GivesK (toK x n mode) w) := by
 have t1 := eq_test hx (by decide : W64 0) nx (by decide)
 rw [ky_zero] at t1
 have HB := Lib.hid (Below.refl w.heap.size w)
 have HI := Lib.hid fun W => isInf_iv x W hx nx
 have HAB := Lib.hid fun W => abs_any x W hx
 have hab := ky_abs hx
 have aok : W64 (x % kSign) ∧ nanB (x % kSign) = false ∧ ky (x % kSign) = (ky x).natAbs := abs_ok hx nx
 unfold toK
 by_cases c : finB x = false ∨ ky x = 0
 ·have hk : (if finB x = true then pwK x n mode else if n % 2 = 0 then (kInf : Int) else ky x) = if n % 2 = 0 then ((ky x).natAbs : Int) else ky x := to_edge hx nx h1 c
  rw [hk]
  by_cases hp : n % 2 = 0
  ·have t3 : ((n : Int).tmod 2 == 0) = true := by
    have : (n : Int).tmod 2 = 0 := by rw [Int.tmod_eq_emod_of_nonneg (by omega)]; omega
    rw [this]; rfl
   have t4 : ((n : Int) % 2 == 0) = true := by rw [beq_iff_eq]; omega
   have HJ := Lib.hid aok
   rw [if_pos hp]
   generalize ((ky x).natAbs : Int) = KK at *
   generalize x % kSign = xa at *
   clear aok hk hp hab h1 h2 hmode
   cases fx : finB x
   ·rw [fx, Bool.not_false] at HI
    clear hx nx c fx t1
    go_enter Tryz.func95, Tryz.ntmps95
    go_wp2_with fail
    refine (HI.out _).mono ?_
    rintro e1 w1 ⟨rfl, hb1⟩
    replace HB := Lib.hid (HB.out.trans (hb1.mono HB.out.size))
    clear hb1
    go_wp2_with fail
    refine (HAB.out _).mono ?_
    rintro e2 w2 ⟨rfl, hb2⟩
    replace HB := Lib.hid (HB.out.trans (hb2.mono HB.out.size))
    clear hb2
    go_wp2
    go_ret
    exact ⟨_, rfl, HJ.out.1, HJ.out.2.1, HJ.out.2.2, HB.out⟩
   ·rw [fx, Bool.not_true] at HI
    rw [decide_eq_true (c.resolve_left (fun t => by rw [fx] at t; cases t))] at t1
    clear hx nx c fx
    go_enter Tryz.func95, Tryz.ntmps95
    go_wp2_with fail
    refine (HI.out _).mono ?_
    rintro e1 w1 ⟨rfl, hb1⟩
    replace HB := Lib.hid (HB.out.trans (hb1.mono HB.out.size))
    clear hb1
    go_wp2_with fail
    refine (HAB.out _).mono ?_
    rintro e2 w2 ⟨rfl, hb2⟩
    replace HB := Lib.hid (HB.out.trans (hb2.mono HB.out.size))
    clear hb2
    go_wp2
    go_ret
    exact ⟨_, rfl, HJ.out.1, HJ.out.2.1, HJ.out.2.2, HB.out⟩
  ·have t3 : ((n : Int).tmod 2 == 0) = false := by
    have : (n : Int).tmod 2 = 1 := by rw [Int.tmod_eq_emod_of_nonneg (by omega)]; omega
    rw [this]; rfl
   have t4 : ((n : Int) % 2 == 0) = false := by rw [beq_eq_false_iff_ne]; omega
   have HJ : Hid (W64 x ∧ nanB x = false ∧ ky x = ky x) := Lib.hid ⟨hx, nx, rfl⟩
   rw [if_neg hp]
   obtain ⟨KK, hKK⟩ : ∃ k, ky x = k := ⟨_, rfl⟩
   rw [hKK]
   replace HJ : Hid (W64 x ∧ nanB x = false ∧ ky x = KK) := Lib.hid ⟨hx, nx, hKK⟩
   clear aok hk hp hab h1 h2 hmode HAB
   cases fx : finB x
   ·rw [fx, Bool.not_false] at HI
    clear hx nx c fx t1 hKK
    go_enter Tryz.func95, Tryz.ntmps95
    go_wp2_with fail
    refine (HI.out _).mono ?_
    rintro e1 w1 ⟨rfl, hb1⟩
    replace HB := Lib.hid (HB.out.trans (hb1.mono HB.out.size))
    clear hb1
    go_wp2
    go_ret
    exact ⟨_, rfl, HJ.out.1, HJ.out.2.1, HJ.out.2.2, HB.out⟩
   ·rw [fx, Bool.not_true] at HI
    rw [decide_eq_true (c.resolve_left (fun t => by rw [fx] at t; cases t))] at t1
    clear hx nx c fx hKK
    go_enter Tryz.func95, Tryz.ntmps95
    go_wp2_with fail
    refine (HI.out _).mono ?_
    rintro e1 w1 ⟨rfl, hb1⟩
    replace HB := Lib.hid (HB.out.trans (hb1.mono HB.out.size))
    clear hb1
    go_wp2
    go_ret
    exact ⟨_, rfl, HJ.out.1, HJ.out.2.1, HJ.out.2.2, HB.out⟩
 have fx : finB x = true := by cases h : finB x; exact absurd (.inl h) c; rfl
 have x0 : ky x ≠ 0 := fun h => c (.inr h)
 rw [if_pos fx]
 rw [fx, Bool.not_true] at HI
 rw [decide_eq_false x0] at t1
 obtain ⟨p1, p2, p3, p4, p5⟩ := power_place hx fx x0 h2 mode
 have HNB := Lib.hid fun R fl W => cnumber_any R fl W
 have HD := Lib.hid fun W => cDouble_any W
 have HNX := Lib.hid fun W => cnum_fin x W hx fx
 have ex := xpn_bd fx
 have cx := mnt_bd x
 rw [← p5]
 have HRD := Lib.hid fun b W h => cRound_any (sgP (sgnB x) n) b (mntB x ^ n) (xpnB x * (n : Int)) false mode W h p1 p2 p3 p4 (fun t => by cases t) (by omega)
 rw [show roundR (sgP (sgnB x) n) (mntB x ^ n) (xpnB x * (n : Int)) false mode = rndX (sgI (sgP (sgnB x) n) (mntB x ^ n)) (xpnB x * (n : Int)) mode from if_neg (by decide)] at HRD
 have HJ : Hid (W64 (rndX (sgI (sgP (sgnB x) n) (mntB x ^ n)) (xpnB x * (n : Int)) mode) ∧ nanB (rndX (sgI (sgP (sgnB x) n) (mntB x ^ n)) (xpnB x * (n : Int)) mode) = false) := Lib.hid ⟨(rndX_lt _ _ mode).1, num_iff.2 (rndX_lt _ _ mode).2⟩
 generalize rndX (sgI (sgP (sgnB x) n) (mntB x ^ n)) (xpnB x * (n : Int)) mode = R at *
 have HTS := Lib.hid fun (k r q : Nat) (hk : k < n) W h1 h3 => power_step (sx := sgnB x) (A := mntB x) (k := k) (r := r) (q := q) (xp := xpnB x) hk h2 cx ex W h1 h3
 generalize sgnB x = sx at *
 generalize mntB x = A at *
 generalize xpnB x = xp at *
 clear hab aok p1 p2 p3 p4 p5 ex cx hx nx c x0 fx hmode HAB
 unfold NumNew at *
 unfold NumV fmtV at *
 go_enter Tryz.func95, Tryz.ntmps95
 go_wp2_with fail
 refine (HI.out _).mono ?_
 rintro e1 w1 ⟨rfl, hb1⟩
 replace HB := Lib.hid (HB.out.trans (hb1.mono HB.out.size))
 clear hb1
 go_wp2_with fail
 refine (HNX.out _).mono ?_
 rintro e2 w2 ⟨q0, rfl, hq, hq0, hb2⟩
 replace HB := Lib.hid (HB.out.trans (hb2.mono HB.out.size))
 have HQ0 := Lib.hid hq0
 have HQN : Hid (q0 ≠ w2.heap.size) := Lib.hid (Nat.ne_of_lt hq0.1.1)
 have HBL : Hid (w.heap.size ≤ w2.heap.size) := Lib.hid HB.out.size
 clear hb2 hq hq0
 have HK := Lib.hid (((Bks.nil w).later HB.out).alloc #[.int .i64 0, .bool sx, .pointer (some ⟨q0, 0, none⟩), .int .i64 xp] 87)
 replace HQ0 := Lib.hid (HQ0.out.below (Below.alloc_self w2 (.cells #[.int .i64 0, .bool sx, .pointer (some ⟨q0, 0, none⟩), .int .i64 xp] 87)))
 go_upto_region 6 with fail
 generalize World.alloc w2 _ = W2 at HK HQ0 ⊢
 generalize w2.heap.size = b7 at *
 clear HI HB t1
 go_wp2
 go_loopw [8] (fun i wr => ∃ k r : Nat, (1 ≤ k ∧ k ≤ n) ∧ i = .int .i64 (k : Int) ∧ Hid (RInt wr r ((A ^ k : Nat) : Int)) ∧ Hid (r ≠ b7) ∧ Hid (Bks w wr [(b7, 87, #[.int .i64 0, .bool (sgP sx k), .pointer (some ⟨r, 0, none⟩), .int .i64 (xp * (k : Int))])])) (fun i _ => n - (intOf i).toNat)
 case atStart => exact ⟨1, q0, ⟨Nat.le_refl _, h1⟩, rfl, Lib.hid (by rw [Nat.pow_one]; exact HQ0.out), HQN, Lib.hid (by rw [sgP_one, show xp * ((1 : Nat) : Int) = xp by omega]; exact HK.out)⟩
 case round =>
  clear HK HQ0 HQN
  obtain ⟨k, r, hk, rfl, HR, HRN, HK⟩ := hrel
  obtain ⟨sg, hsg⟩ : ∃ s, sgP sx k = s := ⟨_, rfl⟩
  obtain ⟨e, he⟩ : ∃ s, xp * (k : Int) = s := ⟨_, rfl⟩
  rw [hsg, he] at HK
  by_cases hlt : k < n
  ·have HTM := Lib.hid fun q W h1 h3 => HTS.out k r q hlt W h1 h3
   obtain ⟨sg2, hsg2⟩ : ∃ s, sgP sx (k + 1) = s := ⟨_, rfl⟩
   obtain ⟨e2, he2⟩ : ∃ s, xp * ((k + 1 : Nat) : Int) = s := ⟨_, rfl⟩
   rw [hsg, he, hsg2, he2] at HTM
   have HBK := Lib.hid (And.intro hsg2 he2)
   clear hsg he hsg2 he2
   have t9 : decide ((k : Int) < (n : Int)) = true := decide_eq_true (by omega)
   generalize A ^ k = N at *
   obtain ⟨N2, hN2⟩ : ∃ s, A ^ (k + 1) = s := ⟨_, rfl⟩
   rw [hN2] at HTM
   replace hN2 := Lib.hid hN2
   go_upto_region 9 with fail
   refine wp_region_pl (fun w' : World => w'.cell? ⟨b7, 0, none⟩ = some (.int .i64 0) ∧ w'.cell? ⟨b7, 1, none⟩ = some (.bool sg) ∧ w'.cell? ⟨b7, 2, none⟩ = some (.pointer (some ⟨r, 0, none⟩)) ∧ w'.cell? ⟨b7, 3, none⟩ = some (.int .i64 e)) 4 (.take 0 (.take 1 (.run 2 (.run 3 (.nil))))) (by kernel_rfl) (by kernel_rfl) ?_
   replace HK := Lib.hid (HK.out.later (drew_below _))
   replace HR := Lib.hid (HR.out.below (drew_below _))
   generalize World.drew _ = W9 at HK HR ⊢
   repeat (refine tkL (v := ?_) rfl rfl rfl (fun w' hSw => ?_) (HK.out.get (.head _)).cells4.1 ?_; rotate_left; (focus (go_simp; with_reducible rfl)); simp only [setL])
   refine wpPl_goL rfl rfl fun K' hK => ?_
   go_simp
   refine (HNX.out _).mono ?_
   rintro e1 W9v1 ⟨q1, rfl, -, hq1, hb1⟩
   replace HK := Lib.hid (HK.out.later hb1)
   replace HR := Lib.hid (HR.out.below hb1)
   have HQ1 := Lib.hid hq1
   clear hq1
   refine hK _ _ (HK.out.get (.head _)).cells4.1 ?_
   clear hK K' hb1
   try simp only [Act.put, setL]
   repeat (refine tkL (v := ?_) rfl rfl rfl (fun w' hSw => ?_) (HK.out.get (.head _)).cells4.1 ?_; rotate_left; (focus (go_simp; with_reducible rfl)); simp only [setL])
   refine wpPl_goL rfl rfl fun K' hK => ?_
   go_simp
   refine (HTM.out q1 _ HR.out HQ1.out).mono ?_
   rintro e1 W9v2 ⟨r2, rfl, hl2, hr2, hb1⟩
   replace HK := Lib.hid (HK.out.later hb1)
   replace HR := Lib.hid (HR.out.below hb1)
   have HR2 := Lib.hid hr2
   have HL2 := Lib.hid hl2
   clear hr2 hl2 HQ1
   refine hK _ _ (HK.out.get (.head _)).cells4.1 ?_
   clear hK K' hb1
   try simp only [Act.put, setL]
   repeat (refine tkL (v := ?_) rfl rfl rfl (fun w' hSw => ?_) (HK.out.get (.head _)).cells4.1 ?_; rotate_left; (focus (go_simp; with_reducible rfl)); simp only [setL])
   refine wpPl_nil ?_
   simp only [drL]
   have HN2 := Lib.hid (ne_num HR2.out (HK.out.get (.head _)))
   obtain ⟨⟨d0, d1, d2, d3⟩, d4, d5, d6, d7⟩ := (HK.out.get (.head _)).cells4
   have HR3 := Lib.hid (RInt.set4 HR2.out (HK.out.get (.head _)) HN2.out (.int .i64 0) (.bool sg2) (.pointer (some ⟨r2, 0, none⟩)) (.int .i64 e2))
   have HK3 := Lib.hid (HK.out.set4 HBL.out (fun t m => by cases m) (.int .i64 0) (.bool sg2) (.pointer (some ⟨r2, 0, none⟩)) (.int .i64 e2))
   clear HR HK HR2 HL2
   go_wp2
   go_roundw
   case rel => exact ⟨k + 1, r2, by omega, by go_num, Lib.hid (by rw [hN2.out]; exact HR3.out), HN2, Lib.hid (by rw [HBK.out.1, HBK.out.2]; exact HK3.out)⟩
   case measure => simp [intOf]; omega
  ·obtain rfl : k = n := by omega
   have t9 : decide ((k : Int) < (k : Int)) = false := decide_eq_false (by omega)
   rw [hsg, he] at HRD
   generalize A ^ k = N at *
   clear HTS hsg he
   go_upto_region 10 with fail
   refine wp_region_pl (fun w' : World => w'.cell? ⟨b7, 0, none⟩ = some (.int .i64 0) ∧ w'.cell? ⟨b7, 1, none⟩ = some (.bool sg) ∧ w'.cell? ⟨b7, 2, none⟩ = some (.pointer (some ⟨r, 0, none⟩)) ∧ w'.cell? ⟨b7, 3, none⟩ = some (.int .i64 e)) 11 (.take 1 (.take 2 (.take 3 (.take 4 (.take 5 (.take 6 (.take 7 (.run 0 (.run 8 (.take 9 (.take 10 (.nil)))))))))))) (by kernel_rfl) (by kernel_rfl) ?_
   replace HK := Lib.hid (HK.out.later (drew_below _))
   replace HR := Lib.hid (HR.out.below (drew_below _))
   generalize World.drew _ = W10 at HK HR ⊢
   repeat (refine tkL (v := ?_) rfl rfl rfl (fun w' hSw => ?_) (HK.out.get (.head _)).cells4.1 ?_; rotate_left; (focus (go_simp; with_reducible rfl)); simp only [setL])
   refine wpPl_goL rfl rfl fun K' hK => ?_
   go_simp
   refine (HD.out _).mono ?_
   rintro e1 W10v1 ⟨rfl, hb1⟩
   replace HK := Lib.hid (HK.out.later hb1)
   replace HR := Lib.hid (HR.out.below hb1)
   refine hK _ _ (HK.out.get (.head _)).cells4.1 ?_
   clear hK K' hb1
   try simp only [Act.put, setL]
   repeat (refine tkL (v := ?_) rfl rfl rfl (fun w' hSw => ?_) (HK.out.get (.head _)).cells4.1 ?_; rotate_left; (focus (go_simp; with_reducible rfl)); simp only [setL])
   refine wpPl_goL rfl rfl fun K' hK => ?_
   go_simp
   refine (HRD.out r _ HR.out).mono ?_
   rintro e1 W10v2 ⟨fl, rfl, hb1⟩
   replace HK := Lib.hid (HK.out.later hb1)
   replace HR := Lib.hid (HR.out.below hb1)
   refine hK _ _ (HK.out.get (.head _)).cells4.1 ?_
   clear hK K' hb1
   try simp only [Act.put, setL]
   repeat (refine tkL (v := ?_) rfl rfl rfl (fun w' hSw => ?_) (HK.out.get (.head _)).cells4.1 ?_; rotate_left; (focus (go_simp; with_reducible rfl)); simp only [setL])
   refine wpPl_nil ?_
   simp only [drL]
   go_wp2_with fail
   refine (HNB.out R fl _).mono ?_
   rintro e11 w11 ⟨rfl, hb11⟩
   replace HK := Lib.hid (HK.out.later hb11)
   clear hb11
   go_wp2
   go_ret
   exact ⟨R, rfl, HJ.out.1, HJ.out.2, rfl, HK.out.2⟩
set_option maxRecDepth 100000 in
set_option maxHeartbeats 800000 in
theorem pow_no (l h : Nat) (n : Int) (w : World) (hn : n < 0 ∨ 16 < n) : Calls Tryz.prog 41 #[.agg #[.float .f64 l, .float .f64 h], .int .i64 n] w (Gives (.tuple #[.agg #[.float .f64 0, .float .f64 0], .int .i64 1]) w) := by
 have HW := Lib.hid (I1.new w l h)
 have t1 : decide (n < 0) = true ∨ decide (n < 0) = false ∧ decide (16 < n) = true := by
  by_cases c : n < 0
  ·exact .inl (decide_eq_true c)
  ·exact .inr ⟨decide_eq_false c, decide_eq_true (by omega)⟩
 clear hn
 rcases t1 with t1 | ⟨t1, t2⟩
 ·go_enter Tryz.func41, Tryz.ntmps41
  obtain ⟨⟨c0, c1⟩, q0, q1, q2, q3⟩ := HW.out.cells
  go_wp2
  refine bodyPost_ret (v := .tuple #[.agg #[.float .f64 0, .float .f64 0], .int .i64 1]) (by simp [results, Tryz.results41, go_sem, q0, q1]) rfl ⟨rfl, HW.out.2⟩
 ·go_enter Tryz.func41, Tryz.ntmps41
  obtain ⟨⟨c0, c1⟩, q0, q1, q2, q3⟩ := HW.out.cells
  go_wp2
  refine bodyPost_ret (v := .tuple #[.agg #[.float .f64 0, .float .f64 0], .int .i64 1]) (by simp [results, Tryz.results41, go_sem, q0, q1]) rfl ⟨rfl, HW.out.2⟩
set_option maxRecDepth 100000 in
set_option maxHeartbeats 800000 in
theorem rPow_no (l h : Nat) (n : Int) (w : World) (hn : n < 0 ∨ 16 < n) : Calls Tryz.prog 42 #[.agg #[.float .f64 l, .float .f64 h], .int .i64 n] w (Gives (.tuple #[.agg #[.float .f64 0, .float .f64 0], .int .i64 1]) w) := by
 have HW := Lib.hid (I1.new w l h)
 have t1 : decide (n < 0) = true ∨ decide (n < 0) = false ∧ decide (16 < n) = true := by
  by_cases c : n < 0
  ·exact .inl (decide_eq_true c)
  ·exact .inr ⟨decide_eq_false c, decide_eq_true (by omega)⟩
 clear hn
 rcases t1 with t1 | ⟨t1, t2⟩
 ·go_enter Tryz.func42, Tryz.ntmps42
  obtain ⟨⟨c0, c1⟩, q0, q1, q2, q3⟩ := HW.out.cells
  go_wp2
  refine bodyPost_ret (v := .tuple #[.agg #[.float .f64 0, .float .f64 0], .int .i64 1]) (by simp [results, Tryz.results42, go_sem, q0, q1]) rfl ⟨rfl, HW.out.2⟩
 ·go_enter Tryz.func42, Tryz.ntmps42
  obtain ⟨⟨c0, c1⟩, q0, q1, q2, q3⟩ := HW.out.cells
  go_wp2
  refine bodyPost_ret (v := .tuple #[.agg #[.float .f64 0, .float .f64 0], .int .i64 1]) (by simp [results, Tryz.results42, go_sem, q0, q1]) rfl ⟨rfl, HW.out.2⟩
end
section
open Go.RowKit
attribute [local go_sem] run_store_f
set_option maxRecDepth 100000 in
set_option maxHeartbeats 3200000 in
theorem rPow_iv (l h n : Nat) (w : World) (hl : W64 l) (hh : W64 h) (h2 : n ≤ 16) : Calls Tryz.prog 42 #[.agg #[.float .f64 l, .float .f64 h], .int .i64 (n : Int)] w (Gives (.tuple #[.agg #[.float .f64 (ivL (powK (ivK l h) n)), .float .f64 (ivH (powK (ivK l h) n))], .int .i64 0]) w) := by
 have HFA := Lib.hid fun w => rFull_any l h w hl hh
 have HW := Lib.hid (I1.new w l h)
 rcases e1 : ivK l h with _ | p
 ·have HE := Lib.hid fun w => rEmpty_any w
  rw [e1, Option.isSome_none] at HFA
  rw [show powK none n = none by unfold powK; split <;> (try split) <;> rfl, show ivL none = 9218868437227405312 from rfl, show ivH none = 18442240474082181120 from rfl]
  clear e1
  go_enter Tryz.func42, Tryz.ntmps42
  obtain ⟨⟨c0, c1⟩, q0, q1, q2, q3⟩ := HW.out.cells
  go_wp2_with fail
  refine (HFA.out _).mono ?_
  rintro e1 w1 ⟨rfl, hb1⟩
  replace HW := Lib.hid (HW.out.later hb1)
  clear hb1
  clear c0 c1 q0 q1 q2 q3
  obtain ⟨⟨c0, c1⟩, q0, q1, q2, q3⟩ := HW.out.cells
  go_wp2_with fail
  refine (HE.out _).mono ?_
  rintro e2 w2 ⟨rfl, hb2⟩
  replace HW := Lib.hid (HW.out.later hb2)
  clear hb2
  clear c0 c1 q0 q1 q2 q3
  obtain ⟨⟨c0, c1⟩, q0, q1, q2, q3⟩ := HW.out.cells
  go_wp2
  refine bodyPost_ret (v := .tuple #[.agg #[.float .f64 9218868437227405312, .float .f64 18442240474082181120], .int .i64 0]) (by simp [results, Tryz.results42, go_sem, q0, q1]) rfl ⟨rfl, HW.out.stored _ _⟩
 rw [e1, Option.isSome_some] at HFA
 have hok := e1 ▸ ivK_ok hl hh
 have HAB := Lib.hid fun W => rAbs_iv l h W hl hh
 obtain ⟨nl, nh, hp⟩ := ivK_some e1
 rw [e1] at HAB
 by_cases h0 : n = 0
 ·subst h0
  have HMK := Lib.hid fun W => rMade_any 4607182418800017408 4607182418800017408 W (by decide) (by decide) (by decide) (by decide)
  rw [show powK (some p) 0 = some (ky 4607182418800017408, ky 4607182418800017408) from rfl, show ivL (some (ky 4607182418800017408, ky 4607182418800017408)) = kb (ky 4607182418800017408) from rfl, show ivH (some (ky 4607182418800017408, ky 4607182418800017408)) = kb (ky 4607182418800017408) from rfl]
  generalize kb (ky 4607182418800017408) = L at *
  clear e1 hok HAB nl nh hp
  go_enter Tryz.func42, Tryz.ntmps42
  obtain ⟨⟨c0, c1⟩, q0, q1, q2, q3⟩ := HW.out.cells
  go_wp2_with fail
  refine (HFA.out _).mono ?_
  rintro e1 w1 ⟨rfl, hb1⟩
  replace HW := Lib.hid (HW.out.later hb1)
  clear hb1
  clear c0 c1 q0 q1 q2 q3
  obtain ⟨⟨c0, c1⟩, q0, q1, q2, q3⟩ := HW.out.cells
  go_wp2_with fail
  refine (HMK.out _).mono ?_
  rintro e2 w2 ⟨rfl, hb2⟩
  replace HW := Lib.hid (HW.out.later hb2)
  clear hb2
  clear c0 c1 q0 q1 q2 q3
  obtain ⟨⟨c0, c1⟩, q0, q1, q2, q3⟩ := HW.out.cells
  go_wp2
  refine bodyPost_ret (v := .tuple #[.agg #[.float .f64 L, .float .f64 L], .int .i64 0]) (by simp [results, Tryz.results42, go_sem, q0, q1]) rfl ⟨rfl, HW.out.stored _ _⟩
 have t0 : ((n : Int) == 0) = false := by rw [beq_eq_false_iff_ne]; omega
 by_cases hp2 : n % 2 = 0
 ·have t1 : ((n : Int).tmod 2 == 0) = true := by
   have : (n : Int).tmod 2 = 0 := by rw [Int.tmod_eq_emod_of_nonneg (by omega)]; omega
   rw [this]; rfl
  have hokA := absK_ok hok
  rw [show powK (some p) n = (absK (some p)).map fun p => (toK (kb p.1) n 4, toK (kb p.2) n 3) by unfold powK; rw [if_neg h0, if_pos hp2]]
  obtain ⟨a1, b1, hA⟩ : ∃ a1 b1, absK (some p) = some (a1, b1) := by
   rcases p with ⟨a, b⟩
   unfold absK; simp only
   split
   ·exact ⟨_, _, rfl⟩
   ·split <;> exact ⟨_, _, rfl⟩
  rw [hA] at HAB hokA ⊢
  have HTL := Lib.hid fun W => rPower_iv (kb a1) n 4 W (ivL_lt hokA) (ivL_num hokA) (by omega) h2 (.inr rfl)
  have HTH := Lib.hid fun W => rPower_iv (kb b1) n 3 W (ivH_lt hokA) (ivH_num hokA) (by omega) h2 (.inl rfl)
  rw [show ivL ((some (a1, b1)).map fun p => (toK (kb p.1) n 4, toK (kb p.2) n 3)) = kb (toK (kb a1) n 4) from rfl, show ivH ((some (a1, b1)).map fun p => (toK (kb p.1) n 4, toK (kb p.2) n 3)) = kb (toK (kb b1) n 3) from rfl]
  rw [show ivL (some (a1, b1)) = kb a1 from rfl, show ivH (some (a1, b1)) = kb b1 from rfl] at HAB
  generalize toK (kb a1) n 4 = K1 at *
  generalize toK (kb b1) n 3 = K2 at *
  generalize kb a1 = l1 at *
  generalize kb b1 = m1 at *
  clear e1 hok hokA nl nh hp hA
  go_enter Tryz.func42, Tryz.ntmps42
  obtain ⟨⟨c0, c1⟩, q0, q1, q2, q3⟩ := HW.out.cells
  go_wp2_with fail
  refine (HFA.out _).mono ?_
  rintro e1 w1 ⟨rfl, hb1⟩
  replace HW := Lib.hid (HW.out.later hb1)
  clear hb1
  clear c0 c1 q0 q1 q2 q3
  obtain ⟨⟨c0, c1⟩, q0, q1, q2, q3⟩ := HW.out.cells
  go_wp2_with fail
  refine (HAB.out _).mono ?_
  rintro e2 w2 ⟨rfl, hb2⟩
  replace HW := Lib.hid (HW.out.later hb2)
  clear hb2
  clear c0 c1 q0 q1 q2 q3
  obtain ⟨⟨c0, c1⟩, q0, q1, q2, q3⟩ := HW.out.cells
  obtain ⟨z0, z1, z2, z3⟩ := HW.out.1.1.cells2
  go_upto_region 9 with fail
  replace HW := Lib.hid (HW.out.put l1 m1)
  clear z0 z1 z2 z3
  generalize World.setCell (World.setCell w2 _ _) _ _ = W3 at HW ⊢
  clear c0 c1 q0 q1 q2 q3
  refine wp_region_pl (fun w' : World => w'.cell? ⟨w.heap.size, 0, none⟩ = some (.float .f64 l1) ∧ w'.cell? ⟨w.heap.size, 1, none⟩ = some (.float .f64 m1)) 7 (.take 0 (.take 1 (.take 2 (.take 4 (.take 5 (.take 6 (.run 3 .nil))))))) (by kernel_rfl) (by kernel_rfl) ?_
  replace HW := Lib.hid (HW.out.later (drew_below _))
  generalize World.drew _ = W9 at HW ⊢
  have hS : (fun w' : World => w'.cell? ⟨w.heap.size, 0, none⟩ = some (.float .f64 l1) ∧ w'.cell? ⟨w.heap.size, 1, none⟩ = some (.float .f64 m1)) W9 := HW.out.cells.1
  repeat (first | (refine tkL (v := ?_) rfl rfl rfl (fun w' hSw => ?_) hS ?_; rotate_left; (focus (go_simp; with_reducible rfl)); simp only [setL]) | (refine skL rfl rfl rfl hS ?_; simp only [setL]))
  clear hS
  refine wpPl_goL rfl rfl fun K' hK => ?_
  go_simp
  refine (HTL.out _).mono ?_
  rintro e1 W9v1 ⟨r1, rfl, rl, rn, rk, hb1⟩
  replace HW := Lib.hid (HW.out.later hb1)
  have Hr1 := Lib.hid (And.intro rl (And.intro rn rk))
  clear rl rn rk
  refine hK _ _ HW.out.cells.1 ?_
  clear hK K' hb1
  try simp only [Act.put, setL]
  have hS : (fun w' : World => w'.cell? ⟨w.heap.size, 0, none⟩ = some (.float .f64 l1) ∧ w'.cell? ⟨w.heap.size, 1, none⟩ = some (.float .f64 m1)) W9v1 := HW.out.cells.1
  repeat (first | (refine tkL (v := ?_) rfl rfl rfl (fun w' hSw => ?_) hS ?_; rotate_left; (focus (go_simp; with_reducible rfl)); simp only [setL]) | (refine skL rfl rfl rfl hS ?_; simp only [setL]))
  clear hS
  refine wpPl_nil ?_
  simp only [drL]
  obtain ⟨⟨c0, c1⟩, q0, q1, q2, q3⟩ := HW.out.cells
  go_wp2_with fail
  refine (HTH.out _).mono ?_
  rintro e8 w8 ⟨r2, rfl, rl, rn, rk, hb8⟩
  replace HW := Lib.hid (HW.out.later hb8)
  have Hr2 := Lib.hid (And.intro rl (And.intro rn rk))
  clear hb8 rl rn rk
  clear c0 c1 q0 q1 q2 q3
  obtain ⟨⟨c0, c1⟩, q0, q1, q2, q3⟩ := HW.out.cells
  have HMK := Lib.hid fun W => rMade_any r1 r2 W Hr1.out.1 Hr2.out.1 Hr1.out.2.1 Hr2.out.2.1
  rw [Hr1.out.2.2, Hr2.out.2.2] at HMK
  generalize kb K1 = L at *
  generalize kb K2 = H at *
  go_wp2_with fail
  refine (HMK.out _).mono ?_
  rintro e9 w9 ⟨rfl, hb9⟩
  replace HW := Lib.hid (HW.out.later hb9)
  clear hb9
  clear c0 c1 q0 q1 q2 q3
  obtain ⟨⟨c0, c1⟩, q0, q1, q2, q3⟩ := HW.out.cells
  go_wp2
  refine bodyPost_ret (v := .tuple #[.agg #[.float .f64 L, .float .f64 H], .int .i64 0]) (by simp [results, Tryz.results42, go_sem, q0, q1]) rfl ⟨rfl, HW.out.stored _ _⟩
 ·have t1 : ((n : Int).tmod 2 == 0) = false := by
   have : (n : Int).tmod 2 = 1 := by rw [Int.tmod_eq_emod_of_nonneg (by omega)]; omega
   rw [this]; rfl
  rw [show powK (some p) n = some (toK (kb p.1) n 4, toK (kb p.2) n 3) by unfold powK; rw [if_neg h0, if_neg hp2]; rfl]
  rw [show ivL (some (toK (kb p.1) n 4, toK (kb p.2) n 3)) = kb (toK (kb p.1) n 4) from rfl, show ivH (some (toK (kb p.1) n 4, toK (kb p.2) n 3)) = kb (toK (kb p.2) n 3) from rfl]
  subst hp
  rw [show ((ky l, ky h) : Int × Int).1 = ky l from rfl, show ((ky l, ky h) : Int × Int).2 = ky h from rfl, toK_kb, toK_kb]
  have HTL := Lib.hid fun W => rPower_iv l n 4 W hl nl (by omega) h2 (.inr rfl)
  have HTH := Lib.hid fun W => rPower_iv h n 3 W hh nh (by omega) h2 (.inl rfl)
  generalize toK l n 4 = K1 at *
  generalize toK h n 3 = K2 at *
  clear e1 hok HAB nl nh
  go_enter Tryz.func42, Tryz.ntmps42
  obtain ⟨⟨c0, c1⟩, q0, q1, q2, q3⟩ := HW.out.cells
  go_wp2_with fail
  refine (HFA.out _).mono ?_
  rintro e1 w1 ⟨rfl, hb1⟩
  replace HW := Lib.hid (HW.out.later hb1)
  clear hb1
  clear c0 c1 q0 q1 q2 q3
  obtain ⟨⟨c0, c1⟩, q0, q1, q2, q3⟩ := HW.out.cells
  go_upto_region 9 with fail
  clear c0 c1 q0 q1 q2 q3
  refine wp_region_pl (fun w' : World => w'.cell? ⟨w.heap.size, 0, none⟩ = some (.float .f64 l) ∧ w'.cell? ⟨w.heap.size, 1, none⟩ = some (.float .f64 h)) 7 (.take 0 (.take 1 (.take 2 (.take 4 (.take 5 (.take 6 (.run 3 .nil))))))) (by kernel_rfl) (by kernel_rfl) ?_
  replace HW := Lib.hid (HW.out.later (drew_below _))
  generalize World.drew _ = W9 at HW ⊢
  have hS : (fun w' : World => w'.cell? ⟨w.heap.size, 0, none⟩ = some (.float .f64 l) ∧ w'.cell? ⟨w.heap.size, 1, none⟩ = some (.float .f64 h)) W9 := HW.out.cells.1
  repeat (first | (refine tkL (v := ?_) rfl rfl rfl (fun w' hSw => ?_) hS ?_; rotate_left; (focus (go_simp; with_reducible rfl)); simp only [setL]) | (refine skL rfl rfl rfl hS ?_; simp only [setL]))
  clear hS
  refine wpPl_goL rfl rfl fun K' hK => ?_
  go_simp
  refine (HTL.out _).mono ?_
  rintro e1 W9v1 ⟨r1, rfl, rl, rn, rk, hb1⟩
  replace HW := Lib.hid (HW.out.later hb1)
  have Hr1 := Lib.hid (And.intro rl (And.intro rn rk))
  clear rl rn rk
  refine hK _ _ HW.out.cells.1 ?_
  clear hK K' hb1
  try simp only [Act.put, setL]
  have hS : (fun w' : World => w'.cell? ⟨w.heap.size, 0, none⟩ = some (.float .f64 l) ∧ w'.cell? ⟨w.heap.size, 1, none⟩ = some (.float .f64 h)) W9v1 := HW.out.cells.1
  repeat (first | (refine tkL (v := ?_) rfl rfl rfl (fun w' hSw => ?_) hS ?_; rotate_left; (focus (go_simp; with_reducible rfl)); simp only [setL]) | (refine skL rfl rfl rfl hS ?_; simp only [setL]))
  clear hS
  refine wpPl_nil ?_
  simp only [drL]
  obtain ⟨⟨c0, c1⟩, q0, q1, q2, q3⟩ := HW.out.cells
  go_wp2_with fail
  refine (HTH.out _).mono ?_
  rintro e8 w8 ⟨r2, rfl, rl, rn, rk, hb8⟩
  replace HW := Lib.hid (HW.out.later hb8)
  have Hr2 := Lib.hid (And.intro rl (And.intro rn rk))
  clear hb8 rl rn rk
  clear c0 c1 q0 q1 q2 q3
  obtain ⟨⟨c0, c1⟩, q0, q1, q2, q3⟩ := HW.out.cells
  have HMK := Lib.hid fun W => rMade_any r1 r2 W Hr1.out.1 Hr2.out.1 Hr1.out.2.1 Hr2.out.2.1
  rw [Hr1.out.2.2, Hr2.out.2.2] at HMK
  generalize kb K1 = L at *
  generalize kb K2 = H at *
  go_wp2_with fail
  refine (HMK.out _).mono ?_
  rintro e9 w9 ⟨rfl, hb9⟩
  replace HW := Lib.hid (HW.out.later hb9)
  clear hb9
  clear c0 c1 q0 q1 q2 q3
  obtain ⟨⟨c0, c1⟩, q0, q1, q2, q3⟩ := HW.out.cells
  go_wp2
  refine bodyPost_ret (v := .tuple #[.agg #[.float .f64 L, .float .f64 H], .int .i64 0]) (by simp [results, Tryz.results42, go_sem, q0, q1]) rfl ⟨rfl, HW.out.stored _ _⟩
set_option maxRecDepth 100000 in
set_option maxHeartbeats 6400000 in
theorem rDot_iv (va vb : Value) (us vs : List (Nat × Nat)) (w : World) (ha : VSl w va us) (hb : VSl w vb vs) (hl : us.length = vs.length) :
  Calls Tryz.prog 43 #[va, vb] w (Gives (.tuple #[.agg #[.float .f64 (ivL (dotK us vs us.length)), .float .f64 (ivH (dotK us vs us.length))], .int .i64 0]) w) := by
 have HMK := Lib.hid fun W => rMade_any 0 0 W (by decide) (by decide) (by decide) (by decide)
 rw [show kb (ky 0) = 0 by decide] at HMK
 have ha' := ha
 have hb' := hb
 obtain ⟨a0, ca, rfl, -⟩ := ha'
 obtain ⟨b0, cb, rfl, -⟩ := hb'
 rw [← hl] at hb ⊢
 obtain ⟨-, ha1, ha2, ha3, ha4⟩ := PSl.cells ha
 obtain ⟨-, hb1, hb2, hb3, hb4⟩ := PSl.cells hb
 have HA := Lib.hid ha4
 have HB := Lib.hid hb4
 have HEA := Lib.hid ha3
 have HEB := Lib.hid hb3
 have HOK := Lib.hid fun k => dotK_ok ha3 hb3 k
 clear ha hb ha3 hb3 ha4 hb4 hl
 generalize us.length = n at *
 have HW := Lib.hid ((Bks.nil w).alloc #[.float .f64 0, .float .f64 0] 34)
 go_enter Tryz.func43, Tryz.ntmps43
 go_wp2_with fail
 refine (HMK.out _).mono ?_
 rintro e1 w1 ⟨rfl, hb1'⟩
 replace HW := Lib.hid (HW.out.later hb1')
 clear hb1' HMK
 have HS0 := Lib.hid (HW.out.alloc #[.float .f64 0, .float .f64 0] 34)
 have HLB : Hid (w.heap.size ≤ w1.heap.size ∧ ∀ q ∈ ([(w.heap.size, 34, #[.float .f64 0, .float .f64 0])] : List (Nat × Nat × Array Value)), q.1 ≠ w1.heap.size) := Lib.hid ⟨HW.out.size, fun q m => by have := HW.out.lt q m; omega⟩
 clear HW
 obtain ⟨s, hs⟩ : ∃ i, w1.heap.size = i := ⟨_, rfl⟩
 rw [hs] at HS0 HLB
 go_wp2
 go_loopw [7] (fun i wr => ∃ k : Nat, k ≤ n ∧ i = .int .i64 k ∧ Hid (Bks w wr [(s, 34, #[.float .f64 (ivL (dotK us vs k)), .float .f64 (ivH (dotK us vs k))]), (w.heap.size, 34, #[.float .f64 0, .float .f64 0])])) (fun i _ => n - (intOf i).toNat)
 case atStart => exact ⟨0, Nat.zero_le _, rfl, HS0⟩
 case round =>
  clear HS0 hs
  obtain ⟨k, hk, rfl, HS⟩ := hrel
  by_cases hlt : k < n
  ·obtain ⟨ab, ao, rfl, hab, hac⟩ := HA.out (by omega)
   obtain ⟨bb, bo, rfl, hbb, hbc⟩ := HB.out (by omega)
   have okD := HOK.out k
   have wa := HEA.out.at k
   have wb := HEB.out.at k
   have hnx : dotK us vs (k + 1) = addK (dotK us vs k) (mulK (ivK (us.getD k (0, 0)).1 (us.getD k (0, 0)).2) (ivK (vs.getD k (0, 0)).1 (vs.getD k (0, 0)).2)) := rfl
   have HCA : Hid (Cel2 wr ab (ao + k * 2) (.float .f64 (us.getD k (0, 0)).1) (.float .f64 (us.getD k (0, 0)).2)) := Lib.hid (Cel2.below ⟨hab, hac k hlt⟩ HS.out.2)
   have HCB : Hid (Cel2 wr bb (bo + k * 2) (.float .f64 (vs.getD k (0, 0)).1) (.float .f64 (vs.getD k (0, 0)).2)) := Lib.hid (Cel2.below ⟨hbb, hbc k hlt⟩ HS.out.2)
   clear hac hbc
   obtain ⟨p0, hp0⟩ : ∃ t, (us.getD k (0, 0)).1 = t := ⟨_, rfl⟩
   obtain ⟨p1, hp1⟩ : ∃ t, (us.getD k (0, 0)).2 = t := ⟨_, rfl⟩
   obtain ⟨q0, hq0⟩ : ∃ t, (vs.getD k (0, 0)).1 = t := ⟨_, rfl⟩
   obtain ⟨q1, hq1⟩ : ∃ t, (vs.getD k (0, 0)).2 = t := ⟨_, rfl⟩
   rw [hp0, hp1] at HCA
   rw [hq0, hq1] at HCB
   rw [hp0, hp1, hq0, hq1] at hnx
   rw [hp0, hp1] at wa
   rw [hq0, hq1] at wb
   clear hp0 hp1 hq0 hq1
   have okM := mulK_ok (ivK_ok wa.1 wa.2) (ivK_ok wb.1 wb.2)
   have HMU := Lib.hid fun W => rMul_iv p0 p1 q0 q1 W wa.1 wa.2 wb.1 wb.2
   generalize mulK (ivK p0 p1) (ivK q0 q1) = M at *
   have HAD := Lib.hid fun W => rAdd_iv (ivL (dotK us vs k)) (ivH (dotK us vs k)) (ivL M) (ivH M) W (ivL_lt okD) (ivH_lt okD) (ivL_lt okM) (ivH_lt okM)
   rw [ivK_back okD, ivK_back okM, ← hnx] at HAD
   clear hnx okD okM wa wb
   generalize ivL (dotK us vs k) = d0 at *
   generalize ivH (dotK us vs k) = d1 at *
   generalize ivL M = m0 at *
   generalize ivH M = m1 at *
   obtain ⟨n0, hn0⟩ : ∃ t, ivL (dotK us vs (k + 1)) = t := ⟨_, rfl⟩
   obtain ⟨n1, hn1⟩ : ∃ t, ivH (dotK us vs (k + 1)) = t := ⟨_, rfl⟩
   rw [hn0, hn1] at HAD
   have HNX := Lib.hid (And.intro hn0 hn1)
   clear hn0 hn1
   have t9 : decide ((k : Int) < (n : Int)) = true := decide_eq_true (by omega)
   go_upto_region 7 with fail
   refine wp_region_pl (fun w' : World => (w'.cell? ⟨s, 0, none⟩ = some (.float .f64 d0) ∧ w'.cell? ⟨s, 1, none⟩ = some (.float .f64 d1)) ∧ (w'.cell? ⟨ab, ao + k * 2, none⟩ = some (.float .f64 p0) ∧ w'.cell? ⟨ab, ao + k * 2 + 1, none⟩ = some (.float .f64 p1)) ∧ w'.cell? ⟨bb, bo + k * 2, none⟩ = some (.float .f64 q0) ∧ w'.cell? ⟨bb, bo + k * 2 + 1, none⟩ = some (.float .f64 q1)) 11 (.take 0 (.take 1 (.take 2 (.take 3 (.take 4 (.take 5 (.take 6 (.take 7 (.take 8 (.run 9 (.run 10 (.nil)))))))))))) (by kernel_rfl) (by kernel_rfl) ?_
   replace HS := Lib.hid (HS.out.later (drew_below _))
   replace HCA := Lib.hid (HCA.out.below (drew_below _))
   replace HCB := Lib.hid (HCB.out.below (drew_below _))
   generalize World.drew _ = W7 at HS HCA HCB ⊢
   repeat (first | (refine tkL (v := ?_) rfl rfl rfl (fun w' hSw => ?_) (⟨HS.out.two (.head _), HCA.out.2, HCB.out.2⟩) ?_; rotate_left; (focus (go_simp; with_reducible rfl)); simp only [setL]) | (refine skL rfl rfl rfl (⟨HS.out.two (.head _), HCA.out.2, HCB.out.2⟩) ?_; simp only [setL]))
   refine wpPl_goL rfl rfl fun K' hK => ?_
   go_simp
   refine (HMU.out _).mono ?_
   rintro e1 W7v1 ⟨rfl, hb1⟩
   replace HS := Lib.hid (HS.out.later hb1)
   replace HCA := Lib.hid (HCA.out.below hb1)
   replace HCB := Lib.hid (HCB.out.below hb1)
   refine hK _ _ (⟨HS.out.two (.head _), HCA.out.2, HCB.out.2⟩) ?_
   clear hK K' hb1
   try simp only [Act.put, setL]
   repeat (first | (refine tkL (v := ?_) rfl rfl rfl (fun w' hSw => ?_) (⟨HS.out.two (.head _), HCA.out.2, HCB.out.2⟩) ?_; rotate_left; (focus (go_simp; with_reducible rfl)); simp only [setL]) | (refine skL rfl rfl rfl (⟨HS.out.two (.head _), HCA.out.2, HCB.out.2⟩) ?_; simp only [setL]))
   refine wpPl_goL rfl rfl fun K' hK => ?_
   go_simp
   refine (HAD.out _).mono ?_
   rintro e1 W7v2 ⟨rfl, hb1⟩
   replace HS := Lib.hid (HS.out.later hb1)
   replace HCA := Lib.hid (HCA.out.below hb1)
   replace HCB := Lib.hid (HCB.out.below hb1)
   refine hK _ _ (⟨HS.out.two (.head _), HCA.out.2, HCB.out.2⟩) ?_
   clear hK K' hb1
   try simp only [Act.put, setL]
   repeat (first | (refine tkL (v := ?_) rfl rfl rfl (fun w' hSw => ?_) (⟨HS.out.two (.head _), HCA.out.2, HCB.out.2⟩) ?_; rotate_left; (focus (go_simp; with_reducible rfl)); simp only [setL]) | (refine skL rfl rfl rfl (⟨HS.out.two (.head _), HCA.out.2, HCB.out.2⟩) ?_; simp only [setL]))
   refine wpPl_nil ?_
   simp only [drL]
   obtain ⟨k0, k1, k2, k3⟩ := (HS.out.get (.head _)).cells2
   replace HS := Lib.hid (HS.out.set2 HLB.out.1 HLB.out.2 (.float .f64 n0) (.float .f64 n1))
   clear HCA HCB
   go_wp2
   go_roundw
   case rel => exact ⟨k + 1, by omega, by go_num, Lib.hid (by rw [HNX.out.1, HNX.out.2]; exact HS.out)⟩
   case measure => simp [intOf]; omega
  ·obtain rfl : k = n := by omega
   have t9 : decide ((k : Int) < (k : Int)) = false := decide_eq_false (by omega)
   generalize ivL (dotK us vs k) = d0 at *
   generalize ivH (dotK us vs k) = d1 at *
   obtain ⟨c0, c1⟩ := HS.out.two (.head _)
   obtain ⟨q0, q1, q2, q3⟩ := (HS.out.get (.tail _ (.head _))).cells2
   go_wp2
   refine bodyPost_ret (v := .tuple #[.agg #[.float .f64 d0, .float .f64 d1], .int .i64 0]) (by simp [results, Tryz.results43, go_sem, q0, q1]) rfl ⟨rfl, (HS.out.2.setCell (Nat.le_refl _) _).setCell (Nat.le_refl _) _⟩
set_option maxRecDepth 100000 in
set_option maxHeartbeats 800000 in
theorem iDot_ne (va vb : Value) (us vs : List (Nat × Nat)) (w : World) (ha : VSl w va us) (hb : VSl w vb vs) (hl : us.length ≠ vs.length) :
  Calls Tryz.prog 15 #[va, vb] w (Gives (.tuple #[.agg #[.float .f64 0, .float .f64 0], .int .i64 3]) w) := by
 obtain ⟨a0, ca, rfl, -⟩ := ha
 obtain ⟨b0, cb, rfl, -⟩ := hb
 have hne : ((us.length : Int) != (vs.length : Int)) = true := by rw [bne_iff_ne]; omega
 generalize us.length = n at *
 generalize vs.length = m at *
 clear hl
 have HW := Lib.hid ((Bks.nil w).alloc #[.float .f64 0, .float .f64 0] 34)
 go_enter Tryz.func15, Tryz.ntmps15
 obtain ⟨q0, q1, q2, q3⟩ := (HW.out.get (.head _)).cells2
 go_wp2
 refine bodyPost_ret (v := .tuple #[.agg #[.float .f64 0, .float .f64 0], .int .i64 3]) (by simp [results, Tryz.results15, go_sem, q0, q1]) rfl ⟨rfl, HW.out.2⟩
set_option maxRecDepth 100000 in
set_option maxHeartbeats 800000 in
theorem rDot_ne (va vb : Value) (us vs : List (Nat × Nat)) (w : World) (ha : VSl w va us) (hb : VSl w vb vs) (hl : us.length ≠ vs.length) :
  Calls Tryz.prog 43 #[va, vb] w (Gives (.tuple #[.agg #[.float .f64 0, .float .f64 0], .int .i64 3]) w) := by
 obtain ⟨a0, ca, rfl, -⟩ := ha
 obtain ⟨b0, cb, rfl, -⟩ := hb
 have hne : ((us.length : Int) != (vs.length : Int)) = true := by rw [bne_iff_ne]; omega
 generalize us.length = n at *
 generalize vs.length = m at *
 clear hl
 have HW := Lib.hid ((Bks.nil w).alloc #[.float .f64 0, .float .f64 0] 34)
 go_enter Tryz.func43, Tryz.ntmps43
 obtain ⟨q0, q1, q2, q3⟩ := (HW.out.get (.head _)).cells2
 go_wp2
 refine bodyPost_ret (v := .tuple #[.agg #[.float .f64 0, .float .f64 0], .int .i64 3]) (by simp [results, Tryz.results43, go_sem, q0, q1]) rfl ⟨rfl, HW.out.2⟩
end
section
open Go.RowKit
attribute [local go_sem] run_store_f
theorem sa_own {a : Option (Int × Int)} (ha : Iok a) : saB (ivL a) (ivH a) (ivL a) (ivH a) = true := by rw [saB_iv ha ha]; exact decide_eq_true rfl
theorem pow_all {l h : Nat} (hl : W64 l) (hh : W64 h) (n : Int) : ∃ (L H : Nat) (E : Int), (∀ W, TabB W → Calls Tryz.prog 41 #[.agg #[.float .f64 l, .float .f64 h], .int .i64 n] W (Gives (.tuple #[.agg #[.float .f64 L, .float .f64 H], .int .i64 E]) W)) ∧ (∀ W, Calls Tryz.prog 42 #[.agg #[.float .f64 l, .float .f64 h], .int .i64 n] W (Gives (.tuple #[.agg #[.float .f64 L, .float .f64 H], .int .i64 E]) W)) ∧ saB L H L H = true := by
 by_cases c : 0 ≤ n ∧ n ≤ 16
 ·obtain ⟨m, rfl⟩ : ∃ m : Nat, n = m := ⟨n.toNat, by omega⟩
  exact ⟨_, _, _, fun W ht => pow_iv l h m W hl hh (by omega) ht, fun W => rPow_iv l h m W hl hh (by omega), sa_own (powK_ok (ivK_ok hl hh) (by omega))⟩
 ·exact ⟨0, 0, 1, fun W _ => pow_no l h n W (by omega), fun W => rPow_no l h n W (by omega), by decide⟩
theorem dot_all {us vs : List (Nat × Nat)} (hu : EndsL us) (hv : EndsL vs) : ∃ (L H : Nat) (E : Int), (∀ W va vb, VSl W va us → VSl W vb vs → TabB W → Calls Tryz.prog 15 #[va, vb] W (Gives (.tuple #[.agg #[.float .f64 L, .float .f64 H], .int .i64 E]) W)) ∧ (∀ W va vb, VSl W va us → VSl W vb vs → Calls Tryz.prog 43 #[va, vb] W (Gives (.tuple #[.agg #[.float .f64 L, .float .f64 H], .int .i64 E]) W)) ∧ saB L H L H = true := by
 by_cases c : us.length = vs.length
 ·exact ⟨_, _, _, fun W va vb h1 h2 ht => iDot_any va vb us vs W h1 h2 c ht, fun W va vb h1 h2 => rDot_iv va vb us vs W h1 h2 c, sa_own (dotK_ok hu hv _)⟩
 ·exact ⟨0, 0, 3, fun W va vb h1 h2 _ => iDot_ne va vb us vs W h1 h2 c, fun W va vb h1 h2 => rDot_ne va vb us vs W h1 h2 c, by decide⟩
theorem PSl.ends {f : Nat → Value} {w : World} {v : Value} {l : List (Nat × Nat)} (h : PSl f w v l) : EndsL l := by
 obtain ⟨ao, cap, rfl, -⟩ := id h
 exact h.cells.2.2.2.1
set_option maxRecDepth 100000 in
set_option maxHeartbeats 6400000 in
theorem intervalPowers_any (vu vv : Value) (us vs : List (Nat × Nat)) (p0 p1 : Nat) (n : Int) (w : World) (hp0 : W64 p0) (hp1 : W64 p1) (hu : ESl w vu us) (hv : ESl w vv vs) (hT : TabB w) : Calls Tryz.prog 6 #[.agg #[.int .u64 p0, .int .u64 p1], .int .i64 n, vu, vv] w (Gives (.bool true) w) := by
 have HU := Lib.hid hu
 have HV := Lib.hid hv
 have HT := Lib.hid hT
 obtain ⟨L, H, E, pw1, pw2, pw3⟩ := pow_all hp0 hp1 n
 obtain ⟨L2, H2, E2, dt1, dt2, dt3⟩ := dot_all (PSl.ends hu) (PSl.ends hv)
 have HP := Lib.hid pw1
 have HRP := Lib.hid pw2
 have HD := Lib.hid dt1
 have HRD := Lib.hid dt2
 have HAW := Lib.hid fun W ht => awake6_any W ht
 have HOA := Lib.hid fun W => lof_any p0 p1 W
 have HS1 := Lib.hid fun W => lsame_any L H L H W
 have HS2 := Lib.hid fun W => lsame_any L2 H2 L2 H2 W
 rw [pw3] at HS1
 rw [dt3] at HS2
 clear pw1 pw2 pw3 dt1 dt2 dt3 hp0 hp1 hu hv hT
 have hE1 : (E != E) = false := by simp
 have hE2 : (E2 == E2) = true := by simp
 have HS := Lib.hid ((Bks.nil w).alloc #[.int .u64 p0, .int .u64 p1] 37)
 obtain ⟨f0, hf0⟩ : ∃ f, w.heap.size = f := ⟨_, rfl⟩
 rw [hf0] at HS
 go_enter Tryz.func6, Tryz.ntmps6
 obtain ⟨g0, g1⟩ := HS.out.two (.head _)
 go_wp2_with fail
 refine (HOA.out _).mono ?_
 rintro e1 w1 ⟨rfl, hb1⟩
 replace HS := Lib.hid (HS.out.later hb1)
 clear hb1
 clear g0 g1
 obtain ⟨g0, g1⟩ := HS.out.two (.head _)
 go_wp2_with fail
 refine (HP.out _ (HT.out.below HS.out.2)).mono ?_
 rintro e2 w2 ⟨rfl, hb2⟩
 replace HS := Lib.hid (HS.out.later hb2)
 clear hb2
 clear g0 g1
 obtain ⟨g0, g1⟩ := HS.out.two (.head _)
 go_upto_region 2 with fail
 have HL9 : Hid (f0 < w2.heap.size) := Lib.hid (HS.out.lt _ (.head _))
 replace HS := Lib.hid (HS.out.alloc #[.float .f64 L, .float .f64 H] 34)
 generalize World.alloc w2 _ = W2 at HS ⊢
 generalize w2.heap.size = r9 at *
 clear g0 g1
 obtain ⟨⟨a0, a1⟩, a2, a3⟩ := (HS.out.get (.head _)).cells2f
 obtain ⟨g0, g1⟩ := HS.out.two (.tail _ (.head _))
 go_wp2_with fail
 refine (HOA.out _).mono ?_
 rintro e3 w3 ⟨rfl, hb3⟩
 replace HS := Lib.hid (HS.out.later hb3)
 clear hb3
 clear a0 a1 a2 a3 g0 g1
 obtain ⟨⟨a0, a1⟩, a2, a3⟩ := (HS.out.get (.head _)).cells2f
 obtain ⟨g0, g1⟩ := HS.out.two (.tail _ (.head _))
 go_wp2_with fail
 refine (HRP.out _).mono ?_
 rintro e4 w4 ⟨rfl, hb4⟩
 replace HS := Lib.hid (HS.out.later hb4)
 clear hb4
 clear a0 a1 a2 a3 g0 g1
 obtain ⟨⟨a0, a1⟩, a2, a3⟩ := (HS.out.get (.head _)).cells2f
 obtain ⟨g0, g1⟩ := HS.out.two (.tail _ (.head _))
 go_upto_region 3 with fail
 have HLR : Hid (f0 < r9 ∧ r9 < w4.heap.size) := Lib.hid ⟨HL9.out, HS.out.lt _ (.head _)⟩
 replace HS := Lib.hid (HS.out.alloc #[.float .f64 L, .float .f64 H] 34)
 generalize World.alloc w4 _ = W4 at HS ⊢
 generalize w4.heap.size = r11 at *
 clear a0 a1 a2 a3 g0 g1
 obtain ⟨⟨b0, b1⟩, b2, b3⟩ := (HS.out.get (.head _)).cells2f
 obtain ⟨⟨a0, a1⟩, a2, a3⟩ := (HS.out.get (.tail _ (.head _))).cells2f
 obtain ⟨g0, g1⟩ := HS.out.two (.tail _ (.tail _ (.head _)))
 go_wp2_with fail
 refine (HS1.out _).mono ?_
 rintro e5 w5 ⟨rfl, hb5⟩
 replace HS := Lib.hid (HS.out.later hb5)
 clear hb5
 clear b0 b1 b2 b3 a0 a1 a2 a3 g0 g1
 obtain ⟨⟨b0, b1⟩, b2, b3⟩ := (HS.out.get (.head _)).cells2f
 obtain ⟨⟨a0, a1⟩, a2, a3⟩ := (HS.out.get (.tail _ (.head _))).cells2f
 obtain ⟨g0, g1⟩ := HS.out.two (.tail _ (.tail _ (.head _)))
 go_wp2_with fail
 refine (llist_any vu us _ (HU.out.below HS.out.2)).mono ?_
 rintro e6 w6 ⟨u1, rfl, hu1, hb6⟩
 replace HS := Lib.hid (HS.out.later hb6)
 have HU1 := Lib.hid hu1
 clear hu1
 clear hb6
 clear b0 b1 b2 b3 a0 a1 a2 a3 g0 g1
 obtain ⟨⟨b0, b1⟩, b2, b3⟩ := (HS.out.get (.head _)).cells2f
 obtain ⟨⟨a0, a1⟩, a2, a3⟩ := (HS.out.get (.tail _ (.head _))).cells2f
 obtain ⟨g0, g1⟩ := HS.out.two (.tail _ (.tail _ (.head _)))
 go_wp2_with fail
 refine (llist_any vv vs _ (HV.out.below HS.out.2)).mono ?_
 rintro e7 w7 ⟨u2, rfl, hu2, hb7⟩
 replace HS := Lib.hid (HS.out.later hb7)
 have HU2 := Lib.hid hu2
 replace HU1 := Lib.hid (HU1.out.below hb7)
 clear hu2
 clear hb7
 clear b0 b1 b2 b3 a0 a1 a2 a3 g0 g1
 obtain ⟨⟨b0, b1⟩, b2, b3⟩ := (HS.out.get (.head _)).cells2f
 obtain ⟨⟨a0, a1⟩, a2, a3⟩ := (HS.out.get (.tail _ (.head _))).cells2f
 obtain ⟨g0, g1⟩ := HS.out.two (.tail _ (.tail _ (.head _)))
 go_wp2_with fail
 refine (HD.out _ u1 u2 HU1.out HU2.out (HT.out.below HS.out.2)).mono ?_
 rintro e8 w8 ⟨rfl, hb8⟩
 replace HS := Lib.hid (HS.out.later hb8)
 clear HU1 HU2
 clear hb8
 clear b0 b1 b2 b3 a0 a1 a2 a3 g0 g1
 obtain ⟨⟨b0, b1⟩, b2, b3⟩ := (HS.out.get (.head _)).cells2f
 obtain ⟨⟨a0, a1⟩, a2, a3⟩ := (HS.out.get (.tail _ (.head _))).cells2f
 obtain ⟨g0, g1⟩ := HS.out.two (.tail _ (.tail _ (.head _)))
 go_upto_region 6 with fail
 replace HS := Lib.hid (HS.out.swap.set2 (by have := HLR.out; omega) (fun t m => by have := HLR.out; simp only [List.mem_cons, List.not_mem_nil, or_false] at m; rcases m with rfl | rfl <;> simp <;> omega) (.float .f64 L2) (.float .f64 H2)).swap
 generalize World.setCell (World.setCell w8 _ _) _ _ = W8 at HS ⊢
 clear b0 b1 b2 b3 a0 a1 a2 a3 g0 g1
 obtain ⟨⟨b0, b1⟩, b2, b3⟩ := (HS.out.get (.head _)).cells2f
 obtain ⟨⟨a0, a1⟩, a2, a3⟩ := (HS.out.get (.tail _ (.head _))).cells2f
 obtain ⟨g0, g1⟩ := HS.out.two (.tail _ (.tail _ (.head _)))
 go_wp2_with fail
 refine (llist_any vu us _ (HU.out.below HS.out.2)).mono ?_
 rintro e9 w9 ⟨u1, rfl, hu1, hb9⟩
 replace HS := Lib.hid (HS.out.later hb9)
 have HU1 := Lib.hid hu1
 clear hu1
 clear hb9
 clear b0 b1 b2 b3 a0 a1 a2 a3 g0 g1
 obtain ⟨⟨b0, b1⟩, b2, b3⟩ := (HS.out.get (.head _)).cells2f
 obtain ⟨⟨a0, a1⟩, a2, a3⟩ := (HS.out.get (.tail _ (.head _))).cells2f
 obtain ⟨g0, g1⟩ := HS.out.two (.tail _ (.tail _ (.head _)))
 go_wp2_with fail
 refine (llist_any vv vs _ (HV.out.below HS.out.2)).mono ?_
 rintro e10 w10 ⟨u2, rfl, hu2, hb10⟩
 replace HS := Lib.hid (HS.out.later hb10)
 have HU2 := Lib.hid hu2
 replace HU1 := Lib.hid (HU1.out.below hb10)
 clear hu2
 clear hb10
 clear b0 b1 b2 b3 a0 a1 a2 a3 g0 g1
 obtain ⟨⟨b0, b1⟩, b2, b3⟩ := (HS.out.get (.head _)).cells2f
 obtain ⟨⟨a0, a1⟩, a2, a3⟩ := (HS.out.get (.tail _ (.head _))).cells2f
 obtain ⟨g0, g1⟩ := HS.out.two (.tail _ (.tail _ (.head _)))
 go_wp2_with fail
 refine (HRD.out _ u1 u2 HU1.out HU2.out).mono ?_
 rintro e11 w11 ⟨rfl, hb11⟩
 replace HS := Lib.hid (HS.out.later hb11)
 clear HU1 HU2
 clear hb11
 clear b0 b1 b2 b3 a0 a1 a2 a3 g0 g1
 obtain ⟨⟨b0, b1⟩, b2, b3⟩ := (HS.out.get (.head _)).cells2f
 obtain ⟨⟨a0, a1⟩, a2, a3⟩ := (HS.out.get (.tail _ (.head _))).cells2f
 obtain ⟨g0, g1⟩ := HS.out.two (.tail _ (.tail _ (.head _)))
 go_upto_region 7 with fail
 replace HS := Lib.hid (HS.out.set2 (by have := HLR.out; omega) (fun t m => by have := HLR.out; simp only [List.mem_cons, List.not_mem_nil, or_false] at m; rcases m with rfl | rfl <;> simp <;> omega) (.float .f64 L2) (.float .f64 H2))
 generalize World.setCell (World.setCell w11 _ _) _ _ = W11 at HS ⊢
 clear b0 b1 b2 b3 a0 a1 a2 a3 g0 g1
 obtain ⟨⟨b0, b1⟩, b2, b3⟩ := (HS.out.get (.head _)).cells2f
 obtain ⟨⟨a0, a1⟩, a2, a3⟩ := (HS.out.get (.tail _ (.head _))).cells2f
 obtain ⟨g0, g1⟩ := HS.out.two (.tail _ (.tail _ (.head _)))
 go_wp2_with fail
 refine (HS2.out _).mono ?_
 rintro e12 w12 ⟨rfl, hb12⟩
 replace HS := Lib.hid (HS.out.later hb12)
 clear hb12
 clear b0 b1 b2 b3 a0 a1 a2 a3 g0 g1
 obtain ⟨⟨b0, b1⟩, b2, b3⟩ := (HS.out.get (.head _)).cells2f
 obtain ⟨⟨a0, a1⟩, a2, a3⟩ := (HS.out.get (.tail _ (.head _))).cells2f
 obtain ⟨g0, g1⟩ := HS.out.two (.tail _ (.tail _ (.head _)))
 go_wp2_with fail
 refine (HAW.out _ (HT.out.below HS.out.2)).mono ?_
 rintro e13 w13 ⟨rfl, hb13⟩
 replace HS := Lib.hid (HS.out.later hb13)
 clear hb13
 clear b0 b1 b2 b3 a0 a1 a2 a3 g0 g1
 obtain ⟨⟨b0, b1⟩, b2, b3⟩ := (HS.out.get (.head _)).cells2f
 obtain ⟨⟨a0, a1⟩, a2, a3⟩ := (HS.out.get (.tail _ (.head _))).cells2f
 obtain ⟨g0, g1⟩ := HS.out.two (.tail _ (.tail _ (.head _)))
 go_wp2
 go_ret
 exact ⟨rfl, HS.out.2⟩
end
end Go.Proofs.YtloohbkceppocaaGreatDoor
