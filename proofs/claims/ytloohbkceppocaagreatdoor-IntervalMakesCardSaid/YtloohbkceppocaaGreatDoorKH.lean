/- The invariant of a mixture that makes whole numbers and fills them: which of them are there, what they hold. -/
import Derived.Test.YtloohbkceppocaaGreatDoorGC
import Derived.Test.YtloohbkceppocaaGreatDoorGH
import Derived.Test.YtloohbkceppocaaGreatDoorKG
namespace Go.Proofs.YtloohbkceppocaaGreatDoor
section
open Go Go.RowKit
def updB (dn : Nat → Bool) (i : Nat) : Nat → Bool := fun j => j == i || dn j
theorem updB_self (dn : Nat → Bool) (i : Nat) : updB dn i i = true := by simp [updB]
theorem updB_ne {dn : Nat → Bool} {i j : Nat} (h : j ≠ i) : updB dn i j = dn j := by simp [updB, h]
theorem updV_self (vals : Nat → Value) (i : Nat) (v : Value) : updV vals i v i = v := if_pos rfl
theorem updV_ne {vals : Nat → Value} {i j : Nat} {v : Value} (h : j ≠ i) : updV vals i v j = vals j := if_neg h
def ObjJ (k : IntKind) (s nB : Nat) (W0 : World) (l : List (Nat × Nat × Int)) (dn : Nat → Bool) (vals : Nat → Value) (w' : World) : Prop :=
 Below nB W0 w' ∧ nB ≤ w'.heap.size ∧ ∃ r : Nat → Nat, (∀ e ∈ l, dn e.1 = true → vals e.1 = .pointer (some ⟨r e.1, 0, none⟩) ∧ nB ≤ r e.1 ∧ IntK k s w' (r e.1) 0 (if dn e.2.1 then e.2.2 else 0)) ∧
  (∀ e ∈ l, dn e.2.1 = true → dn e.1 = true ∧ vals e.2.1 = .pointer (some ⟨r e.1, 0, none⟩)) ∧ ∀ e ∈ l, ∀ f ∈ l, e.1 ≠ f.1 → dn e.1 = true → dn f.1 = true → r e.1 ≠ r f.1
def okJ (l : List (Nat × Nat × Int)) : Prop := ∀ e ∈ l, ∀ f ∈ l, (e.1 = f.1 → e = f) ∧ (e.2.1 = f.2.1 → e = f) ∧ (e.2.1 = f.1 → e = f)
variable {k : IntKind} {s nB : Nat} {W0 w' : World} {l : List (Nat × Nat × Int)} {dn : Nat → Bool} {vals : Nat → Value}
theorem ObjJ.init (hn : nB ≤ W0.heap.size) (hd : ∀ e ∈ l, dn e.1 = false ∧ dn e.2.1 = false) (vals : Nat → Value) : ObjJ k s nB W0 l dn vals W0 :=
 ⟨Below.refl _ _, hn, fun _ => 0, fun e he h => (by rw [(hd e he).1] at h; cases h), fun e he h => (by rw [(hd e he).2] at h; cases h), fun e he f _ _ h => (by rw [(hd e he).1] at h; cases h)⟩
theorem ObjJ.alloc (h : ObjJ k s nB W0 l dn vals w') (hok : okJ l) {i j : Nat} {z : Int} (he : (i, j, z) ∈ l) (hz : j = i → z = 0) (hd : dn i = false) {T : Nat} (hT : ObjT T) {dn' : Nat → Bool} (hdn : dn' = updB dn i) :
  ObjJ k s nB W0 l dn' (updV vals i (.pointer (some ⟨w'.heap.size, 0, none⟩))) (w'.alloc (.cells #[.bool false, .slice none 0 0] T)) := by
 subst hdn
 obtain ⟨hB, hn, r, h1, h2, h3⟩ := h
 have hb := Below.alloc_self w' (.cells #[.bool false, .slice none 0 0] T)
 obtain ⟨q, hq, hqn⟩ : ∃ q : Nat → Nat, q i = w'.heap.size ∧ ∀ x, x ≠ i → q x = r x := ⟨fun x => if x = i then w'.heap.size else r x, if_pos rfl, fun x hx => if_neg hx⟩
 refine ⟨hB.trans (hb.mono hn), Nat.le_trans hn hb.size, q, fun e hm hx => ?_, fun e hm hx => ?_, fun e hm f hf hne hx hy => ?_⟩
 ·by_cases hi : e.1 = i
  ·have : e = (i, j, z) := (hok e hm _ he).1 hi
   subst this
   have hv : (if updB dn i j = true then z else 0) = 0 := by
    by_cases hj : j = i
    ·rw [hz hj]; simp
    ·rw [updB_ne hj, if_neg (fun h => by rw [(h2 _ hm h).1] at hd; cases hd)]
   simp only [hq, hv, updV_self]
   exact ⟨trivial, hn, IntK.zero _ _ hT⟩
  ·rw [updB_ne hi] at hx
   obtain ⟨a, b, c⟩ := h1 e hm hx
   have hji : e.2.1 ≠ i := fun t => hi (by rw [(hok e hm _ he).2.2 t])
   rw [hqn _ hi, updV_ne hi, updB_ne hji]
   exact ⟨a, b, c.below hb⟩
 ·by_cases hj : e.2.1 = i
  ·have : e = (i, j, z) := (hok e hm _ he).2.2 hj
   subst this
   replace hj : j = i := hj
   subst hj
   exact ⟨updB_self _ _, by rw [updV_self, hq]⟩
  ·rw [updB_ne hj] at hx
   obtain ⟨a, b⟩ := h2 e hm hx
   have hi : e.1 ≠ i := fun t => by rw [t, hd] at a; cases a
   exact ⟨by rw [updB_ne hi]; exact a, by rw [updV_ne hj, hqn _ hi]; exact b⟩
 ·by_cases h4 : e.1 = i
  ·have h5 : f.1 ≠ i := fun t => hne (h4.trans t.symm)
   rw [updB_ne h5] at hy
   have := (h1 f hf hy).2.2.1.1
   rw [h4, hq, hqn _ h5]; omega
  ·rw [updB_ne h4] at hx
   have := (h1 e hm hx).2.2.1.1
   rw [hqn _ h4]
   by_cases h5 : f.1 = i
   ·rw [h5, hq]; omega
   ·rw [updB_ne h5] at hy
    rw [hqn _ h5]; exact h3 e hm f hf hne hx hy
theorem ObjJ.fill (h : ObjJ k s nB W0 l dn vals w') (hok : okJ l) {i j : Nat} {z : Int} (he : (i, j, z) ∈ l) (hji : j ≠ i) (hi : dn i = true) (hd : dn j = false) :
  ∃ r0, vals i = .pointer (some ⟨r0, 0, none⟩) ∧ nB ≤ r0 ∧ IntK k s w' r0 0 0 ∧ ∀ w2 dn', dn' = updB dn j → IntK k s w2 r0 0 z → Mod r0 0 w' w2 → ObjJ k s nB W0 l dn' (updV vals j (.pointer (some ⟨r0, 0, none⟩))) w2 := by
 obtain ⟨hB, hn, r, h1, h2, h3⟩ := h
 obtain ⟨a, b, c⟩ := h1 _ he hi
 simp only [hd] at c
 refine ⟨r i, a, b, c, fun w2 dn' hdn hz hm => ?_⟩
 subst hdn
 refine ⟨Mod.below hB hm b hn, Nat.le_trans hn hm.size, r, fun e hm' hx => ?_, fun e hm' hx => ?_, fun e hm' f hf hne hx hy => ?_⟩
 ·have hej : e.1 ≠ j := fun t => by
   have := (hok _ he e hm').2.2 t.symm
   subst this; exact hji t.symm
  rw [updB_ne hej] at hx
  rw [updV_ne hej]
  obtain ⟨a2, b2, c2⟩ := h1 e hm' hx
  refine ⟨a2, b2, ?_⟩
  by_cases hei : e.1 = i
  ·have := (hok e hm' _ he).1 hei
   subst this
   rw [updB_self]; exact hz
  ·rw [updB_ne (fun t => hei (by rw [(hok e hm' _ he).2.1 t]))]
   exact c2.mod hm (.inl (h3 e hm' _ he hei hx hi)) c.1.2.1
 ·by_cases hj : e.2.1 = j
  ·have := (hok e hm' _ he).2.1 hj
   subst this
   exact ⟨by rw [updB_ne hji.symm]; exact hi, by rw [updV_self]⟩
  ·rw [updB_ne hj] at hx
   obtain ⟨a2, b2⟩ := h2 e hm' hx
   have hej : e.1 ≠ j := fun t => by rw [t, hd] at a2; cases a2
   exact ⟨by rw [updB_ne hej]; exact a2, by rw [updV_ne hj]; exact b2⟩
 ·have hej : ∀ e ∈ l, e.1 ≠ j := fun e hm' t => by
   have := (hok _ he e hm').2.2 t.symm
   subst this; exact hji t.symm
  rw [updB_ne (hej e hm')] at hx
  rw [updB_ne (hej f hf)] at hy
  exact h3 e hm' f hf hne hx hy
theorem ObjJ.all (h : ObjJ k s nB W0 l dn vals w') (hd : ∀ e ∈ l, dn e.1 = true ∧ dn e.2.1 = true) :
  Below nB W0 w' ∧ ∃ r : Nat → Nat, (∀ e ∈ l, vals e.1 = .pointer (some ⟨r e.1, 0, none⟩) ∧ vals e.2.1 = .pointer (some ⟨r e.1, 0, none⟩) ∧ nB ≤ r e.1 ∧ IntK k s w' (r e.1) 0 e.2.2) ∧ ∀ e ∈ l, ∀ f ∈ l, e.1 ≠ f.1 → r e.1 ≠ r f.1 := by
 obtain ⟨hB, hn, r, h1, h2, h3⟩ := h
 refine ⟨hB, r, fun e he => ?_, fun e he f hf hne => h3 e he f hf hne (hd e he).1 (hd f hf).1⟩
 obtain ⟨a, b, c⟩ := h1 e he (hd e he).1
 rw [if_pos (hd e he).2] at c
 exact ⟨a, (h2 e he (hd e he).2).2, b, c⟩
theorem okJ_of (h : (l.all fun e => l.all fun f => (e.1 != f.1 || e.2.1 == f.2.1) && (e.2.1 != f.2.1 || e.1 == f.1) && (e.2.1 != f.1 || e.1 == f.1)) = true) (hu : ∀ e ∈ l, ∀ f ∈ l, e.1 = f.1 → e.2.1 = f.2.1 → e = f) : okJ l := by
 intro e he f hf
 have := List.all_eq_true.1 (List.all_eq_true.1 h e he) f hf
 simp only [Bool.and_eq_true, Bool.or_eq_true, bne_iff_ne, ne_eq, beq_iff_eq] at this
 obtain ⟨⟨a, b⟩, c⟩ := this
 refine ⟨fun t => hu e he f hf t (a.resolve_left (fun x => x t)), fun t => hu e he f hf (b.resolve_left (fun x => x t)) t, fun t => ?_⟩
 have h1 := c.resolve_left (fun x => x t)
 exact hu e he f hf h1 (a.resolve_left (fun x => x h1))
end
section
open Go.RowKit
theorem shl_nat {a s M : Nat} (h : a * 2 ^ s = M) : ((a : Nat) : Int) * 2 ^ s = ((M : Nat) : Int) := by rw [← h]; simp
theorem root_ln {R M : Nat} (h : R * R ≤ M) (hl : ln 32 M ≤ 68719476736) : ln 32 R ≤ 68719476736 := by
 refine Nat.le_trans ?_ hl
 rcases Nat.eq_zero_or_pos R with rfl | hp
 ·rw [(ln_eq_zero (by decide)).2 rfl]; omega
 ·exact ln_mono (by decide) (Nat.le_trans (Nat.le_mul_of_pos_left _ hp) h)
theorem nought_two {u : Nat} (h : ky u = 0) : u = 0 ∨ u = kSign := by
 by_cases e : u = kSign
 ·exact .inr e
 ·have := kb_own e
  rw [h] at this
  exact .inl (this.symm.trans (by decide))
theorem bl_of_mul {a s M : Nat} (h : a * 2 ^ s = M) : bl M ≤ bl a + s := by rw [← h]; exact bl_mul_two_pow a s
theorem ne_of_mul {a s M : Nat} (h : a * 2 ^ s = M) (ha : a ≠ 0) : M ≠ 0 := by rw [← h]; exact Nat.mul_ne_zero ha (Nat.ne_of_gt (Nat.two_pow_pos _))
theorem even_t {d : Int} (h : d % 2 = 0) : (d.tmod 2 != 0) = false ∧ d.tdiv 2 = d / 2 := by
 obtain ⟨m, rfl⟩ : ∃ m, d = 2 * m := ⟨d / 2, by omega⟩
 refine ⟨by simp, ?_⟩
 rw [Int.mul_tdiv_cancel_left _ (by decide)]; omega
theorem odd_t {d : Int} (h : d % 2 ≠ 0) : (d.tmod 2 != 0) = true := by
 rw [bne_iff_ne]
 intro t
 have := Int.dvd_of_tmod_eq_zero t
 omega
theorem sq_tell (R M : Nat) : (cmpZ ((R * R : Nat) : Int) (M : Int) != 0) = !decide (R * R = M) := by
 by_cases h : R * R = M
 ·rw [h, decide_eq_true rfl]; simp [cmpZ]
 ·rw [decide_eq_false h]
  unfold cmpZ
  split
  ·rfl
  ·split
   ·rfl
   ·omega
theorem nat_tdiv (a b : Nat) : (a : Int).tdiv (b : Int) = ((a / b : Nat) : Int) := rfl
theorem nat_tmod (a b : Nat) : (a : Int).tmod (b : Int) = ((a % b : Nat) : Int) := rfl
set_option maxRecDepth 100000 in
set_option maxHeartbeats 3200000 in
theorem cDiv_any (x y p q : Nat) (mode : Int) (w : World) (hx : W64 x) (hy : W64 y) (fy : finB y = true) (x0 : ky x ≠ 0) (y0 : ky y ≠ 0) (hmode : mode = 3 ∨ mode = 4) (hp : RInt w p (mntB x : Nat)) (hq : RInt w q (mntB y : Nat)) :
  Calls Tryz.prog 117 #[fmtV, NumV (kndB x) (sgnB x) p (xpnB x), NumV (kndB y) (sgnB y) q (xpnB y), .int .i64 mode] w (AnsK (quK x y mode) w) := by
 have HP := Lib.hid hp
 have HQ := Lib.hid hq
 have HK := Lib.hid (Bks.new3 w 81 87 87 #[.int .i64 53, .int .i64 (-1022), .int .i64 1023, .int .i64 11] #[.int .i64 (kndB x), .bool (sgnB x), .pointer (some ⟨p, 0, none⟩), .int .i64 (xpnB x)] #[.int .i64 (kndB y), .bool (sgnB y), .pointer (some ⟨q, 0, none⟩), .int .i64 (xpnB y)])
 have HZX := Lib.hid fun W h => cIsZ_ne (x := x) (p := p) W hx x0 h
 have HZY := Lib.hid fun W h => cIsZ_ne (x := y) (p := q) W hy y0 h
 obtain ⟨ng, hng⟩ : ∃ s, (!(sgnB x == sgnB y)) = s := ⟨_, rfl⟩
 have hng2 : (sgnB x != sgnB y) = ng := hng
 obtain ⟨f0, hf0⟩ : ∃ f, w.heap.size = f := ⟨_, rfl⟩
 rw [hf0] at HK
 unfold quK
 rw [if_neg (fun h => h.elim x0 (fun t => by rw [fy] at t; cases t))]
 rw [show kndB y = 0 by exact knd_fin fy] at HK HZY ⊢
 cases fx : finB x
 ·rw [if_pos rfl]
  have HI := Lib.hid fun W => cInfinity_any ng W
  have HJ := Lib.hid (infin_ok ng)
  rw [show (if ng = true then -(kInf : Int) else (kInf : Int)) = sgK x y by rw [← hng2, bne_xor]; exact xor_sgK hx hy x0 y0] at HJ
  generalize sgK x y = KK at *
  generalize joinB ng 2047 0 = JJ at *
  rw [show kndB x = 1 by unfold kndB; rw [fx]; rfl] at HK HZX ⊢
  clear hng2 hp hq hx hy x0 y0 hmode fx fy
  generalize sgnB x = sgx at *
  generalize mntB x = mtx at *
  generalize xpnB x = xpx at *
  generalize sgnB y = sgy at *
  generalize mntB y = mty at *
  generalize xpnB y = xpy at *
  unfold NumV fmtV at *
  go_enter Tryz.func117, Tryz.ntmps117
  obtain ⟨⟨k0, k1, k2, k3⟩, ⟨c0, c1, c2, c3⟩, g0, g1, g2, g3⟩ := HK.out.fmt_two
  go_wp2_with fail
  refine (HZX.out _ (HP.out.below HK.out.2)).mono ?_
  rintro e1 w1 ⟨rfl, hb1⟩
  replace HK := Lib.hid (HK.out.later hb1)
  clear hb1
  clear k0 k1 k2 k3 c0 c1 c2 c3 g0 g1 g2 g3
  obtain ⟨⟨k0, k1, k2, k3⟩, ⟨c0, c1, c2, c3⟩, g0, g1, g2, g3⟩ := HK.out.fmt_two
  go_wp2_with fail
  refine (HI.out _).mono ?_
  rintro e2 w2 ⟨rfl, hb2⟩
  replace HK := Lib.hid (HK.out.later hb2)
  clear hb2
  clear k0 k1 k2 k3 c0 c1 c2 c3 g0 g1 g2 g3
  obtain ⟨⟨k0, k1, k2, k3⟩, ⟨c0, c1, c2, c3⟩, g0, g1, g2, g3⟩ := HK.out.fmt_two
  go_wp2
  refine bodyPost_ret (v := .tuple #[.int .u64 (JJ : Nat), .int .i64 0]) (by simp [results, Tryz.results117, go_sem]) rfl ⟨_, _, rfl, HJ.out.1, HJ.out.2.1, HJ.out.2.2, HK.out.2⟩
 rw [if_neg (by decide)]
 rw [show kndB x = 0 by exact knd_fin fx] at HK HZX ⊢
 obtain ⟨N, m, D, hD, hN, hm, my0, n0, lD, l1, l2, l3, l4, hkk⟩ := quo_place hx hy fx fy x0 y0 hmode
 rw [hng2] at hkk
 have ex := xpn_bd fx
 have ey := xpn_bd fy
 have cx := mnt_bd x
 have cy := mnt_bd y
 have hlA := Nat.le_trans (ln_le_bl 32 (mntB x) (by decide)) cx
 have hlD := Nat.le_trans (ln_le_bl 32 D (by decide)) lD
 have HLS := Lib.hid fun b W h1 h2 => rLsh_any b 0 p 0 140 (mntB x : Nat) W h1 h2 (by rw [Int.natAbs_natCast]; omega) (by omega)
 rw [show ((mntB x : Nat) : Int) * 2 ^ 140 = ((D : Nat) : Int) by rw [← hD]; simp] at HLS
 have HQR := Lib.hid fun b c g W h1 h2 h3 h4 h5 => rQuoRem_any b 0 c 0 q 0 g 0 ((D : Nat) : Int) ((mntB y : Nat) : Int) W h1 h2 h3 h4 h5 (by omega) (by rw [Int.natAbs_natCast]; omega)
 have HN := Lib.hid hN
 have HSG := Lib.hid fun r W h => rSign_any r 0 ((D % mntB y : Nat) : Int) W h
 have hsg : (((D % mntB y : Nat) : Int).sign != 0) = (!decide (D % mntB y = 0)) := by generalize D % mntB y = DM; by_cases h : DM = 0 <;> simp [h]
 have HRD := Lib.hid fun b W h => cRound_any ng b N m (!decide (D % mntB y = 0)) mode W h n0 l1 l2 l3 (fun _ => l4) (by omega)
 obtain ⟨R, hR⟩ : ∃ R, roundR ng N m (!decide (D % mntB y = 0)) mode = R := ⟨_, rfl⟩
 rw [hR] at HRD hkk
 have HJ : Hid (W64 R ∧ nanB R = false ∧ ky R = dvK x y mode) := Lib.hid ⟨by rw [← hR]; unfold roundR; split <;> exact (rndX_lt _ _ mode).1, num_iff.2 (by rw [← hR]; unfold roundR; split <;> exact (rndX_lt _ _ mode).2), hkk⟩
 obtain ⟨sg, hsg1⟩ : ∃ s, ((D % mntB y : Nat) : Int).sign = s := ⟨_, rfl⟩
 rw [hsg1] at HSG hsg
 obtain ⟨bz, hbz⟩ : ∃ s, (!decide (D % mntB y = 0)) = s := ⟨_, rfl⟩
 rw [hbz] at hsg HRD
 obtain ⟨m1, hm1⟩ : ∃ k, xpnB x - xpnB y = k := ⟨_, rfl⟩
 have hw1 : IntKind.i64.wrap (xpnB x - xpnB y) = m1 := by rw [hm1]; exact IntWalk.i64_in _ (by omega)
 have hw2 : IntKind.i64.wrap (m1 - 140) = m := by rw [← hm1, hm]; exact IntWalk.i64_in _ (by omega)
 generalize dvK x y mode = KK at *
 skip
 clear hkk hD hN hm my0 n0 lD l1 l2 l3 l4 ex ey cx cy hlA hlD hR hsg1 hbz hm1
 clear hng2 hp hq hx hy x0 y0 hmode fx fy
 generalize sgnB x = sgx at *
 generalize mntB x = mtx at *
 generalize xpnB x = xpx at *
 generalize sgnB y = sgy at *
 generalize mntB y = mty at *
 generalize xpnB y = xpy at *
 unfold NumV fmtV at *
 go_enter Tryz.func117, Tryz.ntmps117
 obtain ⟨⟨k0, k1, k2, k3⟩, ⟨c0, c1, c2, c3⟩, g0, g1, g2, g3⟩ := HK.out.fmt_two
 go_wp2_with fail
 refine (HZX.out _ (HP.out.below HK.out.2)).mono ?_
 rintro e1 w1 ⟨rfl, hb1⟩
 replace HK := Lib.hid (HK.out.later hb1)
 clear hb1
 clear k0 k1 k2 k3 c0 c1 c2 c3 g0 g1 g2 g3
 obtain ⟨⟨k0, k1, k2, k3⟩, ⟨c0, c1, c2, c3⟩, g0, g1, g2, g3⟩ := HK.out.fmt_two
 go_wp2_with fail
 refine (HZY.out _ (HQ.out.below HK.out.2)).mono ?_
 rintro e2 w2 ⟨rfl, hb2⟩
 replace HK := Lib.hid (HK.out.later hb2)
 clear hb2
 clear k0 k1 k2 k3 c0 c1 c2 c3 g0 g1 g2 g3
 obtain ⟨⟨k0, k1, k2, k3⟩, ⟨c0, c1, c2, c3⟩, g0, g1, g2, g3⟩ := HK.out.fmt_two
 go_wp2_with fail
 refine (HZX.out _ (HP.out.below HK.out.2)).mono ?_
 rintro e3 w3 ⟨rfl, hb3⟩
 replace HK := Lib.hid (HK.out.later hb3)
 clear hb3
 clear k0 k1 k2 k3 c0 c1 c2 c3 g0 g1 g2 g3
 obtain ⟨⟨k0, k1, k2, k3⟩, ⟨c0, c1, c2, c3⟩, g0, g1, g2, g3⟩ := HK.out.fmt_two
 go_upto_region 12 with fail
 clear k0 k1 k2 k3 c0 c1 c2 c3 g0 g1 g2 g3
 replace HP := Lib.hid (HP.out.below HK.out.2)
 replace HQ := Lib.hid (HQ.out.below HK.out.2)
 refine wp_region_m (fun w' : World => (w'.cell? ⟨f0 + 1, 0, none⟩ = some (.int .i64 0) ∧ w'.cell? ⟨f0 + 1, 1, none⟩ = some (.bool sgx) ∧ w'.cell? ⟨f0 + 1, 2, none⟩ = some (.pointer (some ⟨p, 0, none⟩)) ∧ w'.cell? ⟨f0 + 1, 3, none⟩ = some (.int .i64 xpx)) ∧ w'.cell? ⟨f0 + 1 + 1, 0, none⟩ = some (.int .i64 0) ∧ w'.cell? ⟨f0 + 1 + 1, 1, none⟩ = some (.bool sgy) ∧ w'.cell? ⟨f0 + 1 + 1, 2, none⟩ = some (.pointer (some ⟨q, 0, none⟩)) ∧ w'.cell? ⟨f0 + 1 + 1, 3, none⟩ = some (.int .i64 xpy)) 13 (.take 2 (.take 3 (.take 5 (.take 6 (.mix [(0, 73), (1, 74), (4, 77), (7, 80)] (.run 8 (.take 9 (.take 10 (.take 11 (.take 12 .nil)))))))))) (by kernel_rfl) (by kernel_rfl) ?_
 replace HP := Lib.hid (HP.out.below (drew_below _))
 replace HQ := Lib.hid (HQ.out.below (drew_below _))
 replace HK := Lib.hid (HK.out.later (drew_below _))
 generalize World.drew _ = W12 at HK HP HQ ⊢
 repeat (refine wpPm_takeL (v := ?_) rfl rfl (fun _ _ _ h => h) rfl (fun w' hSw => ?_) HK.out.ab4 ?_; rotate_left; (focus (go_simp; with_reducible rfl)); simp only [setL])
 have HLT : Hid (f0 + 1 + 1 < W12.heap.size) := Lib.hid (HK.out.lt _ (.tail _ (.tail _ (.head _))))
 have HS : ∀ V, Below W12.heap.size W12 V → (fun w' : World => (w'.cell? ⟨f0 + 1, 0, none⟩ = some (.int .i64 0) ∧ w'.cell? ⟨f0 + 1, 1, none⟩ = some (.bool sgx) ∧ w'.cell? ⟨f0 + 1, 2, none⟩ = some (.pointer (some ⟨p, 0, none⟩)) ∧ w'.cell? ⟨f0 + 1, 3, none⟩ = some (.int .i64 xpx)) ∧ w'.cell? ⟨f0 + 1 + 1, 0, none⟩ = some (.int .i64 0) ∧ w'.cell? ⟨f0 + 1 + 1, 1, none⟩ = some (.bool sgy) ∧ w'.cell? ⟨f0 + 1 + 1, 2, none⟩ = some (.pointer (some ⟨q, 0, none⟩)) ∧ w'.cell? ⟨f0 + 1 + 1, 3, none⟩ = some (.int .i64 xpy)) V := fun V hb => (HK.out.later hb).ab4
 have HOK : okJ [(0, 0, 0), (1, 4, ((D : Nat) : Int)), (7, 7, 0)] := okJ_of rfl (by intro e he f hf h1 h2; simp only [List.mem_cons, List.not_mem_nil, or_false] at he hf; rcases he with rfl | rfl | rfl <;> rcases hf with rfl | rfl | rfl <;> first | rfl | exact absurd h1 (by simp))
 refine wpPm_mix (l := [(0, 73), (1, 74), (4, 77), (7, 80)]) (ObjJ .u32 32 W12.heap.size W12 [(0, 0, 0), (1, 4, ((D : Nat) : Int)), (7, 7, 0)]) rfl (by simp) (by decide) ?_ (mix_cons rfl ?_ (mix_cons rfl ?_ (mix_cons rfl ?_ (mix_cons rfl ?_ (mix_nil))))) ?_
 ·refine fun dn h => ObjJ.init (Nat.le_refl _) (fun e he => ?_) _
  simp only [List.mem_cons, List.not_mem_nil, or_false] at he
  rcases he with rfl | rfl | rfl
  ·exact ⟨h (0, 73) (by simp), h (0, 73) (by simp)⟩
  ·exact ⟨h (1, 74) (by simp), h (4, 77) (by simp)⟩
  ·exact ⟨h (7, 80) (by simp), h (7, 80) (by simp)⟩
 ·intro a' dn vals w' hdf hin hvs hd hdep hJ K' hK
  have hJ2 := hJ.alloc HOK (i := 0) (j := 0) (z := 0) (by simp) (fun h => by first | rfl | cases h) hd objT_rint rfl
  clear hin hvs hdep hdf
  go_simp
  exact hK _ _ _ (updB_self _ _) (fun _ h => updB_ne h) (HS _ hJ2.1) hJ2
 ·intro a' dn vals w' hdf hin hvs hd hdep hJ K' hK
  have hJ2 := hJ.alloc HOK (i := 1) (j := 4) (z := ((D : Nat) : Int)) (by simp) (fun h => by first | rfl | cases h) hd objT_rint rfl
  clear hin hvs hdep hdf
  go_simp
  exact hK _ _ _ (updB_self _ _) (fun _ h => updB_ne h) (HS _ hJ2.1) hJ2
 ·intro a' dn vals w' hdf hin hvs hd hdep hJ K' hK
  obtain ⟨r0, hv, hl, hz, hfill⟩ := hJ.fill HOK (i := 1) (j := 4) (z := ((D : Nat) : Int)) (by simp) (by decide) (hdep ⟨1, .data⟩ (by simp) rfl 74 (by decide)) hd
  have i74 : a'.tmps[74]?.getD undef = .pointer (some ⟨r0, 0, none⟩) := evT ((hvs (1, 74) (by simp)).trans hv)
  have i76 : a'.tmps[76]?.getD undef = .pointer (some ⟨p, 0, none⟩) := evT (hin 76 (by decide))
  clear hin hvs hdep hdf
  go_simp
  refine (HLS.out r0 w' hz.1 (HP.out.below hJ.1)).mono ?_
  rintro e1 w2 ⟨rfl, hi1, hm1⟩
  have hJ2 := hfill w2 _ rfl hi1 hm1
  exact hK _ _ _ (updB_self _ _) (fun _ h => updB_ne h) (HS _ hJ2.1) hJ2
 ·intro a' dn vals w' hdf hin hvs hd hdep hJ K' hK
  have hJ2 := hJ.alloc HOK (i := 7) (j := 7) (z := 0) (by simp) (fun h => by first | rfl | cases h) hd objT_rint rfl
  clear hin hvs hdep hdf
  go_simp
  exact hK _ _ _ (updB_self _ _) (fun _ h => updB_ne h) (HS _ hJ2.1) hJ2
 intro dn vals W12m hd hJ
 have hall : ∀ e ∈ ([(0, 0, 0), (1, 4, ((D : Nat) : Int)), (7, 7, 0)] : List (Nat × Nat × Int)), dn e.1 = true ∧ dn e.2.1 = true := by
  intro e he
  simp only [List.mem_cons, List.not_mem_nil, or_false] at he
  rcases he with rfl | rfl | rfl
  ·exact ⟨hd (0, 73) (by simp), hd (0, 73) (by simp)⟩
  ·exact ⟨hd (1, 74) (by simp), hd (4, 77) (by simp)⟩
  ·exact ⟨hd (7, 80) (by simp), hd (7, 80) (by simp)⟩
 obtain ⟨hb1, r, hr, hne⟩ := hJ.all hall
 clear hall hJ hd HOK HS
 obtain ⟨hv0, -, hl0, hz0⟩ := hr (0, 0, 0) (by simp)
 obtain ⟨hv1, hv4, hl1, hz1⟩ := hr (1, 4, ((D : Nat) : Int)) (by simp)
 obtain ⟨hv7, -, hl7, hz7⟩ := hr (7, 7, 0) (by simp)
 have n0_1 := hne (0, 0, 0) (by simp) (1, 4, ((D : Nat) : Int)) (by simp) (by simp)
 have n0_7 := hne (0, 0, 0) (by simp) (7, 7, 0) (by simp) (by simp)
 have n1_7 := hne (1, 4, ((D : Nat) : Int)) (by simp) (7, 7, 0) (by simp) (by simp)
 clear hr hne
 replace HK := Lib.hid (HK.out.later hb1)
 replace HP := Lib.hid (HP.out.below hb1)
 replace HQ := Lib.hid (HQ.out.below hb1)
 simp only [setD, List.setIfInBounds_toArray, List.set_cons_zero, List.set_cons_succ, hv0, hv1, hv4, hv7]
 clear hv0 hv1 hv4 hv7
 dsimp only at hl0 hl1 hl7 hz0 hz1 hz7 n0_1 n0_7 n1_7
 generalize r 0 = r0 at *
 generalize r 1 = r1 at *
 generalize r 7 = r7 at *
 skip
 refine wpPm_goL rfl rfl fun K' hK => ?_
 go_simp
 refine (HQR.out r0 r1 r7 _ hz0.1 hz1 HQ.out hz7.1 n0_7).mono ?_
 rintro e1 V2 ⟨VW, rfl, hq1, hr1, hm1, hm2⟩
 rw [nat_tdiv, HN.out] at hq1
 rw [nat_tmod] at hr1
 have HSR := Lib.hid hq1
 have HRR := Lib.hid hr1
 have HNE : Hid (f0 + 1 + 1 < r0 ∧ f0 + 1 + 1 < r7) := Lib.hid (by have := HLT.out; omega)
 replace HK := Lib.hid ((HK.out.mod hm1 (fun t m => by have := HNE.out; simp only [List.mem_cons, List.not_mem_nil, or_false] at m; rcases m with rfl | rfl | rfl <;> simp <;> omega) (by have := HNE.out; omega)).mod hm2 (fun t m => by have := HNE.out; simp only [List.mem_cons, List.not_mem_nil, or_false] at m; rcases m with rfl | rfl | rfl <;> simp <;> omega) (by have := HNE.out; omega))
 refine hK _ _ HK.out.ab4 ?_
 clear hK K' hq1 hr1 hm1 hm2 hz0 hz1 hz7 n0_1 n0_7 n1_7 hl0 hl1 hl7 HP HQ
 try simp only [Act.put, setL]
 repeat (refine wpPm_takeL (v := ?_) rfl rfl (fun _ _ _ h => h) rfl (fun w' hSw => ?_) HK.out.ab4 ?_; rotate_left; (focus (go_simp; with_reducible rfl)); simp only [setL])
 refine wpPm_nil ?_
 simp only [drL]
 obtain ⟨⟨k0, k1, k2, k3⟩, ⟨c0, c1, c2, c3⟩, g0, g1, g2, g3⟩ := HK.out.fmt_two
 go_upto_region 13 with fail
 clear k0 k1 k2 k3 c0 c1 c2 c3 g0 g1 g2 g3
 refine wp_region_pl (fun w' : World => (w'.cell? ⟨f0, 0, none⟩ = some (.int .i64 53) ∧ w'.cell? ⟨f0, 1, none⟩ = some (.int .i64 (-1022)) ∧ w'.cell? ⟨f0, 2, none⟩ = some (.int .i64 1023) ∧ w'.cell? ⟨f0, 3, none⟩ = some (.int .i64 11)) ∧ (w'.cell? ⟨f0 + 1, 0, none⟩ = some (.int .i64 0) ∧ w'.cell? ⟨f0 + 1, 1, none⟩ = some (.bool sgx) ∧ w'.cell? ⟨f0 + 1, 2, none⟩ = some (.pointer (some ⟨p, 0, none⟩)) ∧ w'.cell? ⟨f0 + 1, 3, none⟩ = some (.int .i64 xpx)) ∧ w'.cell? ⟨f0 + 1 + 1, 0, none⟩ = some (.int .i64 0) ∧ w'.cell? ⟨f0 + 1 + 1, 1, none⟩ = some (.bool sgy) ∧ w'.cell? ⟨f0 + 1 + 1, 2, none⟩ = some (.pointer (some ⟨q, 0, none⟩)) ∧ w'.cell? ⟨f0 + 1 + 1, 3, none⟩ = some (.int .i64 xpy)) 16 (.take 0 (.take 1 (.take 2 (.take 3 (.take 4 (.take 5 (.take 6 (.take 7 (.take 8 (.take 9 (.take 12 (.run 10 (.take 11 (.run 13 (.take 14 (.take 15 (.nil))))))))))))))))) (by kernel_rfl) (by kernel_rfl) ?_
 replace HK := Lib.hid (HK.out.later (drew_below _))
 replace HSR := Lib.hid (HSR.out.below (drew_below _))
 replace HRR := Lib.hid (HRR.out.below (drew_below _))
 generalize World.drew _ = W13 at HK HSR HRR ⊢
 repeat (refine tkL (v := ?_) rfl rfl rfl (fun w' hSw => ?_) HK.out.fmt_two ?_; rotate_left; (focus (go_simp; with_reducible rfl)); simp only [setL])
 refine wpPl_goL rfl rfl fun K' hK => ?_
 go_simp
 refine (HSG.out r7 _ HRR.out).mono ?_
 rintro e1 W13v1 ⟨rfl, rfl⟩
 refine hK _ _ HK.out.fmt_two ?_
 clear hK K'
 try simp only [Act.put, setL]
 repeat (refine tkL (v := ?_) rfl rfl rfl (fun w' hSw => ?_) HK.out.fmt_two ?_; rotate_left; (focus (go_simp; with_reducible rfl)); simp only [setL])
 refine wpPl_goL rfl rfl fun K' hK => ?_
 go_simp
 refine (HRD.out r0 _ HSR.out).mono ?_
 rintro e1 W13v2 ⟨fl, rfl, hb1⟩
 replace HK := Lib.hid (HK.out.later hb1)
 replace HSR := Lib.hid (HSR.out.below hb1)
 replace HRR := Lib.hid (HRR.out.below hb1)
 refine hK _ _ HK.out.fmt_two ?_
 clear hK K' hb1
 try simp only [Act.put, setL]
 repeat (refine tkL (v := ?_) rfl rfl rfl (fun w' hSw => ?_) HK.out.fmt_two ?_; rotate_left; (focus (go_simp; with_reducible rfl)); simp only [setL])
 refine wpPl_nil ?_
 simp only [drL]
 go_wp2
 refine bodyPost_ret (v := .tuple #[.int .u64 (R : Nat), .int .i64 fl]) (by simp [results, Tryz.results117, go_sem]) rfl ⟨_, _, rfl, HJ.out.1, HJ.out.2.1, HJ.out.2.2, HK.out.2⟩
set_option maxRecDepth 100000 in
set_option maxHeartbeats 3200000 in
theorem cRoot_any (x p : Nat) (mode : Int) (w : World) (hx : W64 x) (nx : nanB x = false) (hs : 0 ≤ ky x) (hmode : mode = 3 ∨ mode = 4) (hp : RInt w p (mntB x : Nat)) :
  Calls Tryz.prog 80 #[fmtV, NumV (kndB x) (sgnB x) p (xpnB x), .int .i64 mode] w (AnsK (if ky x = (kInf : Int) then (kInf : Int) else roK x mode) w) := by
 have HP := Lib.hid hp
 have HK := Lib.hid (Bks.new2t w 81 87 #[.int .i64 53, .int .i64 (-1022), .int .i64 1023, .int .i64 11] #[.int .i64 (kndB x), .bool (sgnB x), .pointer (some ⟨p, 0, none⟩), .int .i64 (xpnB x)])
 obtain ⟨f0, hf0⟩ : ∃ f, w.heap.size = f := ⟨_, rfl⟩
 rw [hf0] at HK
 by_cases h0 : ky x = 0
 ·rw [if_neg (by rw [h0]; decide)]
  unfold roK
  rw [if_pos h0]
  have hz : kndB x = 0 ∧ mntB x = 0 := by rcases nought_two h0 with rfl | rfl <;> decide
  have HZX := Lib.hid fun W h => cIsZero_any (sgnB x) p (mntB x) (xpnB x) W h
  rw [decide_eq_true hz.2] at HZX
  rw [hz.1] at HK ⊢
  have HI := Lib.hid fun W => cNought_any (sgnB x) W
  have HJ := Lib.hid (nought_rok (sgnB x))
  generalize joinB (sgnB x) 0 0 = JJ at *
  clear hp hx nx hs hmode h0 hz
  generalize sgnB x = sgx at *
  generalize mntB x = mtx at *
  generalize xpnB x = xpx at *
  unfold NumV fmtV at *
  go_enter Tryz.func80, Tryz.ntmps80
  obtain ⟨⟨k0, k1, k2, k3⟩, c0, c1, c2, c3⟩ := HK.out.fmt_one
  go_wp2_with fail
  refine (HZX.out _ (HP.out.below HK.out.2)).mono ?_
  rintro e1 w1 ⟨rfl, hb1⟩
  replace HK := Lib.hid (HK.out.later hb1)
  clear hb1
  clear k0 k1 k2 k3 c0 c1 c2 c3
  obtain ⟨⟨k0, k1, k2, k3⟩, c0, c1, c2, c3⟩ := HK.out.fmt_one
  go_wp2_with fail
  refine (HI.out _).mono ?_
  rintro e2 w2 ⟨rfl, hb2⟩
  replace HK := Lib.hid (HK.out.later hb2)
  clear hb2
  clear k0 k1 k2 k3 c0 c1 c2 c3
  obtain ⟨⟨k0, k1, k2, k3⟩, c0, c1, c2, c3⟩ := HK.out.fmt_one
  go_wp2
  refine bodyPost_ret (v := .tuple #[.int .u64 (JJ : Nat), .int .i64 0]) (by simp [results, Tryz.results80, go_sem]) rfl ⟨_, _, rfl, HJ.out.1, HJ.out.2.1, HJ.out.2.2, HK.out.2⟩
 have hsg : sgnB x = false := by rw [sgn_ky hx h0]; exact decide_eq_false (by omega)
 have HZX := Lib.hid fun W h => cIsZ_ne (x := x) (p := p) W hx h0 h
 rw [hsg] at HK HZX ⊢
 by_cases h1 : ky x = (kInf : Int)
 ·rw [if_pos h1]
  have hf : finB x = false := by
   cases hf : finB x
   ·rfl
   ·have := ((fin_ky hx (num_of nx)).1 hf).2; omega
  rw [show kndB x = 1 by unfold kndB; rw [hf]; rfl] at HK HZX ⊢
  have HI := Lib.hid fun W => cInfinity_any false W
  have HJ := Lib.hid (infin_ok false)
  rw [if_neg (by decide)] at HJ
  generalize joinB false 2047 0 = JJ at *
  clear hp hx nx hs hmode h0 h1 hf hsg
  generalize mntB x = mtx at *
  generalize xpnB x = xpx at *
  unfold NumV fmtV at *
  go_enter Tryz.func80, Tryz.ntmps80
  obtain ⟨⟨k0, k1, k2, k3⟩, c0, c1, c2, c3⟩ := HK.out.fmt_one
  go_wp2_with fail
  refine (HZX.out _ (HP.out.below HK.out.2)).mono ?_
  rintro e1 w1 ⟨rfl, hb1⟩
  replace HK := Lib.hid (HK.out.later hb1)
  clear hb1
  clear k0 k1 k2 k3 c0 c1 c2 c3
  obtain ⟨⟨k0, k1, k2, k3⟩, c0, c1, c2, c3⟩ := HK.out.fmt_one
  go_wp2_with fail
  refine (HI.out _).mono ?_
  rintro e2 w2 ⟨rfl, hb2⟩
  replace HK := Lib.hid (HK.out.later hb2)
  clear hb2
  clear k0 k1 k2 k3 c0 c1 c2 c3
  obtain ⟨⟨k0, k1, k2, k3⟩, c0, c1, c2, c3⟩ := HK.out.fmt_one
  go_wp2
  refine bodyPost_ret (v := .tuple #[.int .u64 (JJ : Nat), .int .i64 0]) (by simp [results, Tryz.results80, go_sem]) rfl ⟨_, _, rfl, HJ.out.1, HJ.out.2.1, HJ.out.2.2, HK.out.2⟩
 rw [if_neg h1]
 unfold roK
 rw [if_neg h0]
 have hf : finB x = true := by
  have h2 := ky_bd hx (num_of nx)
  have h3 : -(kInf : Int) < 0 := by decide
  exact (fin_ky hx (num_of nx)).2 ⟨by omega, by omega⟩
 rw [knd_fin hf] at HK HZX ⊢
 have ex := xpn_bd hf
 have cx := mnt_bd x
 have m0 := mnt_ne hx hf h0
 have hlA := Nat.le_trans (ln_le_bl 32 (mntB x) (by decide)) cx
 by_cases hpar : (xpnB x - 280) % 2 = 0
 ·have hpr : (xpnB x - ((280 : Nat) : Int)) % 2 = 0 := by omega
  obtain ⟨d, hd⟩ : ∃ d, xpnB x - 280 = d := ⟨_, rfl⟩
  have hd2 : xpnB x - ((280 : Nat) : Int) = d := hd
  rw [hd2] at hpr
  obtain ⟨m, hm⟩ : ∃ m, d / 2 = m := ⟨_, rfl⟩
  have hw280 : IntKind.i64.wrap (xpnB x - 280) = d := (IntWalk.i64_in _ (by omega)).trans hd
  have hb280 := (even_t hpr).1
  have hq := ((even_t hpr).2).trans hm
  have hwm : IntKind.i64.wrap m = m := IntWalk.i64_in _ (by omega)
  obtain ⟨M, hM⟩ : ∃ M, mntB x * 2 ^ 280 = M := ⟨_, rfl⟩
  have HLS := Lib.hid fun b W h1 h2 => rLsh_any b 0 p 0 280 (mntB x : Nat) W h1 h2 (by rw [Int.natAbs_natCast]; omega) (by omega)
  rw [shl_nat hM] at HLS
  have lM : bl M ≤ 400 := by have := bl_of_mul hM; omega
  have hlM := Nat.le_trans (ln_le_bl 32 M (by decide)) lM
  have hM0 : M ≠ 0 := ne_of_mul hM m0
  have HSQ := Lib.hid fun b c W h1 h2 => rSqrt_any b 0 c 0 M W h1 h2 hM0 (by omega)
  have HPL := Lib.hid fun R (h1 : R * R ≤ M) (h2 : M < (R + 1) * (R + 1)) => root_place hx hf h0 (.inl rfl) (by rw [hd2]; exact hpr) hM h1 h2 hmode
  rw [hd2, hm] at HPL
  have HRD := Lib.hid fun R b W (h1 : R * R ≤ M) (h2 : M < (R + 1) * (R + 1)) h => cRound_any false b R m (!decide (R * R = M)) mode W h (HPL.out R h1 h2).1 (HPL.out R h1 h2).2.1 (HPL.out R h1 h2).2.2.1 (HPL.out R h1 h2).2.2.2.1 (fun _ => (HPL.out R h1 h2).2.2.2.2.1) (by omega)
  have HKK := Lib.hid fun R (h1 : R * R ≤ M) (h2 : M < (R + 1) * (R + 1)) => (HPL.out R h1 h2).2.2.2.2.2
  have HCM := Lib.hid fun c d (X Y : Nat) W h1 h2 => rCmp_any c 0 d 0 X Y W h1 h2
  have HML := Lib.hid fun b c (R : Nat) W (h1 : R * R ≤ M) h2 h3 => rMul_any b 0 c 0 c 0 (R : Int) (R : Int) W h2 h3 h3 (by rw [Int.natAbs_natCast]; exact root_ln h1 (by omega)) (by rw [Int.natAbs_natCast]; exact root_ln h1 (by omega))
  generalize rtK x mode = KK at *
  clear HPL hd2 hm hd hpr hpar hM lM hlM hM0 hlA m0 cx ex hf h1 h0 hsg hp hx nx hs hmode
  generalize mntB x = mtx at *
  generalize xpnB x = xpx at *
  unfold NumV fmtV at *
  go_enter Tryz.func80, Tryz.ntmps80
  obtain ⟨⟨k0, k1, k2, k3⟩, c0, c1, c2, c3⟩ := HK.out.fmt_one
  go_wp2_with fail
  refine (HZX.out _ (HP.out.below HK.out.2)).mono ?_
  rintro e1 w1 ⟨rfl, hb1⟩
  replace HK := Lib.hid (HK.out.later hb1)
  clear hb1
  clear k0 k1 k2 k3 c0 c1 c2 c3
  obtain ⟨⟨k0, k1, k2, k3⟩, c0, c1, c2, c3⟩ := HK.out.fmt_one
  have HJ : Hid (Its w w1 []) := Lib.hid ⟨fun t m => (by cases m), HK.out.2⟩
  obtain ⟨⟨a0, a1, a2, a3⟩, a4, a5, a6, a7⟩ := (HK.out.later (Below.alloc_self w1 (.cells #[.bool false, .slice none 0 0] 67))).fmt_one
  go_wp2_with fail
  clear a0 a1 a2 a3 a4 a5 a6 a7
  clear k0 k1 k2 k3 c0 c1 c2 c3
  have HJ1 := Lib.hid HJ.out.alloc
  have HL1 : Hid (f0 + 1 < w1.heap.size) := Lib.hid (HK.out.lt _ (.tail _ (.head _)))
  have HK1 := Lib.hid (HK.out.later (Below.alloc_self w1 (.cells #[.bool false, .slice none 0 0] 67)))
  generalize World.alloc w1 _ = W1 at HJ1 HK1 ⊢
  generalize w1.heap.size = r1 at *
  clear HJ HK
  refine (HLS.out r1 _ (HJ1.out.get (.head _)).1 (HP.out.below HJ1.out.2)).mono ?_
  rintro e2 w2 ⟨rfl, hi1, hm1⟩
  have HJ := Lib.hid (HJ1.out.puts (by have := HL1.out; omega) (fun t m => by cases m) hm1 hi1)
  have HK := Lib.hid (HK1.out.mod hm1 (fun t m => by have := HL1.out; simp only [List.mem_cons, List.not_mem_nil, or_false] at m; rcases m with rfl | rfl <;> simp <;> omega) (by have := HL1.out; omega))
  clear hm1 hi1 HJ1 HK1
  obtain ⟨⟨k0, k1, k2, k3⟩, c0, c1, c2, c3⟩ := HK.out.fmt_one
  go_wp2_with fail
  clear k0 k1 k2 k3 c0 c1 c2 c3
  have HJ1 := Lib.hid HJ.out.alloc
  have HL2 : Hid (f0 + 1 < w2.heap.size) := Lib.hid (HK.out.lt _ (.tail _ (.head _)))
  have HK1 := Lib.hid (HK.out.later (Below.alloc_self w2 (.cells #[.bool false, .slice none 0 0] 67)))
  generalize World.alloc w2 _ = W2 at HJ1 HK1 ⊢
  have HN2 : Hid (r1 < w2.heap.size) := Lib.hid (by have := HJ.out.lt; simp only [List.mem_cons, List.not_mem_nil, or_false, forall_eq] at this; omega)
  generalize w2.heap.size = r2 at *
  clear HJ HK
  refine (HSQ.out r2 r1 _ (HJ1.out.get (.head _)).1 (HJ1.out.get (.tail _ (.head _)))).mono ?_
  rintro e3 w3 ⟨R, q1, q2, rfl, hi1, hm1⟩
  have Q1 := Lib.hid q1
  have Q2 := Lib.hid q2
  clear q1 q2
  have HJ := Lib.hid (HJ1.out.puts (by have := HL2.out; omega) (fun t m => by have := HN2.out; simp only [List.mem_cons, List.not_mem_nil, or_false] at m; rcases m with rfl <;> simp <;> omega) hm1 hi1)
  have HK := Lib.hid (HK1.out.mod hm1 (fun t m => by have := HL2.out; simp only [List.mem_cons, List.not_mem_nil, or_false] at m; rcases m with rfl | rfl <;> simp <;> omega) (by have := HL2.out; omega))
  clear hm1 hi1 HJ1 HK1
  obtain ⟨⟨k0, k1, k2, k3⟩, c0, c1, c2, c3⟩ := HK.out.fmt_one
  go_wp2_with fail
  clear k0 k1 k2 k3 c0 c1 c2 c3
  have HJ1 := Lib.hid HJ.out.alloc
  have HL3 : Hid (f0 + 1 < w3.heap.size) := Lib.hid (HK.out.lt _ (.tail _ (.head _)))
  have HK1 := Lib.hid (HK.out.later (Below.alloc_self w3 (.cells #[.bool false, .slice none 0 0] 67)))
  generalize World.alloc w3 _ = W3 at HJ1 HK1 ⊢
  have HN3 : Hid (r1 < w3.heap.size ∧ r2 < w3.heap.size) := Lib.hid (by have := HJ.out.lt; simp only [List.mem_cons, List.not_mem_nil, or_false, forall_eq_or_imp, forall_eq] at this; omega)
  generalize w3.heap.size = r3 at *
  clear HJ HK
  refine (HML.out r3 r2 R _ Q1.out (HJ1.out.get (.head _)).1 (HJ1.out.get (.tail _ (.head _)))).mono ?_
  rintro e4 w4 ⟨rfl, hi1, hm1⟩
  rw [← Int.natCast_mul] at hi1
  have HJ := Lib.hid (HJ1.out.puts (by have := HL3.out; omega) (fun t m => by have := HN3.out; simp only [List.mem_cons, List.not_mem_nil, or_false] at m; rcases m with rfl | rfl <;> simp <;> omega) hm1 hi1)
  have HK := Lib.hid (HK1.out.mod hm1 (fun t m => by have := HL3.out; simp only [List.mem_cons, List.not_mem_nil, or_false] at m; rcases m with rfl | rfl <;> simp <;> omega) (by have := HL3.out; omega))
  clear hm1 hi1 HJ1 HK1
  obtain ⟨⟨k0, k1, k2, k3⟩, c0, c1, c2, c3⟩ := HK.out.fmt_one
  have hsq := sq_tell R M
  have HRD2 := Lib.hid fun b W h => HRD.out R b W Q1.out Q2.out h
  have HKK2 := HKK.out R Q1.out Q2.out
  have HJJ : Hid (W64 (roundR false R m (!decide (R * R = M)) mode) ∧ nanB (roundR false R m (!decide (R * R = M)) mode) = false ∧ ky (roundR false R m (!decide (R * R = M)) mode) = KK) := Lib.hid ⟨by unfold roundR; split <;> exact (rndX_lt _ _ mode).1, num_iff.2 (by unfold roundR; split <;> exact (rndX_lt _ _ mode).2), HKK2⟩
  generalize roundR false R m (!decide (R * R = M)) mode = JJ at *
  generalize (!decide (R * R = M)) = mo at *
  clear HKK2 HKK HRD
  go_wp2_with fail
  refine (HCM.out r3 r1 (R * R) M _ (HJ.out.get (.head _)) (HJ.out.get (.tail _ (.tail _ (.head _))))).mono ?_
  rintro e5 w5 ⟨rfl, nd, rfl⟩
  replace HJ := Lib.hid (HJ.out.later (drewN_below w4 nd))
  replace HK := Lib.hid (HK.out.later (drewN_below w4 nd))
  generalize w4.drewN nd = w5 at *
  clear k0 k1 k2 k3 c0 c1 c2 c3
  obtain ⟨⟨k0, k1, k2, k3⟩, c0, c1, c2, c3⟩ := HK.out.fmt_one
  generalize cmpZ ((R * R : Nat) : Int) (M : Int) = cz at *
  go_wp2_with fail
  refine (HRD2.out r2 _ (HJ.out.get (.tail _ (.head _)))).mono ?_
  rintro e6 w6 ⟨fl, rfl, hb6⟩
  replace HK := Lib.hid (HK.out.later hb6)
  clear hb6
  clear k0 k1 k2 k3 c0 c1 c2 c3
  go_wp2
  refine bodyPost_ret (v := .tuple #[.int .u64 (JJ : Nat), .int .i64 fl]) (by simp [results, Tryz.results80, go_sem]) rfl ⟨_, _, rfl, HJJ.out.1, HJJ.out.2.1, HJJ.out.2.2, HK.out.2⟩
 obtain ⟨d0, hd0⟩ : ∃ d, xpnB x - 280 = d := ⟨_, rfl⟩
 have hw0 : IntKind.i64.wrap (xpnB x - 280) = d0 := (IntWalk.i64_in _ (by omega)).trans hd0
 have hb0 : (d0.tmod 2 != 0) = true := odd_t (by omega)
 have hpr : (xpnB x - ((281 : Nat) : Int)) % 2 = 0 := by omega
 obtain ⟨d, hd⟩ : ∃ d, xpnB x - 281 = d := ⟨_, rfl⟩
 have hd2 : xpnB x - ((281 : Nat) : Int) = d := hd
 rw [hd2] at hpr
 obtain ⟨m, hm⟩ : ∃ m, d / 2 = m := ⟨_, rfl⟩
 have hw281 : IntKind.i64.wrap (xpnB x - 281) = d := (IntWalk.i64_in _ (by omega)).trans hd
 have hb281 := (even_t hpr).1
 have hq := ((even_t hpr).2).trans hm
 have hwm : IntKind.i64.wrap m = m := IntWalk.i64_in _ (by omega)
 obtain ⟨M, hM⟩ : ∃ M, mntB x * 2 ^ 281 = M := ⟨_, rfl⟩
 have HLS := Lib.hid fun b W h1 h2 => rLsh_any b 0 p 0 281 (mntB x : Nat) W h1 h2 (by rw [Int.natAbs_natCast]; omega) (by omega)
 rw [shl_nat hM] at HLS
 have lM : bl M ≤ 400 := by have := bl_of_mul hM; omega
 have hlM := Nat.le_trans (ln_le_bl 32 M (by decide)) lM
 have hM0 : M ≠ 0 := ne_of_mul hM m0
 have HSQ := Lib.hid fun b c W h1 h2 => rSqrt_any b 0 c 0 M W h1 h2 hM0 (by omega)
 have HPL := Lib.hid fun R (h1 : R * R ≤ M) (h2 : M < (R + 1) * (R + 1)) => root_place hx hf h0 (.inr rfl) (by rw [hd2]; exact hpr) hM h1 h2 hmode
 rw [hd2, hm] at HPL
 have HRD := Lib.hid fun R b W (h1 : R * R ≤ M) (h2 : M < (R + 1) * (R + 1)) h => cRound_any false b R m (!decide (R * R = M)) mode W h (HPL.out R h1 h2).1 (HPL.out R h1 h2).2.1 (HPL.out R h1 h2).2.2.1 (HPL.out R h1 h2).2.2.2.1 (fun _ => (HPL.out R h1 h2).2.2.2.2.1) (by omega)
 have HKK := Lib.hid fun R (h1 : R * R ≤ M) (h2 : M < (R + 1) * (R + 1)) => (HPL.out R h1 h2).2.2.2.2.2
 have HCM := Lib.hid fun c d (X Y : Nat) W h1 h2 => rCmp_any c 0 d 0 X Y W h1 h2
 have HML := Lib.hid fun b c (R : Nat) W (h1 : R * R ≤ M) h2 h3 => rMul_any b 0 c 0 c 0 (R : Int) (R : Int) W h2 h3 h3 (by rw [Int.natAbs_natCast]; exact root_ln h1 (by omega)) (by rw [Int.natAbs_natCast]; exact root_ln h1 (by omega))
 generalize rtK x mode = KK at *
 clear HPL hd0 hd2 hm hd hpr hpar hM lM hlM hM0 hlA m0 cx ex hf h1 h0 hsg hp hx nx hs hmode
 generalize mntB x = mtx at *
 generalize xpnB x = xpx at *
 unfold NumV fmtV at *
 go_enter Tryz.func80, Tryz.ntmps80
 obtain ⟨⟨k0, k1, k2, k3⟩, c0, c1, c2, c3⟩ := HK.out.fmt_one
 go_wp2_with fail
 refine (HZX.out _ (HP.out.below HK.out.2)).mono ?_
 rintro e1 w1 ⟨rfl, hb1⟩
 replace HK := Lib.hid (HK.out.later hb1)
 clear hb1
 clear k0 k1 k2 k3 c0 c1 c2 c3
 obtain ⟨⟨k0, k1, k2, k3⟩, c0, c1, c2, c3⟩ := HK.out.fmt_one
 have HJ : Hid (Its w w1 []) := Lib.hid ⟨fun t m => (by cases m), HK.out.2⟩
 obtain ⟨⟨a0, a1, a2, a3⟩, a4, a5, a6, a7⟩ := (HK.out.later (Below.alloc_self w1 (.cells #[.bool false, .slice none 0 0] 67))).fmt_one
 go_wp2_with fail
 clear a0 a1 a2 a3 a4 a5 a6 a7
 clear k0 k1 k2 k3 c0 c1 c2 c3
 have HJ1 := Lib.hid HJ.out.alloc
 have HL1 : Hid (f0 + 1 < w1.heap.size) := Lib.hid (HK.out.lt _ (.tail _ (.head _)))
 have HK1 := Lib.hid (HK.out.later (Below.alloc_self w1 (.cells #[.bool false, .slice none 0 0] 67)))
 generalize World.alloc w1 _ = W1 at HJ1 HK1 ⊢
 generalize w1.heap.size = r1 at *
 clear HJ HK
 refine (HLS.out r1 _ (HJ1.out.get (.head _)).1 (HP.out.below HJ1.out.2)).mono ?_
 rintro e2 w2 ⟨rfl, hi1, hm1⟩
 have HJ := Lib.hid (HJ1.out.puts (by have := HL1.out; omega) (fun t m => by cases m) hm1 hi1)
 have HK := Lib.hid (HK1.out.mod hm1 (fun t m => by have := HL1.out; simp only [List.mem_cons, List.not_mem_nil, or_false] at m; rcases m with rfl | rfl <;> simp <;> omega) (by have := HL1.out; omega))
 clear hm1 hi1 HJ1 HK1
 obtain ⟨⟨k0, k1, k2, k3⟩, c0, c1, c2, c3⟩ := HK.out.fmt_one
 go_wp2_with fail
 clear k0 k1 k2 k3 c0 c1 c2 c3
 have HJ1 := Lib.hid HJ.out.alloc
 have HL2 : Hid (f0 + 1 < w2.heap.size) := Lib.hid (HK.out.lt _ (.tail _ (.head _)))
 have HK1 := Lib.hid (HK.out.later (Below.alloc_self w2 (.cells #[.bool false, .slice none 0 0] 67)))
 generalize World.alloc w2 _ = W2 at HJ1 HK1 ⊢
 have HN2 : Hid (r1 < w2.heap.size) := Lib.hid (by have := HJ.out.lt; simp only [List.mem_cons, List.not_mem_nil, or_false, forall_eq] at this; omega)
 generalize w2.heap.size = r2 at *
 clear HJ HK
 refine (HSQ.out r2 r1 _ (HJ1.out.get (.head _)).1 (HJ1.out.get (.tail _ (.head _)))).mono ?_
 rintro e3 w3 ⟨R, q1, q2, rfl, hi1, hm1⟩
 have Q1 := Lib.hid q1
 have Q2 := Lib.hid q2
 clear q1 q2
 have HJ := Lib.hid (HJ1.out.puts (by have := HL2.out; omega) (fun t m => by have := HN2.out; simp only [List.mem_cons, List.not_mem_nil, or_false] at m; rcases m with rfl <;> simp <;> omega) hm1 hi1)
 have HK := Lib.hid (HK1.out.mod hm1 (fun t m => by have := HL2.out; simp only [List.mem_cons, List.not_mem_nil, or_false] at m; rcases m with rfl | rfl <;> simp <;> omega) (by have := HL2.out; omega))
 clear hm1 hi1 HJ1 HK1
 obtain ⟨⟨k0, k1, k2, k3⟩, c0, c1, c2, c3⟩ := HK.out.fmt_one
 go_wp2_with fail
 clear k0 k1 k2 k3 c0 c1 c2 c3
 have HJ1 := Lib.hid HJ.out.alloc
 have HL3 : Hid (f0 + 1 < w3.heap.size) := Lib.hid (HK.out.lt _ (.tail _ (.head _)))
 have HK1 := Lib.hid (HK.out.later (Below.alloc_self w3 (.cells #[.bool false, .slice none 0 0] 67)))
 generalize World.alloc w3 _ = W3 at HJ1 HK1 ⊢
 have HN3 : Hid (r1 < w3.heap.size ∧ r2 < w3.heap.size) := Lib.hid (by have := HJ.out.lt; simp only [List.mem_cons, List.not_mem_nil, or_false, forall_eq_or_imp, forall_eq] at this; omega)
 generalize w3.heap.size = r3 at *
 clear HJ HK
 refine (HML.out r3 r2 R _ Q1.out (HJ1.out.get (.head _)).1 (HJ1.out.get (.tail _ (.head _)))).mono ?_
 rintro e4 w4 ⟨rfl, hi1, hm1⟩
 rw [← Int.natCast_mul] at hi1
 have HJ := Lib.hid (HJ1.out.puts (by have := HL3.out; omega) (fun t m => by have := HN3.out; simp only [List.mem_cons, List.not_mem_nil, or_false] at m; rcases m with rfl | rfl <;> simp <;> omega) hm1 hi1)
 have HK := Lib.hid (HK1.out.mod hm1 (fun t m => by have := HL3.out; simp only [List.mem_cons, List.not_mem_nil, or_false] at m; rcases m with rfl | rfl <;> simp <;> omega) (by have := HL3.out; omega))
 clear hm1 hi1 HJ1 HK1
 obtain ⟨⟨k0, k1, k2, k3⟩, c0, c1, c2, c3⟩ := HK.out.fmt_one
 have hsq := sq_tell R M
 have HRD2 := Lib.hid fun b W h => HRD.out R b W Q1.out Q2.out h
 have HKK2 := HKK.out R Q1.out Q2.out
 have HJJ : Hid (W64 (roundR false R m (!decide (R * R = M)) mode) ∧ nanB (roundR false R m (!decide (R * R = M)) mode) = false ∧ ky (roundR false R m (!decide (R * R = M)) mode) = KK) := Lib.hid ⟨by unfold roundR; split <;> exact (rndX_lt _ _ mode).1, num_iff.2 (by unfold roundR; split <;> exact (rndX_lt _ _ mode).2), HKK2⟩
 generalize roundR false R m (!decide (R * R = M)) mode = JJ at *
 generalize (!decide (R * R = M)) = mo at *
 clear HKK2 HKK HRD
 go_wp2_with fail
 refine (HCM.out r3 r1 (R * R) M _ (HJ.out.get (.head _)) (HJ.out.get (.tail _ (.tail _ (.head _))))).mono ?_
 rintro e5 w5 ⟨rfl, nd, rfl⟩
 replace HJ := Lib.hid (HJ.out.later (drewN_below w4 nd))
 replace HK := Lib.hid (HK.out.later (drewN_below w4 nd))
 generalize w4.drewN nd = w5 at *
 clear k0 k1 k2 k3 c0 c1 c2 c3
 obtain ⟨⟨k0, k1, k2, k3⟩, c0, c1, c2, c3⟩ := HK.out.fmt_one
 generalize cmpZ ((R * R : Nat) : Int) (M : Int) = cz at *
 go_wp2_with fail
 refine (HRD2.out r2 _ (HJ.out.get (.tail _ (.head _)))).mono ?_
 rintro e6 w6 ⟨fl, rfl, hb6⟩
 replace HK := Lib.hid (HK.out.later hb6)
 clear hb6
 clear k0 k1 k2 k3 c0 c1 c2 c3
 go_wp2
 refine bodyPost_ret (v := .tuple #[.int .u64 (JJ : Nat), .int .i64 fl]) (by simp [results, Tryz.results80, go_sem]) rfl ⟨_, _, rfl, HJJ.out.1, HJJ.out.2.1, HJJ.out.2.2, HK.out.2⟩
end
section
open Go.RowKit
attribute [local go_sem] run_store_f
set_option maxRecDepth 100000 in
set_option maxHeartbeats 1600000 in
theorem rNeg_iv (l h : Nat) (w : World) (hl : W64 l) (hh : W64 h) :
  Calls Tryz.prog 21 #[.agg #[.float .f64 l, .float .f64 h]] w (Gives (.agg #[.float .f64 (ivL (negK (ivK l h))), .float .f64 (ivH (negK (ivK l h)))]) w) := by
 have HFA := Lib.hid fun w => rFull_any l h w hl hh
 have HE := Lib.hid fun w => rEmpty_any w
 have HW := Lib.hid (I1.new w l h)
 rcases e1 : ivK l h with _ | p
 ·rw [e1, Option.isSome_none] at HFA
  rw [show ivL (negK none) = 9218868437227405312 from rfl, show ivH (negK none) = 18442240474082181120 from rfl]
  clear e1
  go_enter Tryz.func21, Tryz.ntmps21
  obtain ⟨⟨c0, c1⟩, q0, q1, q2, q3⟩ := HW.out.cells
  go_wp2_with fail
  refine (HFA.out _).mono ?_
  rintro e1 w1 ⟨rfl, hb1⟩
  replace HW := Lib.hid (HW.out.later hb1)
  clear hb1 c0 c1 q0 q1 q2 q3
  obtain ⟨⟨c0, c1⟩, q0, q1, q2, q3⟩ := HW.out.cells
  go_wp2_with fail
  refine (HE.out _).mono ?_
  rintro e2 w2 ⟨rfl, hb2⟩
  replace HW := Lib.hid (HW.out.later hb2)
  clear hb2 c0 c1 q0 q1 q2 q3
  obtain ⟨⟨c0, c1⟩, q0, q1, q2, q3⟩ := HW.out.cells
  go_wp2
  refine bodyPost_ret (v := .agg #[.float .f64 9218868437227405312, .float .f64 18442240474082181120]) (by simp [results, Tryz.results21, go_sem, q0, q1]) rfl ⟨rfl, HW.out.stored _ _⟩
 ·rw [e1, Option.isSome_some] at HFA
  obtain ⟨nl, nh, rfl⟩ := ivK_some e1
  rw [show ivL (negK (some (ky l, ky h))) = kb (-ky h) from rfl, show ivH (negK (some (ky l, ky h))) = kb (-ky l) from rfl, ← flip_ky hh, ← flip_ky hl]
  have ng1 : ∀ w, (Op.unary .neg (.float .f64 h)).run Tryz.prog w = .ok (.float .f64 (flipB h)) w := fun w => by rw [← neg_flip hh]; rfl
  have ng2 : ∀ w, (Op.unary .neg (.float .f64 l)).run Tryz.prog w = .ok (.float .f64 (flipB l)) w := fun w => by rw [← neg_flip hl]; rfl
  have fn : ∀ x, W64 x → nanB x = false → nanB (flipB x) = false := fun x hx nx => by rw [num_iff, flip_num hx]; exact num_of nx
  have HK := Lib.hid fun w => rMade_any (flipB h) (flipB l) w (flip_lt hh) (flip_lt hl) (fn _ hh nh) (fn _ hl nl)
  generalize kb (ky (flipB h)) = L at *
  generalize kb (ky (flipB l)) = H at *
  generalize flipB h = fh at *
  generalize flipB l = fl at *
  clear e1 nl nh hl hh fn
  go_enter Tryz.func21, Tryz.ntmps21
  obtain ⟨⟨c0, c1⟩, q0, q1, q2, q3⟩ := HW.out.cells
  go_wp2_with fail
  refine (HFA.out _).mono ?_
  rintro e1 w1 ⟨rfl, hb1⟩
  replace HW := Lib.hid (HW.out.later hb1)
  clear hb1 c0 c1 q0 q1 q2 q3
  obtain ⟨⟨c0, c1⟩, q0, q1, q2, q3⟩ := HW.out.cells
  go_wp2_with fail
  refine (HK.out _).mono ?_
  rintro e2 w2 ⟨rfl, hb2⟩
  replace HW := Lib.hid (HW.out.later hb2)
  clear hb2 c0 c1 q0 q1 q2 q3
  obtain ⟨⟨c0, c1⟩, q0, q1, q2, q3⟩ := HW.out.cells
  go_wp2
  refine bodyPost_ret (v := .agg #[.float .f64 L, .float .f64 H]) (by simp [results, Tryz.results21, go_sem, q0, q1]) rfl ⟨rfl, HW.out.stored _ _⟩
set_option maxRecDepth 100000 in
set_option maxHeartbeats 1600000 in
theorem rAbs_iv (l h : Nat) (w : World) (hl : W64 l) (hh : W64 h) :
  Calls Tryz.prog 23 #[.agg #[.float .f64 l, .float .f64 h]] w (Gives (.agg #[.float .f64 (ivL (absK (ivK l h))), .float .f64 (ivH (absK (ivK l h)))]) w) := by
 have HFA := Lib.hid fun w => rFull_any l h w hl hh
 have HE := Lib.hid fun w => rEmpty_any w
 have HW := Lib.hid (I1.new w l h)
 rcases e1 : ivK l h with _ | p
 ·rw [e1, Option.isSome_none] at HFA
  rw [show ivL (absK none) = 9218868437227405312 from rfl, show ivH (absK none) = 18442240474082181120 from rfl]
  clear e1
  go_enter Tryz.func23, Tryz.ntmps23
  obtain ⟨⟨c0, c1⟩, q0, q1, q2, q3⟩ := HW.out.cells
  go_wp2_with fail
  refine (HFA.out _).mono ?_
  rintro e1 w1 ⟨rfl, hb1⟩
  replace HW := Lib.hid (HW.out.later hb1)
  clear hb1 c0 c1 q0 q1 q2 q3
  obtain ⟨⟨c0, c1⟩, q0, q1, q2, q3⟩ := HW.out.cells
  go_wp2_with fail
  refine (HE.out _).mono ?_
  rintro e2 w2 ⟨rfl, hb2⟩
  replace HW := Lib.hid (HW.out.later hb2)
  clear hb2 c0 c1 q0 q1 q2 q3
  obtain ⟨⟨c0, c1⟩, q0, q1, q2, q3⟩ := HW.out.cells
  go_wp2
  refine bodyPost_ret (v := .agg #[.float .f64 9218868437227405312, .float .f64 18442240474082181120]) (by simp [results, Tryz.results23, go_sem, q0, q1]) rfl ⟨rfl, HW.out.stored _ _⟩
 ·rw [e1, Option.isSome_some] at HFA
  obtain ⟨nl, nh, rfl⟩ := ivK_some e1
  have t1 := ge_test hl (by decide : W64 0) nl (by decide)
  have t2 := le_test hh (by decide : W64 0) nh (by decide)
  rw [ky_zero] at t1 t2
  have HA : Hid (absK (some (ky l, ky h)) = if 0 ≤ ky l then some (ky l, ky h) else if ky h ≤ 0 then some (-ky h, -ky l) else some (0, max (-ky l) (ky h))) := Lib.hid rfl
  have ng1 : ∀ w, (Op.unary .neg (.float .f64 h)).run Tryz.prog w = .ok (.float .f64 (flipB h)) w := fun w => by rw [← neg_flip hh]; rfl
  have ng2 : ∀ w, (Op.unary .neg (.float .f64 l)).run Tryz.prog w = .ok (.float .f64 (flipB l)) w := fun w => by rw [← neg_flip hl]; rfl
  have fn : ∀ x, W64 x → nanB x = false → nanB (flipB x) = false := fun x hx nx => by rw [num_iff, flip_num hx]; exact num_of nx
  by_cases c1 : 0 ≤ ky l
  ·rw [decide_eq_true c1] at t1
   rw [HA.out, if_pos c1, show ivL (some (ky l, ky h)) = kb (ky l) from rfl, show ivH (some (ky l, ky h)) = kb (ky h) from rfl]
   have HK := Lib.hid fun w => rMade_any l h w hl hh nl nh
   generalize kb (ky l) = L at *
   generalize kb (ky h) = H at *
   clear e1 nl nh hl hh fn ng1 ng2 c1 t2 HA
   go_enter Tryz.func23, Tryz.ntmps23
   obtain ⟨⟨c0, c1⟩, q0, q1, q2, q3⟩ := HW.out.cells
   go_wp2_with fail
   refine (HFA.out _).mono ?_
   rintro e1 w1 ⟨rfl, hb1⟩
   replace HW := Lib.hid (HW.out.later hb1)
   clear hb1 c0 c1 q0 q1 q2 q3
   obtain ⟨⟨c0, c1⟩, q0, q1, q2, q3⟩ := HW.out.cells
   go_wp2_with fail
   refine (HK.out _).mono ?_
   rintro e2 w2 ⟨rfl, hb2⟩
   replace HW := Lib.hid (HW.out.later hb2)
   clear hb2 c0 c1 q0 q1 q2 q3
   obtain ⟨⟨c0, c1⟩, q0, q1, q2, q3⟩ := HW.out.cells
   go_wp2
   refine bodyPost_ret (v := .agg #[.float .f64 L, .float .f64 H]) (by simp [results, Tryz.results23, go_sem, q0, q1]) rfl ⟨rfl, HW.out.stored _ _⟩
  ·rw [decide_eq_false c1] at t1
   by_cases c2 : ky h ≤ 0
   ·rw [decide_eq_true c2] at t2
    rw [HA.out, if_neg c1, if_pos c2, show ivL (some (-ky h, -ky l)) = kb (-ky h) from rfl, show ivH (some (-ky h, -ky l)) = kb (-ky l) from rfl, ← flip_ky hh, ← flip_ky hl]
    have HK := Lib.hid fun w => rMade_any (flipB h) (flipB l) w (flip_lt hh) (flip_lt hl) (fn _ hh nh) (fn _ hl nl)
    generalize kb (ky (flipB h)) = L at *
    generalize kb (ky (flipB l)) = H at *
    generalize flipB h = fh at *
    generalize flipB l = fl at *
    clear e1 nl nh hl hh fn c1 c2 HA
    go_enter Tryz.func23, Tryz.ntmps23
    obtain ⟨⟨c0, c1⟩, q0, q1, q2, q3⟩ := HW.out.cells
    go_wp2_with fail
    refine (HFA.out _).mono ?_
    rintro e1 w1 ⟨rfl, hb1⟩
    replace HW := Lib.hid (HW.out.later hb1)
    clear hb1 c0 c1 q0 q1 q2 q3
    obtain ⟨⟨c0, c1⟩, q0, q1, q2, q3⟩ := HW.out.cells
    go_wp2_with fail
    refine (HK.out _).mono ?_
    rintro e2 w2 ⟨rfl, hb2⟩
    replace HW := Lib.hid (HW.out.later hb2)
    clear hb2 c0 c1 q0 q1 q2 q3
    obtain ⟨⟨c0, c1⟩, q0, q1, q2, q3⟩ := HW.out.cells
    go_wp2
    refine bodyPost_ret (v := .agg #[.float .f64 L, .float .f64 H]) (by simp [results, Tryz.results23, go_sem, q0, q1]) rfl ⟨rfl, HW.out.stored _ _⟩
   ·rw [decide_eq_false c2] at t2
    have HMO := Lib.hid fun w => rMost_any (flipB l) h w (flip_lt hl) hh (fn _ hl nl) nh
    rw [flip_ky hl] at HMO
    rw [HA.out, if_neg c1, if_neg c2, show ivL (some (0, max (-ky l) (ky h))) = kb 0 from rfl, show ivH (some (0, max (-ky l) (ky h))) = kb (max (-ky l) (ky h)) from rfl]
    generalize max (-ky l) (ky h) = MX at *
    generalize flipB h = fh at *
    generalize flipB l = fl at *
    clear e1 nl nh hl hh fn c1 c2 HA
    go_enter Tryz.func23, Tryz.ntmps23
    obtain ⟨⟨c0, c1⟩, q0, q1, q2, q3⟩ := HW.out.cells
    go_wp2_with fail
    refine (HFA.out _).mono ?_
    rintro e1 w1 ⟨rfl, hb1⟩
    replace HW := Lib.hid (HW.out.later hb1)
    clear hb1 c0 c1 q0 q1 q2 q3
    obtain ⟨⟨c0, c1⟩, q0, q1, q2, q3⟩ := HW.out.cells
    go_wp2_with fail
    refine (HMO.out _).mono ?_
    rintro e2 w2 ⟨r1, rfl, rl1, rn1, rk1, hb2⟩
    replace HW := Lib.hid (HW.out.later hb2)
    have HK := Lib.hid fun w => rMade_any 0 r1 w (by decide) rl1 (by decide) rn1
    rw [rk1, ky_zero] at HK
    clear hb2 rl1 rn1 rk1 c0 c1 q0 q1 q2 q3
    obtain ⟨⟨c0, c1⟩, q0, q1, q2, q3⟩ := HW.out.cells
    generalize kb 0 = L at *
    generalize kb MX = H at *
    go_wp2_with fail
    refine (HK.out _).mono ?_
    rintro e3 w3 ⟨rfl, hb3⟩
    replace HW := Lib.hid (HW.out.later hb3)
    clear hb3 c0 c1 q0 q1 q2 q3
    obtain ⟨⟨c0, c1⟩, q0, q1, q2, q3⟩ := HW.out.cells
    go_wp2
    refine bodyPost_ret (v := .agg #[.float .f64 L, .float .f64 H]) (by simp [results, Tryz.results23, go_sem, q0, q1]) rfl ⟨rfl, HW.out.stored _ _⟩
theorem sgn_low {x y : Nat} (hx : W64 x) (hy : W64 y) (nx : nanB x = false) (ny : nanB y = false) (h1 : ky x < kInf) (h2 : ky y < kInf) (fx : finB x = false) (fy : finB y = false) : sgnB x = sgnB y := by
 have k1 := inf_place hx nx fx
 have k2 := inf_place hy ny fy
 have hi : -(kInf : Int) < kInf := by decide
 cases e1 : sgnB x <;> cases e2 : sgnB y <;> rw [e1] at k1 <;> rw [e2] at k2 <;> simp at k1 k2 <;> first | rfl | omega
theorem sgn_high {x y : Nat} (hx : W64 x) (hy : W64 y) (nx : nanB x = false) (ny : nanB y = false) (h1 : -(kInf : Int) < ky x) (h2 : -(kInf : Int) < ky y) (fx : finB x = false) (fy : finB y = false) : sgnB x = sgnB y := by
 have k1 := inf_place hx nx fx
 have k2 := inf_place hy ny fy
 have hi : -(kInf : Int) < kInf := by decide
 cases e1 : sgnB x <;> cases e2 : sgnB y <;> rw [e1] at k1 <;> rw [e2] at k2 <;> simp at k1 k2 <;> first | rfl | omega
set_option maxRecDepth 100000 in
set_option maxHeartbeats 3200000 in
theorem rAdd_iv (l h m k : Nat) (w : World) (hl : W64 l) (hh : W64 h) (hm : W64 m) (hk : W64 k) :
  Calls Tryz.prog 25 #[.agg #[.float .f64 l, .float .f64 h], .agg #[.float .f64 m, .float .f64 k]] w (Gives (.agg #[.float .f64 (ivL (addK (ivK l h) (ivK m k))), .float .f64 (ivH (addK (ivK l h) (ivK m k)))]) w) := by
 have HFA := Lib.hid fun w => rFull_any l h w hl hh
 have HFB := Lib.hid fun w => rFull_any m k w hm hk
 have HE := Lib.hid fun w => rEmpty_any w
 have HD := Lib.hid fun W => cDouble_any W
 have HW := Lib.hid (I3.new w l h m k)
 rcases e1 : ivK l h with _ | p
 ·rw [e1, Option.isSome_none] at HFA
  rw [show ivL (addK none (ivK m k)) = 9218868437227405312 from rfl, show ivH (addK none (ivK m k)) = 18442240474082181120 from rfl]
  clear e1 HFB
  go_enter Tryz.func25, Tryz.ntmps25
  obtain ⟨⟨⟨c0, c1⟩, c2, c3⟩, q0, q1, q2, q3⟩ := HW.out.cells
  go_wp2_with fail
  refine (HFA.out _).mono ?_
  rintro e1 w1 ⟨rfl, hb1⟩
  replace HW := Lib.hid (HW.out.later hb1)
  clear hb1 c0 c1 c2 c3 q0 q1 q2 q3
  obtain ⟨⟨⟨c0, c1⟩, c2, c3⟩, q0, q1, q2, q3⟩ := HW.out.cells
  go_wp2_with fail
  refine (HE.out _).mono ?_
  rintro e2 w2 ⟨rfl, hb2⟩
  replace HW := Lib.hid (HW.out.later hb2)
  clear hb2 c0 c1 c2 c3 q0 q1 q2 q3
  obtain ⟨⟨⟨c0, c1⟩, c2, c3⟩, q0, q1, q2, q3⟩ := HW.out.cells
  go_wp2
  refine bodyPost_ret (v := .agg #[.float .f64 9218868437227405312, .float .f64 18442240474082181120]) (by simp [results, Tryz.results25, go_sem, q0, q1]) rfl ⟨rfl, HW.out.stored _ _⟩
 rw [e1, Option.isSome_some] at HFA
 rcases e2 : ivK m k with _ | q
 ·rw [e2, Option.isSome_none] at HFB
  rw [show ivL (addK (some p) none) = 9218868437227405312 from rfl, show ivH (addK (some p) none) = 18442240474082181120 from rfl]
  clear e1 e2
  go_enter Tryz.func25, Tryz.ntmps25
  obtain ⟨⟨⟨c0, c1⟩, c2, c3⟩, q0, q1, q2, q3⟩ := HW.out.cells
  go_wp2_with fail
  refine (HFA.out _).mono ?_
  rintro e1 w1 ⟨rfl, hb1⟩
  replace HW := Lib.hid (HW.out.later hb1)
  clear hb1 c0 c1 c2 c3 q0 q1 q2 q3
  obtain ⟨⟨⟨c0, c1⟩, c2, c3⟩, q0, q1, q2, q3⟩ := HW.out.cells
  go_wp2_with fail
  refine (HFB.out _).mono ?_
  rintro e2 w2 ⟨rfl, hb2⟩
  replace HW := Lib.hid (HW.out.later hb2)
  clear hb2 c0 c1 c2 c3 q0 q1 q2 q3
  obtain ⟨⟨⟨c0, c1⟩, c2, c3⟩, q0, q1, q2, q3⟩ := HW.out.cells
  go_wp2_with fail
  refine (HE.out _).mono ?_
  rintro e3 w3 ⟨rfl, hb3⟩
  replace HW := Lib.hid (HW.out.later hb3)
  clear hb3 c0 c1 c2 c3 q0 q1 q2 q3
  obtain ⟨⟨⟨c0, c1⟩, c2, c3⟩, q0, q1, q2, q3⟩ := HW.out.cells
  go_wp2
  refine bodyPost_ret (v := .agg #[.float .f64 9218868437227405312, .float .f64 18442240474082181120]) (by simp [results, Tryz.results25, go_sem, q0, q1]) rfl ⟨rfl, HW.out.stored _ _⟩
 rw [e2, Option.isSome_some] at HFB
 have a1 := ivK_ok hl hh
 have a2 := ivK_ok hm hk
 rw [e1] at a1
 rw [e2] at a2
 obtain ⟨nl, nh, rfl⟩ := ivK_some e1
 obtain ⟨nm, nk, rfl⟩ := ivK_some e2
 have b1 := a1 _ _ rfl
 have b2 := a2 _ _ rfl
 clear a1 a2
 rw [show ivL (addK (some (ky l, ky h)) (some (ky m, ky k))) = kb (suK (kb (ky l)) (kb (ky m)) 4) from rfl, show ivH (addK (some (ky l, ky h)) (some (ky m, ky k))) = kb (suK (kb (ky h)) (kb (ky k)) 3) from rfl, suK_kb, suK_kb]
 have HN1 := Lib.hid fun W => cnum_any l W hl nl
 have HN2 := Lib.hid fun W => cnum_any m W hm nm
 have HN3 := Lib.hid fun W => cnum_any h W hh nh
 have HN4 := Lib.hid fun W => cnum_any k W hk nk
 have HNB := Lib.hid fun R fl W => cnumber_any R fl W
 have HA1 := Lib.hid fun p q W h1 h2 => cAdd_any l m p q 4 W hl hm nl nm (sgn_low hl hm nl nm b1.2.2.2.1 b2.2.2.2.1) (.inr rfl) h1 h2
 have HA2 := Lib.hid fun p q W h1 h2 => cAdd_any h k p q 3 W hh hk nh nk (sgn_high hh hk nh nk b1.2.2.2.2 b2.2.2.2.2) (.inl rfl) h1 h2
 generalize suK l m 4 = K1 at *
 generalize suK h k 3 = K2 at *
 clear e1 e2 nl nh nm nk hl hh hm hk HE b1 b2
 generalize sgnB l = sgl at *
 generalize mntB l = mtl at *
 generalize xpnB l = xpl at *
 generalize kndB l = kdl at *
 generalize sgnB m = sgm at *
 generalize mntB m = mtm at *
 generalize xpnB m = xpm at *
 generalize kndB m = kdm at *
 generalize sgnB h = sgh at *
 generalize mntB h = mth at *
 generalize xpnB h = xph at *
 generalize kndB h = kdh at *
 generalize sgnB k = sgk at *
 generalize mntB k = mtk at *
 generalize xpnB k = xpk at *
 generalize kndB k = kdk at *
 unfold NumNew AnsK at *
 unfold NumV fmtV at *
 go_enter Tryz.func25, Tryz.ntmps25
 obtain ⟨⟨⟨c0, c1⟩, c2, c3⟩, q0, q1, q2, q3⟩ := HW.out.cells
 go_wp2_with fail
 refine (HFA.out _).mono ?_
 rintro e1 w1 ⟨rfl, hb1⟩
 replace HW := Lib.hid (HW.out.later hb1)
 clear hb1 c0 c1 c2 c3 q0 q1 q2 q3
 obtain ⟨⟨⟨c0, c1⟩, c2, c3⟩, q0, q1, q2, q3⟩ := HW.out.cells
 go_wp2_with fail
 refine (HFB.out _).mono ?_
 rintro e2 w2 ⟨rfl, hb2⟩
 replace HW := Lib.hid (HW.out.later hb2)
 clear hb2 c0 c1 c2 c3 q0 q1 q2 q3
 obtain ⟨⟨⟨c0, c1⟩, c2, c3⟩, q0, q1, q2, q3⟩ := HW.out.cells
 go_wp2_with fail
 refine (HD.out _).mono ?_
 rintro e8 w8 ⟨rfl, hb8⟩
 replace HW := Lib.hid (HW.out.later hb8)
 clear hb8 c0 c1 c2 c3 q0 q1 q2 q3
 go_upto_region 4 with fail
 have HB := Lib.hid ((Bks.nil w8).alloc #[.int .i64 53, .int .i64 (-1022), .int .i64 1023, .int .i64 11] 81)
 replace HW := Lib.hid (HW.out.later HB.out.2)
 have HC := Lib.hid (HB.out.get (.head _))
 clear HB
 generalize World.alloc w8 _ = W8 at HW HC ⊢
 generalize w8.heap.size = cb at *
 refine wp_region_pl (fun w' : World => (w'.cell? ⟨cb, 0, none⟩ = some (.int .i64 53) ∧ w'.cell? ⟨cb, 1, none⟩ = some (.int .i64 (-1022)) ∧ w'.cell? ⟨cb, 2, none⟩ = some (.int .i64 1023) ∧ w'.cell? ⟨cb, 3, none⟩ = some (.int .i64 11)) ∧ (w'.cell? ⟨w.heap.size, 0, none⟩ = some (.float .f64 l) ∧ w'.cell? ⟨w.heap.size, 1, none⟩ = some (.float .f64 h)) ∧ w'.cell? ⟨w.heap.size + 1, 0, none⟩ = some (.float .f64 m) ∧ w'.cell? ⟨w.heap.size + 1, 1, none⟩ = some (.float .f64 k)) 21 (.take 0 (.take 1 (.take 2 (.take 4 (.take 5 (.take 11 (.take 12 (.take 13 (.take 15 (.take 16 (.run 3 (.run 6 (.run 7 (.take 8 (.take 9 (.run 10 (.run 14 (.run 17 (.run 18 (.take 19 (.take 20 (.nil)))))))))))))))))))))) (by kernel_rfl) (by kernel_rfl) ?_
 replace HW := Lib.hid (HW.out.later (drew_below _))
 replace HC := Lib.hid (HC.out.below (drew_below _))
 generalize World.drew _ = W4 at HW HC ⊢
 repeat (refine tkL (v := ?_) rfl rfl rfl (fun w' hSw => ?_) (⟨HC.out.cells4.1, HW.out.cells.1⟩) ?_; rotate_left; (focus (go_simp; with_reducible rfl)); simp only [setL])
 refine wpPl_goL rfl rfl fun K' hK => ?_
 go_simp
 refine (HN1.out _).mono ?_
 rintro e1 W4v1 ⟨q1, rfl, -, hq1, hb1⟩
 replace HW := Lib.hid (HW.out.later hb1)
 replace HC := Lib.hid (HC.out.below hb1)
 have HQ1 := Lib.hid hq1
 clear hq1
 refine hK _ _ ⟨HC.out.cells4.1, HW.out.cells.1⟩ ?_
 clear hK K' hb1
 try simp only [Act.put, setL]
 repeat (refine tkL (v := ?_) rfl rfl rfl (fun w' hSw => ?_) (⟨HC.out.cells4.1, HW.out.cells.1⟩) ?_; rotate_left; (focus (go_simp; with_reducible rfl)); simp only [setL])
 refine wpPl_goL rfl rfl fun K' hK => ?_
 go_simp
 refine (HN2.out _).mono ?_
 rintro e1 W4v2 ⟨q2, rfl, -, hq2, hb1⟩
 replace HW := Lib.hid (HW.out.later hb1)
 replace HC := Lib.hid (HC.out.below hb1)
 have HQ2 := Lib.hid hq2
 clear hq2
 replace HQ1 := Lib.hid (HQ1.out.below hb1)
 refine hK _ _ ⟨HC.out.cells4.1, HW.out.cells.1⟩ ?_
 clear hK K' hb1
 try simp only [Act.put, setL]
 repeat (refine tkL (v := ?_) rfl rfl rfl (fun w' hSw => ?_) (⟨HC.out.cells4.1, HW.out.cells.1⟩) ?_; rotate_left; (focus (go_simp; with_reducible rfl)); simp only [setL])
 refine wpPl_goL rfl rfl fun K' hK => ?_
 go_simp
 refine (HA1.out q1 q2 _ HQ1.out HQ2.out).mono ?_
 rintro e1 W4v3 ⟨R1, fl1, rfl, a1, a2, a3, hb1⟩
 replace HW := Lib.hid (HW.out.later hb1)
 replace HC := Lib.hid (HC.out.below hb1)
 have HJ1 := Lib.hid (And.intro a1 (And.intro a2 a3))
 clear a1 a2 a3
 clear HQ1 HQ2
 refine hK _ _ ⟨HC.out.cells4.1, HW.out.cells.1⟩ ?_
 clear hK K' hb1
 try simp only [Act.put, setL]
 repeat (refine tkL (v := ?_) rfl rfl rfl (fun w' hSw => ?_) (⟨HC.out.cells4.1, HW.out.cells.1⟩) ?_; rotate_left; (focus (go_simp; with_reducible rfl)); simp only [setL])
 refine wpPl_goL rfl rfl fun K' hK => ?_
 go_simp
 refine (HNB.out R1 fl1 _).mono ?_
 rintro e1 W4v4 ⟨rfl, hb1⟩
 replace HW := Lib.hid (HW.out.later hb1)
 replace HC := Lib.hid (HC.out.below hb1)
 refine hK _ _ ⟨HC.out.cells4.1, HW.out.cells.1⟩ ?_
 clear hK K' hb1
 try simp only [Act.put, setL]
 repeat (refine tkL (v := ?_) rfl rfl rfl (fun w' hSw => ?_) (⟨HC.out.cells4.1, HW.out.cells.1⟩) ?_; rotate_left; (focus (go_simp; with_reducible rfl)); simp only [setL])
 refine wpPl_goL rfl rfl fun K' hK => ?_
 go_simp
 refine (HN3.out _).mono ?_
 rintro e1 W4v5 ⟨q3, rfl, -, hq3, hb1⟩
 replace HW := Lib.hid (HW.out.later hb1)
 replace HC := Lib.hid (HC.out.below hb1)
 have HQ3 := Lib.hid hq3
 clear hq3
 refine hK _ _ ⟨HC.out.cells4.1, HW.out.cells.1⟩ ?_
 clear hK K' hb1
 try simp only [Act.put, setL]
 repeat (refine tkL (v := ?_) rfl rfl rfl (fun w' hSw => ?_) (⟨HC.out.cells4.1, HW.out.cells.1⟩) ?_; rotate_left; (focus (go_simp; with_reducible rfl)); simp only [setL])
 refine wpPl_goL rfl rfl fun K' hK => ?_
 go_simp
 refine (HN4.out _).mono ?_
 rintro e1 W4v6 ⟨q4, rfl, -, hq4, hb1⟩
 replace HW := Lib.hid (HW.out.later hb1)
 replace HC := Lib.hid (HC.out.below hb1)
 have HQ4 := Lib.hid hq4
 clear hq4
 replace HQ3 := Lib.hid (HQ3.out.below hb1)
 refine hK _ _ ⟨HC.out.cells4.1, HW.out.cells.1⟩ ?_
 clear hK K' hb1
 try simp only [Act.put, setL]
 repeat (refine tkL (v := ?_) rfl rfl rfl (fun w' hSw => ?_) (⟨HC.out.cells4.1, HW.out.cells.1⟩) ?_; rotate_left; (focus (go_simp; with_reducible rfl)); simp only [setL])
 refine wpPl_goL rfl rfl fun K' hK => ?_
 go_simp
 refine (HA2.out q3 q4 _ HQ3.out HQ4.out).mono ?_
 rintro e1 W4v7 ⟨R2, fl2, rfl, a1, a2, a3, hb1⟩
 replace HW := Lib.hid (HW.out.later hb1)
 replace HC := Lib.hid (HC.out.below hb1)
 have HJ2 := Lib.hid (And.intro a1 (And.intro a2 a3))
 clear a1 a2 a3
 clear HQ3 HQ4
 refine hK _ _ ⟨HC.out.cells4.1, HW.out.cells.1⟩ ?_
 clear hK K' hb1
 try simp only [Act.put, setL]
 repeat (refine tkL (v := ?_) rfl rfl rfl (fun w' hSw => ?_) (⟨HC.out.cells4.1, HW.out.cells.1⟩) ?_; rotate_left; (focus (go_simp; with_reducible rfl)); simp only [setL])
 refine wpPl_nil ?_
 simp only [drL]
 obtain ⟨⟨⟨c0, c1⟩, c2, c3⟩, q0, q1, q2, q3⟩ := HW.out.cells
 go_wp2_with fail
 refine (HNB.out R2 fl2 _).mono ?_
 rintro e9 w9 ⟨rfl, hb9⟩
 replace HW := Lib.hid (HW.out.later hb9)
 clear hb9 c0 c1 c2 c3 q0 q1 q2 q3
 obtain ⟨⟨⟨c0, c1⟩, c2, c3⟩, q0, q1, q2, q3⟩ := HW.out.cells
 have HMK := Lib.hid fun W => rMade_any R1 R2 W HJ1.out.1 HJ2.out.1 HJ1.out.2.1 HJ2.out.2.1
 rw [HJ1.out.2.2, HJ2.out.2.2] at HMK
 generalize kb K1 = L at *
 generalize kb K2 = H at *
 clear HJ1 HJ2
 go_wp2_with fail
 refine (HMK.out _).mono ?_
 rintro e10 w10 ⟨rfl, hb10⟩
 replace HW := Lib.hid (HW.out.later hb10)
 clear hb10 c0 c1 c2 c3 q0 q1 q2 q3
 obtain ⟨⟨⟨c0, c1⟩, c2, c3⟩, q0, q1, q2, q3⟩ := HW.out.cells
 go_wp2
 refine bodyPost_ret (v := .agg #[.float .f64 L, .float .f64 H]) (by simp [results, Tryz.results25, go_sem, q0, q1]) rfl ⟨rfl, HW.out.stored _ _⟩
set_option maxRecDepth 100000 in
set_option maxHeartbeats 1600000 in
theorem rSub_iv (l h m k : Nat) (w : World) (hl : W64 l) (hh : W64 h) (hm : W64 m) (hk : W64 k) :
  Calls Tryz.prog 27 #[.agg #[.float .f64 l, .float .f64 h], .agg #[.float .f64 m, .float .f64 k]] w (Gives (.agg #[.float .f64 (ivL (subK (ivK l h) (ivK m k))), .float .f64 (ivH (subK (ivK l h) (ivK m k)))]) w) := by
 have HNG := Lib.hid fun w => rNeg_iv m k w hm hk
 have hok := negK_ok (ivK_ok hm hk)
 have HAD := Lib.hid fun W => rAdd_iv l h _ _ W hl hh (ivL_lt hok) (ivH_lt hok)
 rw [ivK_back hok] at HAD
 have HW := Lib.hid (I3.new w l h m k)
 rw [show subK (ivK l h) (ivK m k) = addK (ivK l h) (negK (ivK m k)) from rfl]
 generalize ivL (addK (ivK l h) (negK (ivK m k))) = L at *
 generalize ivH (addK (ivK l h) (negK (ivK m k))) = H at *
 generalize ivL (negK (ivK m k)) = nm at *
 generalize ivH (negK (ivK m k)) = nk at *
 clear hl hh hm hk hok
 go_enter Tryz.func27, Tryz.ntmps27
 go_wp2
 refine wp_region_pl (fun w' : World => (w'.cell? ⟨w.heap.size, 0, none⟩ = some (.float .f64 l) ∧ w'.cell? ⟨w.heap.size, 1, none⟩ = some (.float .f64 h)) ∧ w'.cell? ⟨w.heap.size + 1, 0, none⟩ = some (.float .f64 m) ∧ w'.cell? ⟨w.heap.size + 1, 1, none⟩ = some (.float .f64 k)) 3 (.take 0 (.take 1 (.run 2 (.nil)))) (by kernel_rfl) (by kernel_rfl) ?_
 replace HW := Lib.hid (HW.out.later (drew_below _))
 generalize World.drew _ = W0 at HW ⊢
 repeat (refine tkL (v := ?_) rfl rfl rfl (fun w' hSw => ?_) HW.out.cells.1 ?_; rotate_left; (focus (go_simp; with_reducible rfl)); simp only [setL])
 refine wpPl_goL rfl rfl fun K' hK => ?_
 go_simp
 refine (HNG.out _).mono ?_
 rintro e1 W0v1 ⟨rfl, hb1⟩
 replace HW := Lib.hid (HW.out.later hb1)
 refine hK _ _ HW.out.cells.1 ?_
 clear hK K' hb1
 try simp only [Act.put, setL]
 repeat (refine tkL (v := ?_) rfl rfl rfl (fun w' hSw => ?_) HW.out.cells.1 ?_; rotate_left; (focus (go_simp; with_reducible rfl)); simp only [setL])
 refine wpPl_nil ?_
 simp only [drL]
 obtain ⟨⟨⟨c0, c1⟩, c2, c3⟩, q0, q1, q2, q3⟩ := HW.out.cells
 go_wp2_with fail
 refine (HAD.out _).mono ?_
 rintro e9 w9 ⟨rfl, hb9⟩
 replace HW := Lib.hid (HW.out.later hb9)
 clear hb9 c0 c1 c2 c3 q0 q1 q2 q3
 obtain ⟨⟨⟨c0, c1⟩, c2, c3⟩, q0, q1, q2, q3⟩ := HW.out.cells
 go_wp2
 refine bodyPost_ret (v := .agg #[.float .f64 L, .float .f64 H]) (by simp [results, Tryz.results27, go_sem, q0, q1]) rfl ⟨rfl, HW.out.stored _ _⟩
set_option maxRecDepth 100000 in
set_option maxHeartbeats 1600000 in
theorem rTimes_iv (x y : Nat) (mode : Int) (w : World) (hx : W64 x) (hy : W64 y) (nx : nanB x = false) (ny : nanB y = false) (hmode : mode = 3 ∨ mode = 4) : Calls Tryz.prog 73 #[.float .f64 x, .float .f64 y, .int .i64 mode] w (GivesK (prK x y mode) w) := by
 have t1 := eq_test hx (by decide : W64 0) nx (by decide)
 have t2 := eq_test hy (by decide : W64 0) ny (by decide)
 rw [ky_zero] at t1 t2
 have HB := Lib.hid (Below.refl w.heap.size w)
 by_cases x0 : ky x = 0
 ·rw [prK_zero mode (.inl x0)]
  rw [decide_eq_true x0] at t1
  clear hx hy nx ny hmode x0 t2
  go_enter Tryz.func73, Tryz.ntmps73
  go_wp2
  go_ret
  exact ⟨0, rfl, by decide, by decide, by decide, HB.out⟩
 rw [decide_eq_false x0] at t1
 by_cases y0 : ky y = 0
 ·rw [prK_zero mode (.inr y0)]
  rw [decide_eq_true y0] at t2
  clear hx hy nx ny hmode x0 y0
  go_enter Tryz.func73, Tryz.ntmps73
  go_wp2
  go_ret
  exact ⟨0, rfl, by decide, by decide, by decide, HB.out⟩
 rw [decide_eq_false y0] at t2
 have HD := Lib.hid fun W => cDouble_any W
 have HN1 := Lib.hid fun W => cnum_any x W hx nx
 have HN2 := Lib.hid fun W => cnum_any y W hy ny
 have HNB := Lib.hid fun R fl W => cnumber_any R fl W
 have HM := Lib.hid fun p q W h1 h2 => cMul_any x y p q mode W hx hy x0 y0 hmode h1 h2
 generalize prK x y mode = KK at *
 clear hx hy nx ny hmode x0 y0
 generalize sgnB x = sgx at *
 generalize mntB x = mtx at *
 generalize xpnB x = xpx at *
 generalize kndB x = kdx at *
 generalize sgnB y = sgy at *
 generalize mntB y = mty at *
 generalize xpnB y = xpy at *
 generalize kndB y = kdy at *
 unfold NumNew AnsK at *
 unfold NumV fmtV at *
 go_enter Tryz.func73, Tryz.ntmps73
 go_wp2_with fail
 refine (HD.out _).mono ?_
 rintro e2 w2 ⟨rfl, hb2⟩
 replace HB := Lib.hid (HB.out.trans (hb2.mono HB.out.size))
 clear hb2
 go_wp2_with fail
 refine (HN1.out _).mono ?_
 rintro e3 w3 ⟨q1, rfl, -, hq1, hb3⟩
 replace HB := Lib.hid (HB.out.trans (hb3.mono HB.out.size))
 have HQ1 := Lib.hid hq1
 clear hq1
 clear hb3
 go_wp2_with fail
 refine (HN2.out _).mono ?_
 rintro e4 w4 ⟨q2, rfl, -, hq2, hb4⟩
 replace HB := Lib.hid (HB.out.trans (hb4.mono HB.out.size))
 have HQ2 := Lib.hid hq2
 clear hq2
 replace HQ1 := Lib.hid (HQ1.out.below hb4)
 clear hb4
 go_wp2_with fail
 refine (HM.out q1 q2 _ HQ1.out HQ2.out).mono ?_
 rintro e5 w5 ⟨R, fl, rfl, a1, a2, a3, hb5⟩
 replace HB := Lib.hid (HB.out.trans (hb5.mono HB.out.size))
 have HJ := Lib.hid (And.intro a1 (And.intro a2 a3))
 clear a1 a2 a3
 clear hb5
 go_wp2_with fail
 refine (HNB.out R fl _).mono ?_
 rintro e6 w6 ⟨rfl, hb6⟩
 replace HB := Lib.hid (HB.out.trans (hb6.mono HB.out.size))
 clear hb6
 go_wp2
 go_ret
 exact ⟨R, rfl, HJ.out.1, HJ.out.2.1, HJ.out.2.2, HB.out⟩
set_option maxRecDepth 100000 in
set_option maxHeartbeats 1600000 in
theorem rOver_iv (x y : Nat) (mode : Int) (w : World) (hx : W64 x) (hy : W64 y) (nx : nanB x = false) (ny : nanB y = false) (hmode : mode = 3 ∨ mode = 4) (y0 : ky y ≠ 0) : Calls Tryz.prog 116 #[.float .f64 x, .float .f64 y, .int .i64 mode] w (GivesK (quK x y mode) w) := by
 have t1 := eq_test hx (by decide : W64 0) nx (by decide)
 rw [ky_zero] at t1
 have HB := Lib.hid (Below.refl w.heap.size w)
 have HI := Lib.hid fun W => isInf_iv y W hy ny
 unfold quK
 by_cases x0 : ky x = 0
 ·rw [if_pos (.inl x0)]
  rw [decide_eq_true x0] at t1
  clear hx hy nx ny hmode x0 y0 HI
  go_enter Tryz.func116, Tryz.ntmps116
  go_wp2
  go_ret
  exact ⟨0, rfl, by decide, by decide, by decide, HB.out⟩
 rw [decide_eq_false x0] at t1
 cases fy : finB y
 ·rw [if_pos (.inr rfl)]
  rw [fy, Bool.not_false] at HI
  clear hx hy nx ny hmode x0 y0 fy
  go_enter Tryz.func116, Tryz.ntmps116
  go_wp2_with fail
  refine (HI.out _).mono ?_
  rintro e1 w1 ⟨rfl, hb1⟩
  replace HB := Lib.hid (HB.out.trans (hb1.mono HB.out.size))
  clear hb1
  go_wp2
  go_ret
  exact ⟨0, rfl, by decide, by decide, by decide, HB.out⟩
 rw [fy, Bool.not_true] at HI
 have HM := Lib.hid fun p q W h1 h2 => cDiv_any x y p q mode W hx hy fy x0 y0 hmode h1 h2
 unfold quK at HM
 rw [fy] at HM
 have HD := Lib.hid fun W => cDouble_any W
 have HN1 := Lib.hid fun W => cnum_any x W hx nx
 have HN2 := Lib.hid fun W => cnum_any y W hy ny
 have HNB := Lib.hid fun R fl W => cnumber_any R fl W
 generalize (if ky x = 0 ∨ true = false then (0 : Int) else if finB x = false then sgK x y else dvK x y mode) = KK at *
 clear hx hy nx ny hmode x0 y0 fy
 generalize sgnB x = sgx at *
 generalize mntB x = mtx at *
 generalize xpnB x = xpx at *
 generalize kndB x = kdx at *
 generalize sgnB y = sgy at *
 generalize mntB y = mty at *
 generalize xpnB y = xpy at *
 generalize kndB y = kdy at *
 unfold NumNew AnsK at *
 unfold NumV fmtV at *
 go_enter Tryz.func116, Tryz.ntmps116
 go_wp2_with fail
 refine (HI.out _).mono ?_
 rintro e1 w1 ⟨rfl, hb1⟩
 replace HB := Lib.hid (HB.out.trans (hb1.mono HB.out.size))
 clear hb1
 go_wp2_with fail
 refine (HD.out _).mono ?_
 rintro e2 w2 ⟨rfl, hb2⟩
 replace HB := Lib.hid (HB.out.trans (hb2.mono HB.out.size))
 clear hb2
 go_wp2_with fail
 refine (HN1.out _).mono ?_
 rintro e3 w3 ⟨q1, rfl, -, hq1, hb3⟩
 replace HB := Lib.hid (HB.out.trans (hb3.mono HB.out.size))
 have HQ1 := Lib.hid hq1
 clear hq1
 clear hb3
 go_wp2_with fail
 refine (HN2.out _).mono ?_
 rintro e4 w4 ⟨q2, rfl, -, hq2, hb4⟩
 replace HB := Lib.hid (HB.out.trans (hb4.mono HB.out.size))
 have HQ2 := Lib.hid hq2
 clear hq2
 replace HQ1 := Lib.hid (HQ1.out.below hb4)
 clear hb4
 go_wp2_with fail
 refine (HM.out q1 q2 _ HQ1.out HQ2.out).mono ?_
 rintro e5 w5 ⟨R, fl, rfl, a1, a2, a3, hb5⟩
 replace HB := Lib.hid (HB.out.trans (hb5.mono HB.out.size))
 have HJ := Lib.hid (And.intro a1 (And.intro a2 a3))
 clear a1 a2 a3
 clear hb5
 go_wp2_with fail
 refine (HNB.out R fl _).mono ?_
 rintro e6 w6 ⟨rfl, hb6⟩
 replace HB := Lib.hid (HB.out.trans (hb6.mono HB.out.size))
 clear hb6
 go_wp2
 go_ret
 exact ⟨R, rfl, HJ.out.1, HJ.out.2.1, HJ.out.2.2, HB.out⟩
end
end Go.Proofs.YtloohbkceppocaaGreatDoor
