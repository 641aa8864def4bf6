/- Walks: the references' numbers: odd, Parts, Of, AllFinite, Of64. Printed by wip/gen/rx6.py. -/
import Derived.Test.YthkhignbmefmjaaGreatDoorGQ
import Derived.Test.YthkhignbmefmjaaGreatDoorGN
namespace Go.Proofs.YthkhignbmefmjaaGreatDoor
section
open Go.RowKit
set_option maxRecDepth 100000 in
set_option maxHeartbeats 800000 in
theorem rodd_any (m k : Nat) (e : Int) (w : World) (hm : m % 2 = 1) (hM : m * 2 ^ k < 18446744073709551616) (hk : k ≤ 64) (h1 : -100000 ≤ e) (h2 : e ≤ 100000) :
  Calls Tryz.prog 121 #[.int .u64 (m * 2 ^ k : Nat), .int .i64 e] w fun en w' => en = .returned (.tuple #[.int .u64 m, .int .i64 (e + k)]) ∧ w = w' := by
 have HM : Hid (∀ j, j ≤ k → 0 < m * 2 ^ j ∧ m * 2 ^ j < 18446744073709551616) := by
  refine Lib.hid fun j hj => ⟨Nat.mul_pos (by omega) (Nat.two_pow_pos _), Nat.lt_of_le_of_lt (Nat.mul_le_mul_left _ (Nat.pow_le_pow_right (by decide) hj)) hM⟩
 have HO := Lib.hid hm
 have h0 := HM.out k (Nat.le_refl _)
 clear hM hm
 obtain ⟨q, hq⟩ : ∃ q, m * 2 ^ k = q := ⟨_, rfl⟩
 rw [hq] at h0 ⊢
 have hne : ((q : Int) == 0) = false := by simp; omega
 have HQ := Lib.hid hq
 clear hq
 go_enter Tryz.func121, Tryz.ntmps121
 go_wp2
 go_loop [0, 1] (fun x y => ∃ (j : Nat) (v : Nat) (f : Int), j ≤ k ∧ x = .int .u64 v ∧ y = .int .i64 f ∧ Hid (v = m * 2 ^ j ∧ f = e + k - j)) (fun x _ => (intOf x).toNat)
 case atStart => exact ⟨k, q, e, Nat.le_refl _, rfl, rfl, Lib.hid ⟨HQ.out.symm, by omega⟩⟩
 case round =>
  obtain ⟨j, v, f, hj, rfl, rfl, HV⟩ := hrel
  have hb := HM.out j hj
  rw [← HV.out.1] at hb
  have hf := HV.out.2
  have hf1 : -200000 ≤ f := by omega
  have hf2 : f ≤ 200000 := by omega
  clear hf
  by_cases hj0 : j = 0
  ·have hodd : v % 2 = 1 := by rw [HV.out.1, hj0]; simpa using HO.out
   have ht : ((v : Int) % 2 == 0) = false := by simp; omega
   have HF : Hid (v = m ∧ f = e + k) := Lib.hid ⟨by rw [HV.out.1, hj0]; simp, by rw [HV.out.2, hj0]; omega⟩
   clear hodd h0 hne
   go_wp2
   go_ret2
   exact ⟨by rw [HF.out.1, HF.out.2]; rfl, rfl⟩
  ·obtain ⟨i, rfl⟩ : ∃ i, j = i + 1 := ⟨j - 1, by omega⟩
   have e2 : m * 2 ^ (i + 1) = 2 * (m * 2 ^ i) := by rw [Nat.pow_succ]; ac_rfl
   have hev : v = 2 * (m * 2 ^ i) := HV.out.1.trans e2
   have ht : ((v : Int) % 2 == 0) = true := by simp; omega
   have HF : Hid (v / 2 = m * 2 ^ i ∧ f + 1 = e + k - i) := Lib.hid ⟨by omega, by rw [HV.out.2]; omega⟩
   have hv0 := hb.1
   clear hev e2 h0 hne
   go_wp2
   go_round
   case rel => exact ⟨i, v / 2, f + 1, by omega, by go_num, rfl, HF⟩
   case measure => simp [intOf]; omega
set_option maxRecDepth 100000 in
set_option maxHeartbeats 800000 in
theorem rodd_zero (e : Int) (w : World) :
  Calls Tryz.prog 121 #[.int .u64 0, .int .i64 e] w fun en w' => en = .returned (.tuple #[.int .u64 0, .int .i64 0]) ∧ w = w' := by
 go_enter Tryz.func121, Tryz.ntmps121
 go_wp2
 go_ret2
 exact ⟨rfl, rfl⟩
theorem rodd_num (b : Nat) (w : World) (hf : finB b = true) :
  Calls Tryz.prog 121 #[.int .u64 (mantB b : Nat), .int .i64 (expB b)] w fun en w' => en = .returned (.tuple #[.int .u64 (pM b : Nat), .int .i64 (pE b)]) ∧ w = w' := by
 have hb := expB_bd hf
 have hlt := mantB_lt b
 rcases pM_spec b with ⟨h1, h2, h3⟩ | ⟨h1, h2, h3, h4⟩
 ·rw [h1, h2, h3]; exact rodd_zero _ w
 ·have hk := ctz_lt h1 hlt
  generalize Lib.ctz 64 (mantB b) = k at *
  have := rodd_any (pM b) k (expB b) w h2 (by rw [← h3]; omega) (by omega) (by omega) (by omega)
  rw [← h3, ← h4] at this
  exact this
set_option maxRecDepth 100000 in
set_option maxHeartbeats 800000 in
theorem rParts_any (b : Nat) (w : World) (h : b < 18446744073709551616) (hf : finB b = true) :
  Calls Tryz.prog 77 #[.float .f64 b] w (Gives (PartsV b) w) := by
 have HS := Lib.hid fun W => rSplit_any b W h
 have hc := canon_fin hf
 rw [hc] at HS
 have hne : expF b ≠ 2047 := of_decide_eq_true hf
 have hlt : expF b < 2048 := Nat.mod_lt _ (by decide)
 have hfr : fracF b < 4503599627370496 := Nat.mod_lt _ (by decide)
 have HO := Lib.hid fun W => rodd_num b W hf
 have HW := Lib.hid (BlkT.new w #[.bool false, .int .u64 0, .int .i64 0] 90)
 unfold PartsV
 have hm : mantB b = if expF b = 0 then fracF b else fracF b + 4503599627370496 := rfl
 have he : expB b = (if expF b = 0 then 1 else (expF b : Int)) - 1075 := rfl
 clear h hf hc
 obtain ⟨sg, hsg⟩ : ∃ s, sgnB b = s := ⟨_, rfl⟩
 obtain ⟨m, hmm⟩ : ∃ s, pM b = s := ⟨_, rfl⟩
 obtain ⟨x, hxx⟩ : ∃ s, pE b = s := ⟨_, rfl⟩
 rw [hsg, hmm, hxx]
 rw [hmm, hxx] at HO
 rw [hsg] at HS
 clear hsg hmm hxx
 generalize mantB b = mm at *
 generalize expB b = ee at *
 generalize expF b = E at *
 generalize fracF b = f at *
 by_cases h0 : E = 0
 ·subst h0
  rw [if_pos rfl] at hm he
  subst hm
  obtain rfl : ee = -1074 := by omega
  clear he hne
  go_enter Tryz.func77, Tryz.ntmps77
  go_wp2_with fail
  refine (HS.out _).mono ?_
  rintro e1 w1 ⟨rfl, hb1⟩
  have HB := Lib.hid ((below1 w _).trans (hb1.mono (below1 w _).size))
  replace HW := Lib.hid (HW.out.below hb1)
  clear hb1
  go_wp2_with fail
  refine (HO.out _).mono ?_
  rintro e1 w1 ⟨rfl, rfl⟩
  obtain ⟨q0, q1, q2, q3, q4, q5⟩ := HW.out.cells3
  go_wp2
  refine bodyPost_ret (v := .tuple #[.agg #[.bool sg, .int .u64 m, .int .i64 x], .int .i64 0]) (by simp [results, Tryz.results77, go_sem, q0, q1, q2]) rfl ⟨rfl, ?_⟩
  exact ((HB.out.setCell (Nat.le_refl _) _).setCell (Nat.le_refl _) _).setCell (Nat.le_refl _) _
 ·rw [if_neg h0] at hm he
  have hp : (0 : Int) < (E : Int) := by omega
  have hne2 : ((E : Int) == 2047) = false := by simp; omega
  have hA : Hid ((f : Int) + 4503599627370496 = ((mm : Nat) : Int) ∧ (E : Int) - 1 - 1074 = ee) := Lib.hid ⟨by omega, by omega⟩
  clear hm he hne
  go_enter Tryz.func77, Tryz.ntmps77
  go_wp2_with fail
  refine (HS.out _).mono ?_
  rintro e1 w1 ⟨rfl, hb1⟩
  have HB := Lib.hid ((below1 w _).trans (hb1.mono (below1 w _).size))
  replace HW := Lib.hid (HW.out.below hb1)
  clear hb1
  go_wp2_with fail
  rw [hA.out.1, hA.out.2]
  refine (HO.out _).mono ?_
  rintro e1 w1 ⟨rfl, rfl⟩
  obtain ⟨q0, q1, q2, q3, q4, q5⟩ := HW.out.cells3
  go_wp2
  refine bodyPost_ret (v := .tuple #[.agg #[.bool sg, .int .u64 m, .int .i64 x], .int .i64 0]) (by simp [results, Tryz.results77, go_sem, q0, q1, q2]) rfl ⟨rfl, ?_⟩
  exact ((HB.out.setCell (Nat.le_refl _) _).setCell (Nat.le_refl _) _).setCell (Nat.le_refl _) _
end
section
open Go.RowKit
def OfBox (w0 W : World) (r pb : Nat) (sg : Bool) (m : Nat) (x : Int) : Prop :=
 BlkT W r 48 #[.pointer none, .int .i64 0] ∧ BlkT W pb 90 #[.bool sg, .int .u64 m, .int .i64 x] ∧ Below w0.heap.size w0 W ∧ r = w0.heap.size ∧ r < pb
theorem OfBox.mod {w0 W V : World} {r pb ib : Nat} {sg : Bool} {m : Nat} {x : Int} (h : OfBox w0 W r pb sg m x) (hm : Mod ib 0 W V) (hi : pb < ib) : OfBox w0 V r pb sg m x := by
 obtain ⟨h1, h2, h3, rfl, h5⟩ := h
 exact ⟨h1.mod hm (by omega), h2.mod hm (by omega), hm.below h3 (by omega) h3.size, rfl, h5⟩
set_option maxRecDepth 100000 in
set_option maxHeartbeats 800000 in
theorem rOf_any (b : Nat) (w : World) (h : b < 18446744073709551616) (hf : finB b = true) :
  Calls Tryz.prog 27 #[.float .f64 b] w (RxNew (valZ b) (pE b) w) := by
 have HP := Lib.hid fun W => rParts_any b W h hf
 have hml : pM b < 18446744073709551616 := Nat.lt_of_le_of_lt (pM_le b) (Nat.lt_trans (mantB_lt b) (by decide))
 have HML := Lib.hid hml
 have HV : Hid (valZ b = if sgnB b then -(pM b : Int) else pM b) := Lib.hid rfl
 have HNB : Hid (ln 32 ((pM b : Int)).natAbs ≤ 68719476736) := Lib.hid (Nat.le_trans (ln_of_lt (s := 32) (n := 2) (by decide) (by rw [Int.natAbs_natCast]; exact hml)) (by decide))
 clear h hf hml
 unfold PartsV at HP
 generalize valZ b = V at *
 generalize pE b = x at *
 generalize pM b = m at *
 generalize sgnB b = sg at *
 go_enter Tryz.func27, Tryz.ntmps27
 go_wp2_with fail
 refine (HP.out _).mono ?_
 rintro e1 W1 ⟨rfl, hb1⟩
 have HB : Hid (OfBox w ((W1.alloc (.cells #[.bool sg, .int .u64 m, .int .i64 x] 90)).alloc (.cells #[.bool false, .slice none 0 0] 92)) w.heap.size W1.heap.size sg m x) := by
  have hs := hb1.size
  simp at hs
  refine Lib.hid ⟨((BlkT.new w _ _).below hb1).below (below2 _ _ _), (BlkT.new W1 _ _).alloc _, ((below1 w _).trans (hb1.mono (below1 w _).size)).trans ((below2 W1 _ _).mono (by omega)), rfl, by omega⟩
 have HZ := Lib.hid (IntK.zero1 (k := .u32) (s := 32) W1 (.cells #[.bool sg, .int .u64 m, .int .i64 x] 90) _ objT_rint)
 clear hb1
 go_wp2_with fail
 refine (rSetUint64_any _ 0 m _ HZ.out.1 HML.out).mono ?_
 rintro e2 W2 ⟨rfl, hi2, hm2⟩
 have HB2 := Lib.hid (HB.out.mod hm2 (by omega))
 have HI2 := Lib.hid hi2
 have hlt : w.heap.size < W1.heap.size := HB.out.2.2.2.2
 clear hi2 hm2 HB HZ
 obtain ⟨q0, q1, q2, q3, q4, q5⟩ := HB2.out.2.1.cells3
 obtain ⟨r0, r1, r2, r3⟩ := HB2.out.1.cells2
 cases sg
 ·have HE : Hid ((m : Int) = V) := Lib.hid (by rw [HV.out]; simp)
  rw [HE.out] at HI2
  have HF := Lib.hid (rstore2 HI2.out HB2.out.1 objT_rexact HB2.out.2.2.1 (by omega) (Nat.le_refl _))
  go_wp2
  refine bodyPost_ret (v := ExV (W1.heap.size + 1) x) (by simp [results, Tryz.results27, go_sem, ExV, r0, r1]) rfl ⟨_, rfl, by omega, (HF.out _ _).1, (HF.out _ _).2⟩
 ·have HE : Hid (-(m : Int) = V) := Lib.hid (by rw [HV.out]; simp)
  go_wp2_with fail
  refine (rNeg_any _ 0 _ 0 _ _ HI2.out.1 HI2.out).mono ?_
  rintro e3 W3 ⟨rfl, hi3, hm3⟩
  rw [HE.out] at hi3
  have HB3 := Lib.hid (HB2.out.mod hm3 (by omega))
  have HI3 := Lib.hid hi3
  clear hi3 hm3 q0 q1 q2 q3 q4 q5 r0 r1 r2 r3
  obtain ⟨q0, q1, q2, q3, q4, q5⟩ := HB3.out.2.1.cells3
  obtain ⟨r0, r1, r2, r3⟩ := HB3.out.1.cells2
  have HF := Lib.hid (rstore2 HI3.out HB3.out.1 objT_rexact HB3.out.2.2.1 (by omega) (Nat.le_refl _))
  go_wp2
  refine bodyPost_ret (v := ExV (W1.heap.size + 1) x) (by simp [results, Tryz.results27, go_sem, ExV, r0, r1]) rfl ⟨_, rfl, by omega, (HF.out _ _).1, (HF.out _ _).2⟩
set_option maxRecDepth 100000 in
set_option maxHeartbeats 800000 in
theorem rAllFinite_any (v : Value) (l : List Nat) (w : World) (hl : FSl w v l) :
  Calls Tryz.prog 18 #[v] w (Gives (.bool (l.all finB)) w) := by
 obtain ⟨ao, cap, rfl, hcap, hn, hx, hc⟩ := hl
 have HC := Lib.hid hc
 have HX := Lib.hid hx
 generalize hv : l.all finB = r
 have HV := Lib.hid hv
 clear hc hx hv
 go_enter Tryz.func18, Tryz.ntmps18
 go_wp2
 go_loopw [7] (fun i wr => ∃ k : Nat, k ≤ l.length ∧ i = .int .i64 k ∧ Hid ((l.take k).all finB = true) ∧ Hid (Below w.heap.size w wr)) (fun i _ => l.length - (intOf i).toNat)
 case atStart => exact ⟨0, Nat.zero_le _, rfl, Lib.hid (by simp), Lib.hid (Below.refl _ _)⟩
 case round =>
  obtain ⟨k, hk, rfl, HA, HB⟩ := hrel
  by_cases hlt : k < l.length
  ·obtain ⟨b, off, rfl, hb, hcc⟩ := HC.out (by omega)
   have hck := (HB.out.cell (p := ⟨b, off + k, none⟩) hb).trans (hcc k hlt)
   have HXk : Hid (l[k] < 18446744073709551616) := Lib.hid (HX.out _ (List.getElem_mem _))
   have HN : Hid (finB l[k] = true → (l.take (k + 1)).all finB = true) := Lib.hid (all_take_succ hlt HA.out)
   have HM : Hid (finB l[k] = false → r = false) := by
    refine Lib.hid fun h => ?_
    rw [← HV.out, List.all_eq_false]
    exact ⟨l[k], List.getElem_mem _, by rw [h]; simp⟩
   clear hcc
   generalize l[k] = x at *
   have HFI := Lib.hid fun W => rFinite_any x W HXk.out
   obtain ⟨fb, hfb⟩ : ∃ f, finB x = f := ⟨_, rfl⟩
   rw [hfb] at HFI HN HM
   clear hfb
   cases fb
   ·have HR := Lib.hid (HM.out rfl)
    go_wp2_with fail
    refine (HFI.out _).mono ?_
    rintro e1 w1 ⟨rfl, hb1⟩
    have HB1 := Lib.hid (HB.out.trans (hb1.mono HB.out.size))
    clear hb1
    go_wp2
    go_ret
    exact ⟨by rw [HR.out]; rfl, HB1.out⟩
   ·go_wp2_with fail
    refine (HFI.out _).mono ?_
    rintro e1 w1 ⟨rfl, hb1⟩
    have HB1 := Lib.hid (HB.out.trans (hb1.mono HB.out.size))
    clear hb1
    go_wp2
    go_roundw
    case rel => exact ⟨k + 1, by omega, by go_num, Lib.hid (HN.out (by simp)), HB1⟩
    case measure => simp [intOf]; omega
  ·obtain rfl : k = l.length := by omega
   have HR : Hid (r = true) := by
    refine Lib.hid ?_
    have := HA.out
    rw [List.take_length] at this
    rw [← HV.out]; exact this
   go_wp2
   go_ret
   exact ⟨by rw [HR.out]; rfl, HB.out⟩
end
section
open Go.RowKit
def USl (w : World) (v : Value) (l : List Nat) : Prop :=
 ∃ ao cap, v = .slice ao l.length cap ∧ l.length ≤ cap ∧ l.length ≤ 1099511627776 ∧ (∀ x ∈ l, x < 18446744073709551616) ∧
  (0 < l.length → ∃ b off, ao = some ⟨b, off, none⟩ ∧ b < w.heap.size ∧ ∀ i (h : i < l.length), w.cell? ⟨b, off + i, none⟩ = some (.int .u64 l[i]))
def fls64 (l : List Nat) : List Value := l.map fun (x : Nat) => Value.float .f64 x
theorem FSl.of_owns {w : World} {base t : Nat} {v : Value} {l : List Nat} (h : w.ownsRow base t 1 v l.length (fls64 l)) (hn : l.length ≤ 1099511627776) (hx : ∀ x ∈ l, x < 18446744073709551616) : FSl w v l := by
 obtain ⟨h1, ⟨rfl, h0⟩ | ⟨g, cap, cur, rfl, hg, hh, hcap, hmax, hcs, ht⟩⟩ := h
 ·exact ⟨none, 0, by rw [h0], by omega, hn, hx, fun h => absurd h (by omega)⟩
 ·refine ⟨_, cap, rfl, hcap, hn, hx, fun _ => ⟨g, 0, rfl, (Array.getElem?_eq_some_iff.1 hh).1, fun i hi => ?_⟩⟩
  have h2 : (fls64 l)[i]? = some (.float .f64 l[i]) := by unfold fls64; rw [List.getElem?_map, List.getElem?_eq_getElem hi]; rfl
  rw [← ht, List.getElem?_take_of_lt (by omega)] at h2
  simp only [World.cell?, hh, Nat.zero_add]
  simpa using h2
theorem Tryz.info25 : (Tryz.prog.info? 25).map (fun i => (i.zero, i.size, i.bytes)) = some (some (.float .f64 0), 1, 8) := by kernel_rfl
theorem fls_succ {l : List Nat} {k : Nat} (h : k < l.length) : fls64 (l.take (k + 1)) = fls64 (l.take k) ++ [Value.float .f64 l[k]] := by
 unfold fls64; rw [List.take_succ_eq_append_getElem h, List.map_append]; rfl
set_option maxRecDepth 100000 in
set_option maxHeartbeats 800000 in
theorem rOf64_any (v : Value) (l : List Nat) (w : World) (hl : USl w v l) :
  Calls Tryz.prog 4 #[v] w fun en w' => ∃ u, en = .returned u ∧ FSl w' u l ∧ Below w.heap.size w w' := by
 obtain ⟨i0, hi, hz0, hz1, hz2⟩ := info_parts Tryz.info25
 obtain ⟨ao, cap, rfl, hcap, hn, hx, hc⟩ := hl
 have HC := Lib.hid hc
 have HX := Lib.hid hx
 clear hc hx
 go_enter Tryz.func4, Tryz.ntmps4
 go_wp2
 go_loopw [3, 8] (fun u i wr => ∃ k : Nat, k ≤ l.length ∧ i = .int .i64 k ∧ Hid (wr.ownsRow w.heap.size 25 1 u k (fls64 (l.take k)) ∧ Below w.heap.size w wr)) (fun _ i _ => l.length - (intOf i).toNat)
 case atStart => exact ⟨0, Nat.zero_le _, rfl, Lib.hid ⟨World.ownsRow_nil _ _ _ _, Below.refl _ _⟩⟩
 case round =>
  obtain ⟨k, hk, rfl, HR⟩ := hrel
  obtain ⟨ao2, cap2, rfl⟩ := owns_shape HR.out.1
  by_cases hlt : k < l.length
  ·obtain ⟨b, off, rfl, hb, hcc⟩ := HC.out (by omega)
   have hck := (HR.out.2.cell (p := ⟨b, off + k, none⟩) hb).trans (hcc k hlt)
   have HSU := Lib.hid (fls_succ hlt)
   have hfr := ffrom_eq l[k]
   clear hcc
   generalize l[k] = x at *
   have HOW := Lib.hid fun o => HR.out.1.kept (grown_of_below (Below.alloc_self wr o)) (by cases (Value.slice ao2 k cap2).ownBlock <;> simp)
   have HNW := Lib.hid fun W => cell_one_new W (.float .f64 x) 25
   go_wp2_with (at_builtin; refine wpList_append_own _ rfl _ _ 23 rfl w.heap.size 25 i0 (.float .f64 0) 1 8 Tryz.underlying23 hi hz0 hz1 hz2 rfl (by decide) _ _ _ rfl (HOW.out _) ⟨_, 0, none⟩ 1 1 [.float .f64 x] rfl rfl (HNW.out _) ?c2 ?c3 ?c4 ?c5 ?_)
   case c2 => intro u hu; simp only [List.mem_singleton] at hu; subst hu; rfl
   case c3 => unfold maxLen; omega
   case c4 => omega
   case c5 => exact Nat.le_trans HR.out.2.size (by simp)
   intro v' U4 hown hgrow _
   rw [← HSU.out] at hown
   have HR2 := Lib.hid hown
   have HB2 := Lib.hid ((HR.out.2.trans ((Below.alloc_self wr _).mono HR.out.2.size)).grown hgrow (Nat.le_trans HR.out.2.size (by simp)) (fun j hj => (HR.out.1.lt j hj).1))
   obtain ⟨ao', cap', hv'⟩ := owns_shape hown
   rw [hv'] at HR2 ⊢
   clear hown hgrow hv' HNW HOW hck hfr
   go_wp2
   go_roundw
   case rel => exact ⟨k + 1, by omega, by go_num, Lib.hid ⟨HR2.out, HB2.out⟩⟩
   case measure => simp [intOf]; omega
  ·obtain rfl : k = l.length := by omega
   have HT : Hid (l.take l.length = l) := Lib.hid List.take_length
   rw [HT.out] at HR
   go_wp2
   go_ret
   exact ⟨_, rfl, FSl.of_owns HR.out.1 hn HX.out, HR.out.2⟩
end
section
open Go.RowKit
structure RAcc (w0 wr : World) (bb : Nat) (z e : Int) (p : Nat) : Prop where
 res : BlkT wr w0.heap.size 48 #[.pointer none, .int .i64 0]
 box : BlkT wr bb 48 #[.pointer (some ⟨p, 0, none⟩), .int .i64 e]
 num : RInt wr p z
 below : Below w0.heap.size w0 wr
 lt : w0.heap.size < bb
theorem RAcc.later {w0 wr w2 : World} {bb : Nat} {z e : Int} {p : Nat} (h : RAcc w0 wr bb z e p) (hb : Below wr.heap.size wr w2) : RAcc w0 w2 bb z e p :=
 ⟨h.res.below hb, h.box.below hb, h.num.below hb, h.below.trans (hb.mono h.below.size), h.lt⟩
theorem RAcc.put {w0 wr : World} {bb : Nat} {z e y f : Int} {p q : Nat} (h : RAcc w0 wr bb z e p) (hq : RInt wr q y) :
  RAcc w0 ((wr.setCell ⟨bb, 0, none⟩ (.pointer (some ⟨q, 0, none⟩))).setCell ⟨bb, 1, none⟩ (.int .i64 f)) bb y f q := by
 have hne : q ≠ bb := RInt.ne_box hq h.box rfl
 have h1 := h.box.set (i := 0) (.pointer (some ⟨q, 0, none⟩))
 have h2 := h1.set (i := 1) (.int .i64 f)
 have hl := h.lt
 refine ⟨(h.res.setOther (by omega) _).setOther (by omega) _, ?_, (hq.setOther h.box objT_rexact hne _).setOther h1 objT_rexact hne _, (h.below.setCell (Nat.le_of_lt hl) _).setCell (Nat.le_of_lt hl) _, hl⟩
 simpa using h2
theorem RAcc.start {w w1 : World} {q : Nat} (hb : Below (w.alloc (.cells #[.pointer none, .int .i64 0] 48)).heap.size (w.alloc (.cells #[.pointer none, .int .i64 0] 48)) w1) (hq : RInt w1 q 0) :
  RAcc w (w1.alloc (.cells #[.pointer (some ⟨q, 0, none⟩), .int .i64 0] 48)) w1.heap.size 0 0 q := by
 have hs := hb.size
 simp at hs
 exact ⟨((BlkT.new w _ _).below hb).alloc _, BlkT.new w1 _ _, hq.below (below1 _ _), ((below1 w _).trans (hb.mono (below1 w _).size)).trans ((below1 w1 _).mono (by omega)), by omega⟩
set_option maxRecDepth 100000 in
set_option maxHeartbeats 1600000 in
theorem rSum_any (v : Value) (l : List Nat) (w : World) (hl : FSl w v l) (hf : l.all finB = true) :
  Calls Tryz.prog 21 #[v] w (RxAny (foldS (prs l)).1 (foldS (prs l)).2 w) := by
 obtain ⟨ao, cap, rfl, hcap, hn, hx, hc⟩ := hl
 have HC := Lib.hid hc
 have HX := Lib.hid hx
 have HF := Lib.hid hf
 have HK := Lib.hid (prs_small hn hf)
 have HLp : Hid ((prs l).length = l.length) := Lib.hid (by unfold prs; simp)
 have HG : Hid (∀ k (h : k < l.length), foldS ((prs l).take (k + 1)) = (plZ (foldS ((prs l).take k)).1 (foldS ((prs l).take k)).2 (valZ l[k]) (pE l[k]), plE (foldS ((prs l).take k)).1 (foldS ((prs l).take k)).2 (valZ l[k]) (pE l[k]))) := by
  refine Lib.hid fun k h => ?_
  rw [foldS_take (by rw [HLp.out]; exact h)]
  unfold prs; simp
 clear hc hx hf
 go_enter Tryz.func21, Tryz.ntmps21
 go_wp2_with fail
 refine (rZero_any _).mono ?_
 rintro e1 w1 ⟨q0, rfl, hq0, hi0, hb1⟩
 have HA0 := Lib.hid (RAcc.start hb1 hi0)
 obtain ⟨bb, hbb⟩ : ∃ i, w1.heap.size = i := ⟨_, rfl⟩
 unfold ExV
 clear hq0 hi0 hb1
 go_wp2
 rw [hbb] at HA0
 go_loopw [9] (fun i wr => ∃ (k : Nat) (p : Nat), k ≤ l.length ∧ i = .int .i64 k ∧ Hid (RAcc w wr bb (foldS ((prs l).take k)).1 (foldS ((prs l).take k)).2 p)) (fun i _ => l.length - (intOf i).toNat)
 case atStart => exact ⟨0, q0, Nat.zero_le _, rfl, HA0⟩
 case round =>
  clear hbb
  obtain ⟨k, p, hk, rfl, HR⟩ := hrel
  have HKk := Lib.hid (HK.out k hk)
  by_cases hlt : k < l.length
  ·obtain ⟨b, off, rfl, hb, hcc⟩ := HC.out (by omega)
   have hck := (HR.out.below.cell (p := ⟨b, off + k, none⟩) hb).trans (hcc k hlt)
   have HOF := Lib.hid fun W => rOf_any l[k] W (HX.out _ (List.getElem_mem _)) (List.all_eq_true.1 HF.out _ (List.getElem_mem _))
   have HGk := Lib.hid (HG.out k hlt)
   have HB5 := Lib.hid (pE_bd (List.all_eq_true.1 HF.out _ (List.getElem_mem hlt)))
   have HB6 : Hid (bl (valZ l[k]).natAbs ≤ 53) := Lib.hid val_bl
   clear hcc
   generalize hs1 : foldS ((prs l).take (k + 1)) = s1 at *
   have HS1 := Lib.hid hs1
   clear hs1
   generalize foldS ((prs l).take k) = s0 at *
   generalize valZ l[k] = y at *
   generalize pE l[k] = f at *
   generalize l[k] = x at *
   obtain ⟨z, e⟩ := s0
   obtain ⟨z1, g⟩ := s1
   simp only at HR HGk HKk
   obtain ⟨r0, r1, r2, r3⟩ := HR.out.box.cells2
   have HEq : Hid (plZ z e y f = z1 ∧ plE z e y f = g) := Lib.hid (by have := HGk.out; simp only [Prod.mk.injEq] at this; exact ⟨this.1.symm, this.2.symm⟩)
   go_wp2
   refine wp_region_q (fun w' : World => w'.cell? ⟨bb, 0, none⟩ = some (.pointer (some ⟨p, 0, none⟩)) ∧ w'.cell? ⟨bb, 1, none⟩ = some (.int .i64 e)) 3 (.take 0 (.take 1 (.run 2 .nil))) (by kernel_rfl) (by kernel_rfl) ?_
   replace HR := Lib.hid (HR.out.later (drew_below wr))
   clear r0 r1 r2 r3 hck
   obtain ⟨W0, hW0⟩ : ∃ u, wr.drew = u := ⟨_, rfl⟩
   rw [hW0] at HR ⊢
   clear hW0
   have hS : (fun w' : World => w'.cell? ⟨bb, 0, none⟩ = some (.pointer (some ⟨p, 0, none⟩)) ∧ w'.cell? ⟨bb, 1, none⟩ = some (.int .i64 e)) W0 := (And.intro (HR.out.box.cell 0) (HR.out.box.cell 1))
   repeat (refine wpPq_takeL (v := ?_) rfl rfl (fun _ _ _ h => h) rfl (fun w' hSw => ?_) hS ?_; rotate_left; (focus (go_simp; with_reducible rfl)); simp only [setL])
   clear hS
   refine wpPq_goL rfl rfl fun K' hK => ?_
   go_simp
   refine (HOF.out W0).mono ?_
   rintro e1 V1 ⟨q, rfl, hq, hi3, hb1⟩
   have HI3 := Lib.hid hi3
   replace HR := Lib.hid (HR.out.later hb1)
   refine hK _ _ (And.intro (HR.out.box.cell 0) (HR.out.box.cell 1)) ?_
   clear hK K' hb1
   refine wpPq_nil ?_
   simp only [drL]
   clear hq hi3
   unfold ExV
   obtain ⟨r0, r1, r2, r3⟩ := HR.out.box.cells2
   go_wp2_with fail
   refine (rAddX_any p q z e y f _ HR.out.num HI3.out (by have := HKk.out.2.2; omega) (by have := HB6.out; omega) (by have := HKk.out.1; omega) (by have := HKk.out.2.1; omega) (by have := HB5.out.1; omega) (by have := HB5.out.2; omega)).mono ?_
   rintro e4 w4 ⟨p2, rfl, hi4, hb4⟩
   rw [HEq.out.1] at hi4
   rw [HEq.out.2]
   have HR4 := Lib.hid (HR.out.later hb4)
   have HI4 := Lib.hid hi4
   clear hi4 hb4 HR HI3 r0 r1 r2 r3
   obtain ⟨r0, r1, r2, r3⟩ := HR4.out.box.cells2
   unfold ExV
   go_wp2
   go_roundw
   case rel => exact ⟨k + 1, p2, by omega, by go_num, Lib.hid (by rw [HS1.out]; exact HR4.out.put HI4.out)⟩
   case measure => simp [intOf]; omega
  ·obtain rfl : k = l.length := by omega
   have HTk : Hid ((prs l).take l.length = prs l) := Lib.hid (by rw [← HLp.out]; exact List.take_length)
   rw [HTk.out] at HR HKk
   clear HK HG HF HX HC HTk HLp
   generalize foldS (prs l) = s0 at *
   obtain ⟨z, e⟩ := s0
   simp only at HR HKk ⊢
   obtain ⟨r0, r1, r2, r3⟩ := HR.out.box.cells2
   obtain ⟨x0, x1, x2, x3⟩ := HR.out.res.cells2
   have HFN := Lib.hid (rstore2 HR.out.num HR.out.res objT_rexact HR.out.below (RInt.ne_box HR.out.num HR.out.res rfl) (Nat.le_refl _))
   go_wp2
   refine bodyPost_ret (v := ExV p e) (by simp [results, Tryz.results21, go_sem, ExV, x0, x1]) rfl ⟨_, rfl, (HFN.out _ _).1, (HFN.out _ _).2⟩
end
section
open Go.RowKit
def ResIs (bad z e : Int) (w : World) (d : Value) (k : Int) : Prop := (bad = 0 ∧ DyIs z e w d k) ∨ (bad ≠ 0 ∧ d = .agg #[.bool false, .slice none 0 0, .int .i64 0] ∧ k = bad)
theorem DyAt.setOther {W : World} {v : Value} {z e : Int} {r t i : Nat} {cs : Array Value} (h : DyAt W v z e) (hr : BlkT W r t cs) (hT : ObjT t) (x : Value) : DyAt (W.setCell ⟨r, i, none⟩ x) v z e := by
 obtain ⟨sl, rfl, hraw⟩ := h
 exact ⟨sl, rfl, hraw.setOther hr hT _⟩
theorem ResIs.setOther {bad z e : Int} {W : World} {d : Value} {k : Int} {r t i : Nat} {cs : Array Value} (h : ResIs bad z e W d k) (hr : BlkT W r t cs) (hT : ObjT t) (x : Value) : ResIs bad z e (W.setCell ⟨r, i, none⟩ x) d k := by
 rcases h with ⟨h1, ⟨h2, h3, h4⟩ | h2⟩ | h
 ·exact .inl ⟨h1, .inl ⟨h2, h3.setOther hr hT _, h4⟩⟩
 ·exact .inl ⟨h1, .inr h2⟩
 ·exact .inr h
def ResOf (bad z e : Int) (w : World) (en : Ending) (w' : World) : Prop :=
 ∃ n ao l c x k, en = .returned (.tuple #[.agg #[.bool n, .slice ao l c, .int .i64 x], .int .i64 k]) ∧ ResIs bad z e w' (.agg #[.bool n, .slice ao l c, .int .i64 x]) k ∧ Below w.heap.size w w'
end
end Go.Proofs.YthkhignbmefmjaaGreatDoor
