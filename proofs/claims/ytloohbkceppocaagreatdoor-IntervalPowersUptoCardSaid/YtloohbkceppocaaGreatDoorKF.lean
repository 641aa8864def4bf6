/- Walk: the references' Take: a number's parts. Printed by wip/gen/cv6.py. -/
import Derived.Test.YtloohbkceppocaaGreatDoorKE
import Derived.Test.YtloohbkceppocaaGreatDoorGG
import Derived.Test.YtloohbkceppocaaGreatDoorZBks
import Derived.Deep.CutRange
import Derived.Test.YtloohbkceppocaaGreatDoorZIwp
import Derived.Test.YtloohbkceppocaaGreatDoorHB
import Derived.Test.YtloohbkceppocaaGreatDoorGV
import Derived.Test.YtloohbkceppocaaGreatDoorZIvr
import Derived.Test.YtloohbkceppocaaGreatDoorZIwr
namespace Go.Proofs.YtloohbkceppocaaGreatDoor
section
open Go.RowKit
def NumV (k : Int) (neg : Bool) (p : Nat) (e : Int) : Value := .agg #[.int .i64 k, .bool neg, .pointer (some ⟨p, 0, none⟩), .int .i64 e]
def NumNew (k : Int) (neg : Bool) (z : Int) (e : Int) (w : World) (en : Ending) (w' : World) : Prop :=
 ∃ p, en = .returned (NumV k neg p e) ∧ w.heap.size ≤ p ∧ RInt w' p z ∧ Below w.heap.size w w'
theorem BlkT.cells4 {w : World} {b t : Nat} {x y z v : Value} (h : BlkT w b t #[x, y, z, v]) : (w.cell? ⟨b, 0, none⟩ = some x ∧ w.cell? ⟨b, 1, none⟩ = some y ∧ w.cell? ⟨b, 2, none⟩ = some z ∧ w.cell? ⟨b, 3, none⟩ = some v) ∧
  w.frozen? ⟨b, 0, none⟩ = false ∧ w.frozen? ⟨b, 1, none⟩ = false ∧ w.frozen? ⟨b, 2, none⟩ = false ∧ w.frozen? ⟨b, 3, none⟩ = false :=
 ⟨⟨h.cell 0, h.cell 1, h.cell 2, h.cell 3⟩, h.frozen 0, h.frozen 1, h.frozen 2, h.frozen 3⟩
theorem Bks.mod {w0 W V : World} {l : List (Nat × Nat × Array Value)} {q : Nat} (h : Bks w0 W l) (hm : Mod q 0 W V) (hn : ∀ t ∈ l, t.1 ≠ q) (hq : w0.heap.size ≤ q) : Bks w0 V l :=
 ⟨fun t m => (h.1 t m).mod hm (hn t m), Mod.below h.2 hm hq h.2.size⟩
theorem Bks.set4 {w0 W : World} {l : List (Nat × Nat × Array Value)} {x t : Nat} {a b c d : Value} (h : Bks w0 W ((x, t, #[a, b, c, d]) :: l)) (lx : w0.heap.size ≤ x) (hn : ∀ q ∈ l, q.1 ≠ x) (u v y z : Value) :
  Bks w0 ((((W.setCell ⟨x, 0, none⟩ u).setCell ⟨x, 1, none⟩ v).setCell ⟨x, 2, none⟩ y).setCell ⟨x, 3, none⟩ z) ((x, t, #[u, v, y, z]) :: l) :=
 (((h.set lx hn 0 u).set lx hn 1 v).set lx hn 2 y).set lx hn 3 z
theorem objT_num : ObjT 87 := by intro k; cases k <;> decide
theorem RInt.set4 {W : World} {x p : Nat} {n : Int} {a b c d : Value} (h : RInt W p n) (hx : BlkT W x 87 #[a, b, c, d]) (hne : p ≠ x) (u v y z : Value) :
  RInt ((((W.setCell ⟨x, 0, none⟩ u).setCell ⟨x, 1, none⟩ v).setCell ⟨x, 2, none⟩ y).setCell ⟨x, 3, none⟩ z) p n :=
 (((h.setOther hx objT_num hne u).setOther (hx.set (i := 0) u) objT_num hne v).setOther ((hx.set (i := 0) u).set (i := 1) v) objT_num hne y).setOther (((hx.set (i := 0) u).set (i := 1) v).set (i := 2) y) objT_num hne z
theorem RInt.set1 {W : World} {x p i : Nat} {n : Int} {cs : Array Value} (h : RInt W p n) (hx : BlkT W x 87 cs) (hne : p ≠ x) (u : Value) : RInt (W.setCell ⟨x, i, none⟩ u) p n := h.setOther hx objT_num hne u
theorem Bks.get1 {w0 W : World} {l : List (Nat × Nat × Array Value)} {x t : Nat} {cs : Array Value} (h : Bks w0 W ((x, t, cs) :: l)) : BlkT W x t cs := h.get (.head _)
theorem sgn_bit (b : Nat) (h : b < 18446744073709551616) : (bits .and .u64 ((b : Int) / 9223372036854775808) 1 == 1) = sgnB b := by
 have e : (b : Int) / 9223372036854775808 = ((b / 9223372036854775808 : Nat) : Int) := by omega
 rw [e, show (1 : Int) = ((1 : Nat) : Int) from rfl, bits_and_u64_nat _ _ (by omega) (by decide), show (1 : Nat) = 2 ^ 1 - 1 from rfl, Nat.and_two_pow_sub_one_eq_mod]
 unfold sgnB kSign
 by_cases hb : 9223372036854775808 ≤ b
 ·rw [decide_eq_true hb, show b / 9223372036854775808 % 2 ^ 1 = 1 by omega]; rfl
 ·rw [decide_eq_false hb, show b / 9223372036854775808 % 2 ^ 1 = 0 by omega]; rfl
def kndB (b : Nat) : Int := if finB b then 0 else 1
def mntB (b : Nat) : Nat := if finB b then mantB b else 0
def xpnB (b : Nat) : Int := if finB b then expB b else -1074
theorem or_hidN {f : Nat} (h : f < 4503599627370496) : bits .or .u64 (f : Int) 4503599627370496 = ((f + 4503599627370496 : Nat) : Int) := by
 rw [show (4503599627370496 : Int) = ((4503599627370496 : Nat) : Int) from rfl, bits_or_u64_nat _ _ (by omega) (by decide)]
 congr 1
 have := Nat.two_pow_add_eq_or_of_lt (i := 52) (b := f) h 1
 rw [Nat.or_comm]
 exact this.symm.trans (Nat.add_comm _ _)
theorem take_parts {b fr ex : Nat} (hn : nanB b = false) (hf : b % kHid = fr) (he : expF b = ex) : (ex = 2047 → fr = 0 ∧ kndB b = 1 ∧ mntB b = 0 ∧ xpnB b = -1074) ∧ (ex = 0 → kndB b = 0 ∧ mntB b = fr ∧ xpnB b = -1074) ∧ (ex ≠ 2047 → ex ≠ 0 → kndB b = 0 ∧ mntB b = fr + 4503599627370496 ∧ xpnB b = (ex : Int) - 1075) := by
 have hfin : finB b = decide (ex ≠ 2047) := by unfold finB; rw [he]
 have hfr : fracF b = fr := hf
 unfold kndB mntB xpnB
 rw [hfin]
 refine ⟨fun h => ?_, fun h => ?_, fun h h2 => ?_⟩
 ·rw [h]
  refine ⟨?_, rfl, rfl, rfl⟩
  have h3 := num_iff.1 hn
  have h4 : b / kHid % 2048 = 2047 := he.trans h
  unfold kSign kInf kHid at *
  omega
 ·rw [h]
  refine ⟨rfl, ?_, ?_⟩
  ·show mantB b = fr
   unfold mantB; rw [he, h, if_pos rfl, hfr]
  ·show expB b = -1074
   unfold expB; rw [he, h, if_pos rfl]; rfl
 ·rw [decide_eq_true h]
  refine ⟨rfl, ?_, ?_⟩
  ·show mantB b = _
   unfold mantB; rw [he, if_neg h2, hfr]; rfl
  ·show expB b = _
   unfold expB; rw [he, if_neg h2]
set_option maxRecDepth 100000 in
set_option maxHeartbeats 12800000 in
theorem cTake_any (b : Nat) (w : World) (hb : W64 b) (hn : nanB b = false) :
  Calls Tryz.prog 151 #[fmtV, .int .u64 (b : Nat)] w (NumNew (kndB b) (sgnB b) (mntB b : Nat) (xpnB b) w) := by
 have hfr := and_mask52 b hb
 have hex := and_exp b hb
 have hsg := sgn_bit b hb
 have HK := Lib.hid (Bks.new2t w 81 87 #[.int .i64 53, .int .i64 (-1022), .int .i64 1023, .int .i64 11] #[.int .i64 0, .bool false, .pointer none, .int .i64 0])
 obtain ⟨fr, hfr2⟩ : ∃ f, b % kHid = f := ⟨_, rfl⟩
 obtain ⟨ex, hex2⟩ : ∃ f, expF b = f := ⟨_, rfl⟩
 obtain ⟨sg, hsg2⟩ : ∃ f, sgnB b = f := ⟨_, rfl⟩
 rw [hfr2] at hfr
 rw [hex2] at hex
 rw [hsg2] at hsg ⊢
 have hfl : fr < 4503599627370496 := by rw [← hfr2]; exact Nat.mod_lt _ (by decide)
 have hel : ex < 2048 := by rw [← hex2]; unfold expF; omega
 have HP : Hid ((ex = 2047 → fr = 0 ∧ kndB b = 1 ∧ mntB b = 0 ∧ xpnB b = -1074) ∧ (ex = 0 → kndB b = 0 ∧ mntB b = fr ∧ xpnB b = -1074) ∧ (ex ≠ 2047 → ex ≠ 0 → kndB b = 0 ∧ mntB b = fr + 4503599627370496 ∧ xpnB b = (ex : Int) - 1075)) := Lib.hid (take_parts hn hfr2 hex2)
 generalize kndB b = kk at *
 generalize mntB b = mm at *
 generalize xpnB b = xx at *
 have HFS := Lib.hid fun p W h => rSetUint64_any p 0 fr W h (by omega)
 have HFM := Lib.hid fun p W h => rSetUint64_any p 0 (fr + 4503599627370496) W h (by omega)
 have hor : bits .or .u64 (fr : Int) 4503599627370496 = ((fr + 4503599627370496 : Nat) : Int) := or_hidN hfl
 clear hfr2 hex2 hsg2 hn
 have hw1 : IntKind.i64.wrap 52 = 52 := by decide +kernel
 have hw2 : IntKind.i64.wrap 63 = 63 := by decide +kernel
 have hw3 : IntKind.u64.wrap 63 = 63 := by decide +kernel
 have hw4 : IntKind.i64.wrap (-1075) = -1075 := by decide +kernel
 have hw5 : IntKind.i64.wrap (-1074) = -1074 := by decide +kernel
 obtain ⟨f0, hf0⟩ : ∃ f, w.heap.size = f := ⟨_, rfl⟩
 rw [hf0] at HK
 unfold fmtV NumNew NumV at *
 go_enter Tryz.func151, Tryz.ntmps151
 obtain ⟨⟨c0, c1, c2, c3⟩, -⟩ := (HK.out.get (.head _)).cells4
 go_upto_region 3 with fail
 clear c0 c1 c2 c3
 generalize World.alloc (World.alloc w _) _ = W1 at HK ⊢
 go_cut [7] from 29 to 49 (fun nv wx => ∃ nb ib : Nat, nv = .pointer (some ⟨nb, 0, none⟩) ∧ Hid (f0 + 1 < nb ∧ f0 + 1 < ib ∧ ib ≠ nb) ∧ Hid (Bks w wx [(nb, 87, #[.int .i64 0, .bool sg, .pointer (some ⟨ib, 0, none⟩), .int .i64 (-1074)]), (f0, 81, #[.int .i64 53, .int .i64 (-1022), .int .i64 1023, .int .i64 11]), (f0 + 1, 87, #[.int .i64 0, .bool false, .pointer none, .int .i64 0])]) ∧ Hid (RInt wx ib (fr : Int)))
 case first =>
  refine wp_region_pl (fun w' : World => w'.cell? ⟨f0, 0, none⟩ = some (.int .i64 53) ∧ w'.cell? ⟨f0, 1, none⟩ = some (.int .i64 (-1022)) ∧ w'.cell? ⟨f0, 2, none⟩ = some (.int .i64 1023) ∧ w'.cell? ⟨f0, 3, none⟩ = some (.int .i64 11)) 22 (.take 0 (.take 1 (.take 2 (.take 3 (.take 4 (.take 5 (.take 6 (.take 7 (.take 8 (.take 9 (.take 10 (.take 12 (.take 14 (.take 15 (.take 16 (.take 17 (.take 18 (.take 19 (.fork 11 (.fork 13 (.take 20 (.run 21 .nil)) 21 (.run 13 (.take 20 .nil))) 21 (.run 11 (.run 13 (.take 20 .nil)))))))))))))))))))))) (by kernel_rfl) (by kernel_rfl) ?_
  replace HK := Lib.hid (HK.out.later (drew_below _))
  generalize World.drew _ = W2 at HK ⊢
  repeat (first | (refine tkL (v := ?_) rfl rfl rfl (fun w' hSw => ?_) ((HK.out.get (.head _)).cells4.1) ?_; rotate_left; (focus (go_simp; with_reducible rfl)); simp only [setL]) | (refine wpPl_skipK rfl rfl (fun _ _ _ h => h) rfl ((HK.out.get (.head _)).cells4.1) ?_; simp only [setL]))
  refine wpPl_fork ?_ ?_
  ·refine wpPl_goL rfl rfl fun K' hK => ?_
   go_simp
   have hb1 := Below.alloc_self W2 (.cells #[.bool false, .slice none 0 0] 67)
   have HZ := Lib.hid (IntK.zero (k := .u32) (s := 32) W2 _ objT_rint)
   have HLib : Hid (f0 + 1 < W2.heap.size) := Lib.hid (by have := HK.out.lt _ (.tail _ (.head _)); omega)
   obtain ⟨ib, hib⟩ : ∃ i, W2.heap.size = i := ⟨_, rfl⟩
   obtain ⟨V1, hV⟩ : ∃ v, W2.alloc (.cells #[.bool false, .slice none 0 0] 67) = v := ⟨_, rfl⟩
   rw [hV] at hb1 HZ
   rw [hib] at HZ HLib
   rw [hV]
   try rw [hib]
   clear hV
   replace HK := Lib.hid (HK.out.later hb1)
   clear hib
   refine hK _ _ ((HK.out.get (.head _)).cells4.1) ?_
   clear hK K' hb1
   try simp only [Act.put, setL]
   repeat (first | (refine tkL (v := ?_) rfl rfl rfl (fun w' hSw => ?_) ((HK.out.get (.head _)).cells4.1) ?_; rotate_left; (focus (go_simp; with_reducible rfl)); simp only [setL]) | (refine wpPl_skipK rfl rfl (fun _ _ _ h => h) rfl ((HK.out.get (.head _)).cells4.1) ?_; simp only [setL]))
   refine wpPl_fork ?_ ?_
   ·refine wpPl_goL rfl rfl fun K' hK => ?_
    go_simp
    refine (HFS.out ib _ HZ.out.1).mono ?_
    rintro e1 V2 ⟨rfl, hi1, hm1⟩
    have hbs := HLib.out
    replace HK := Lib.hid (HK.out.mod hm1 (fun t m => by have := HLib.out; simp only [List.mem_cons, List.not_mem_nil, or_false] at m; rcases m with rfl | rfl <;> simp <;> omega) (by have := HLib.out; omega))
    replace HZ := Lib.hid hi1
    clear hbs hi1 hm1
    refine hK _ _ ((HK.out.get (.head _)).cells4.1) ?_
    clear hK K'
    try simp only [Act.put, setL]
    repeat (first | (refine tkL (v := ?_) rfl rfl rfl (fun w' hSw => ?_) ((HK.out.get (.head _)).cells4.1) ?_; rotate_left; (focus (go_simp; with_reducible rfl)); simp only [setL]) | (refine wpPl_skipK rfl rfl (fun _ _ _ h => h) rfl ((HK.out.get (.head _)).cells4.1) ?_; simp only [setL]))
    refine wpPl_goL rfl rfl fun K' hK => ?_
    go_simp
    have hb1 := Below.alloc_self V2 (.cells #[.int .i64 0, .bool false, .pointer none, .int .i64 0] 87)
    have HN := Lib.hid (BlkT.new V2 #[.int .i64 0, .bool false, .pointer none, .int .i64 0] 87)
    have HLnb : Hid (f0 + 1 < V2.heap.size ∧ ib < V2.heap.size) := Lib.hid (by have := HK.out.lt _ (.tail _ (.head _)); have := HZ.out.1.1; omega)
    obtain ⟨nb, hnb⟩ : ∃ i, V2.heap.size = i := ⟨_, rfl⟩
    obtain ⟨V3, hV⟩ : ∃ v, V2.alloc (.cells #[.int .i64 0, .bool false, .pointer none, .int .i64 0] 87) = v := ⟨_, rfl⟩
    rw [hV] at hb1 HN
    rw [hnb] at HN HLnb
    rw [hV]
    try rw [hnb]
    clear hV
    replace HK := Lib.hid (HK.out.later hb1)
    replace HZ := Lib.hid (HZ.out.below hb1)
    clear hnb
    refine hK _ _ ((HK.out.get (.head _)).cells4.1) ?_
    clear hK K' hb1
    try simp only [Act.put, setL]
    repeat (first | (refine tkL (v := ?_) rfl rfl rfl (fun w' hSw => ?_) ((HK.out.get (.head _)).cells4.1) ?_; rotate_left; (focus (go_simp; with_reducible rfl)); simp only [setL]) | (refine wpPl_skipK rfl rfl (fun _ _ _ h => h) rfl ((HK.out.get (.head _)).cells4.1) ?_; simp only [setL]))
    refine wpPl_nil ?_
    simp only [drL]
    obtain ⟨⟨k0, k1, k2, k3⟩, k4, k5, k6, k7⟩ := HN.out.cells4
    have HB1 := Lib.hid ((HK.out.cons HN.out).set4 (by have := HLnb.out; omega) (fun t m => by have := HLnb.out; simp only [List.mem_cons, List.not_mem_nil, or_false] at m; rcases m with rfl | rfl <;> simp <;> omega) (.int .i64 0) (.bool sg) (.pointer (some ⟨ib, 0, none⟩)) (.int .i64 (-1074)))
    have HI1 := Lib.hid (RInt.set4 HZ.out HN.out (by have := HLnb.out; have := HLib.out; omega) (.int .i64 0) (.bool sg) (.pointer (some ⟨ib, 0, none⟩)) (.int .i64 (-1074)))
    go_wp2
    go_meet
    exact ⟨nb, ib, rfl, Lib.hid (by have := HLnb.out; have := HLib.out; omega), HB1, HI1⟩
   ·refine wpPl_goL rfl rfl fun K' hK => ?_
    go_simp
    have hb1 := Below.alloc_self V1 (.cells #[.int .i64 0, .bool false, .pointer none, .int .i64 0] 87)
    have HN := Lib.hid (BlkT.new V1 #[.int .i64 0, .bool false, .pointer none, .int .i64 0] 87)
    have HLnb : Hid (f0 + 1 < V1.heap.size ∧ ib < V1.heap.size) := Lib.hid (by have := HK.out.lt _ (.tail _ (.head _)); have := HZ.out.1.1; omega)
    obtain ⟨nb, hnb⟩ : ∃ i, V1.heap.size = i := ⟨_, rfl⟩
    obtain ⟨V4, hV⟩ : ∃ v, V1.alloc (.cells #[.int .i64 0, .bool false, .pointer none, .int .i64 0] 87) = v := ⟨_, rfl⟩
    rw [hV] at hb1 HN
    rw [hnb] at HN HLnb
    rw [hV]
    try rw [hnb]
    clear hV
    replace HK := Lib.hid (HK.out.later hb1)
    replace HZ := Lib.hid (HZ.out.below hb1)
    clear hnb
    refine hK _ _ ((HK.out.get (.head _)).cells4.1) ?_
    clear hK K' hb1
    try simp only [Act.put, setL]
    repeat (first | (refine tkL (v := ?_) rfl rfl rfl (fun w' hSw => ?_) ((HK.out.get (.head _)).cells4.1) ?_; rotate_left; (focus (go_simp; with_reducible rfl)); simp only [setL]) | (refine wpPl_skipK rfl rfl (fun _ _ _ h => h) rfl ((HK.out.get (.head _)).cells4.1) ?_; simp only [setL]))
    refine wpPl_goL rfl rfl fun K' hK => ?_
    go_simp
    refine (HFS.out ib _ HZ.out.1).mono ?_
    rintro e1 V5 ⟨rfl, hi1, hm1⟩
    have hbs := HLib.out
    replace HK := Lib.hid (HK.out.mod hm1 (fun t m => by have := HLib.out; simp only [List.mem_cons, List.not_mem_nil, or_false] at m; rcases m with rfl | rfl <;> simp <;> omega) (by have := HLib.out; omega))
    replace HN := Lib.hid (HN.out.mod hm1 (by have := HLnb.out; have := HLib.out; omega))
    replace HZ := Lib.hid hi1
    clear hbs hi1 hm1
    refine hK _ _ ((HK.out.get (.head _)).cells4.1) ?_
    clear hK K'
    try simp only [Act.put, setL]
    repeat (first | (refine tkL (v := ?_) rfl rfl rfl (fun w' hSw => ?_) ((HK.out.get (.head _)).cells4.1) ?_; rotate_left; (focus (go_simp; with_reducible rfl)); simp only [setL]) | (refine wpPl_skipK rfl rfl (fun _ _ _ h => h) rfl ((HK.out.get (.head _)).cells4.1) ?_; simp only [setL]))
    refine wpPl_nil ?_
    simp only [drL]
    obtain ⟨⟨k0, k1, k2, k3⟩, k4, k5, k6, k7⟩ := HN.out.cells4
    have HB1 := Lib.hid ((HK.out.cons HN.out).set4 (by have := HLnb.out; omega) (fun t m => by have := HLnb.out; simp only [List.mem_cons, List.not_mem_nil, or_false] at m; rcases m with rfl | rfl <;> simp <;> omega) (.int .i64 0) (.bool sg) (.pointer (some ⟨ib, 0, none⟩)) (.int .i64 (-1074)))
    have HI1 := Lib.hid (RInt.set4 HZ.out HN.out (by have := HLnb.out; have := HLib.out; omega) (.int .i64 0) (.bool sg) (.pointer (some ⟨ib, 0, none⟩)) (.int .i64 (-1074)))
    go_wp2
    go_meet
    exact ⟨nb, ib, rfl, Lib.hid (by have := HLnb.out; have := HLib.out; omega), HB1, HI1⟩
  ·refine wpPl_goL rfl rfl fun K' hK => ?_
   go_simp
   have hb1 := Below.alloc_self W2 (.cells #[.int .i64 0, .bool false, .pointer none, .int .i64 0] 87)
   have HN := Lib.hid (BlkT.new W2 #[.int .i64 0, .bool false, .pointer none, .int .i64 0] 87)
   have HLnb : Hid (f0 + 1 < W2.heap.size) := Lib.hid (by have := HK.out.lt _ (.tail _ (.head _)); omega)
   obtain ⟨nb, hnb⟩ : ∃ i, W2.heap.size = i := ⟨_, rfl⟩
   obtain ⟨V6, hV⟩ : ∃ v, W2.alloc (.cells #[.int .i64 0, .bool false, .pointer none, .int .i64 0] 87) = v := ⟨_, rfl⟩
   rw [hV] at hb1 HN
   rw [hnb] at HN HLnb
   rw [hV]
   try rw [hnb]
   clear hV
   replace HK := Lib.hid (HK.out.later hb1)
   clear hnb
   refine hK _ _ ((HK.out.get (.head _)).cells4.1) ?_
   clear hK K' hb1
   try simp only [Act.put, setL]
   repeat (first | (refine tkL (v := ?_) rfl rfl rfl (fun w' hSw => ?_) ((HK.out.get (.head _)).cells4.1) ?_; rotate_left; (focus (go_simp; with_reducible rfl)); simp only [setL]) | (refine wpPl_skipK rfl rfl (fun _ _ _ h => h) rfl ((HK.out.get (.head _)).cells4.1) ?_; simp only [setL]))
   refine wpPl_goL rfl rfl fun K' hK => ?_
   go_simp
   have hb1 := Below.alloc_self V6 (.cells #[.bool false, .slice none 0 0] 67)
   have HZ := Lib.hid (IntK.zero (k := .u32) (s := 32) V6 _ objT_rint)
   have HLib : Hid (f0 + 1 < V6.heap.size ∧ nb < V6.heap.size) := Lib.hid (by have := HK.out.lt _ (.tail _ (.head _)); have := HN.out.lt; omega)
   obtain ⟨ib, hib⟩ : ∃ i, V6.heap.size = i := ⟨_, rfl⟩
   obtain ⟨V7, hV⟩ : ∃ v, V6.alloc (.cells #[.bool false, .slice none 0 0] 67) = v := ⟨_, rfl⟩
   rw [hV] at hb1 HZ
   rw [hib] at HZ HLib
   rw [hV]
   try rw [hib]
   clear hV
   replace HK := Lib.hid (HK.out.later hb1)
   replace HN := Lib.hid (HN.out.below hb1)
   clear hib
   refine hK _ _ ((HK.out.get (.head _)).cells4.1) ?_
   clear hK K' hb1
   try simp only [Act.put, setL]
   repeat (first | (refine tkL (v := ?_) rfl rfl rfl (fun w' hSw => ?_) ((HK.out.get (.head _)).cells4.1) ?_; rotate_left; (focus (go_simp; with_reducible rfl)); simp only [setL]) | (refine wpPl_skipK rfl rfl (fun _ _ _ h => h) rfl ((HK.out.get (.head _)).cells4.1) ?_; simp only [setL]))
   refine wpPl_goL rfl rfl fun K' hK => ?_
   go_simp
   refine (HFS.out ib _ HZ.out.1).mono ?_
   rintro e1 V8 ⟨rfl, hi1, hm1⟩
   have hbs := HLib.out
   replace HK := Lib.hid (HK.out.mod hm1 (fun t m => by have := HLib.out; simp only [List.mem_cons, List.not_mem_nil, or_false] at m; rcases m with rfl | rfl <;> simp <;> omega) (by have := HLib.out; omega))
   replace HN := Lib.hid (HN.out.mod hm1 (by have := HLnb.out; have := HLib.out; omega))
   replace HZ := Lib.hid hi1
   clear hbs hi1 hm1
   refine hK _ _ ((HK.out.get (.head _)).cells4.1) ?_
   clear hK K'
   try simp only [Act.put, setL]
   repeat (first | (refine tkL (v := ?_) rfl rfl rfl (fun w' hSw => ?_) ((HK.out.get (.head _)).cells4.1) ?_; rotate_left; (focus (go_simp; with_reducible rfl)); simp only [setL]) | (refine wpPl_skipK rfl rfl (fun _ _ _ h => h) rfl ((HK.out.get (.head _)).cells4.1) ?_; simp only [setL]))
   refine wpPl_nil ?_
   simp only [drL]
   obtain ⟨⟨k0, k1, k2, k3⟩, k4, k5, k6, k7⟩ := HN.out.cells4
   have HB1 := Lib.hid ((HK.out.cons HN.out).set4 (by have := HLnb.out; omega) (fun t m => by have := HLnb.out; simp only [List.mem_cons, List.not_mem_nil, or_false] at m; rcases m with rfl | rfl <;> simp <;> omega) (.int .i64 0) (.bool sg) (.pointer (some ⟨ib, 0, none⟩)) (.int .i64 (-1074)))
   have HI1 := Lib.hid (RInt.set4 HZ.out HN.out (by have := HLnb.out; have := HLib.out; omega) (.int .i64 0) (.bool sg) (.pointer (some ⟨ib, 0, none⟩)) (.int .i64 (-1074)))
   go_wp2
   go_meet
   exact ⟨nb, ib, rfl, Lib.hid (by have := HLnb.out; have := HLib.out; omega), HB1, HI1⟩
 case rest =>
 clear HK HFS
 obtain ⟨nb, ib, rfl, HL, HK, HI⟩ := hcut
 obtain ⟨⟨c0, c1, c2, c3⟩, -⟩ := (HK.out.get (.tail _ (.head _))).cells4
 obtain ⟨⟨d0, d1, d2, d3⟩, d4, d5, d6, d7⟩ := (HK.out.get (.tail _ (.tail _ (.head _)))).cells4
 obtain ⟨⟨k0, k1, k2, k3⟩, k4, k5, k6, k7⟩ := (HK.out.get (.head _)).cells4
 have hne1 : f0 ≠ nb := by have := HL.out; omega
 have hne2 : f0 + 1 ≠ nb := by have := HL.out; omega
 have hne3 : nb ≠ f0 + 1 := by omega
 have hne4 : nb ≠ f0 := by omega
 by_cases h47 : ex = 2047
 ·obtain ⟨p1, p2, p3, p4⟩ := HP.out.1 h47
  subst h47
  subst p1
  have HQ := Lib.hid (And.intro p2 (And.intro p3 p4))
  clear p2 p3 p4 HP hex
  have HI2 := Lib.hid (RInt.set1 (i := 0) HI.out HK.out.get1 HL.out.2.2 (.int .i64 1))
  have HK2 : Hid (Bks w (wc.setCell ⟨nb, 0, none⟩ (.int .i64 1)) [(nb, 87, #[.int .i64 1, .bool sg, .pointer (some ⟨ib, 0, none⟩), .int .i64 (-1074)]), (f0, 81, #[.int .i64 53, .int .i64 (-1022), .int .i64 1023, .int .i64 11]), (f0 + 1, 87, #[.int .i64 0, .bool false, .pointer none, .int .i64 0])]) := Lib.hid (HK.out.set (by have := HL.out; omega) (fun t m => by have := HL.out; simp only [List.mem_cons, List.not_mem_nil, or_false] at m; rcases m with rfl | rfl <;> simp <;> omega) 0 (.int .i64 1))
  go_upto_region 6 with fail
  clear c0 c1 c2 c3 d0 d1 d2 d3 d4 d5 d6 d7 k0 k1 k2 k3 k4 k5 k6 k7
  generalize World.setCell wc _ _ = W9 at HI2 HK2 ⊢
  obtain ⟨⟨k0, k1, k2, k3⟩, k4, k5, k6, k7⟩ := (HK2.out.get (.head _)).cells4
  obtain ⟨⟨d0, d1, d2, d3⟩, d4, d5, d6, d7⟩ := (HK2.out.get (.tail _ (.tail _ (.head _)))).cells4
  go_wp2
  refine bodyPost_ret (v := .agg #[.int .i64 1, .bool sg, .pointer (some ⟨ib, 0, none⟩), .int .i64 (-1074)]) (by simp [results, Tryz.results151, go_sem, d0, d1, d2, d3]) rfl ⟨ib, by rw [HQ.out.1, HQ.out.2.2], by rw [hf0]; have := HL.out; omega, ?_, ?_⟩
  ·rw [HQ.out.2.1]; exact RInt.set4 HI2.out (HK2.out.get (.tail _ (.tail _ (.head _)))) (by have := HL.out; omega) _ _ _ _
  ·exact (((HK2.out.sub (l' := [(f0 + 1, 87, #[.int .i64 0, .bool false, .pointer none, .int .i64 0])]) (fun t m => .tail _ (.tail _ m))).set4 (by omega) (fun t m => by cases m) (.int .i64 1) (.bool sg) (.pointer (some ⟨ib, 0, none⟩)) (.int .i64 (-1074)))).2
 ·by_cases h00 : ex = 0
  ·obtain ⟨p2, p3, p4⟩ := HP.out.2.1 h00
   subst h00
   have HQ := Lib.hid (And.intro p2 (And.intro p3 p4))
   clear p2 p3 p4 HP hex
   go_upto_region 12 with fail
   clear c0 c1 c2 c3 d0 d1 d2 d3 d4 d5 d6 d7 k0 k1 k2 k3 k4 k5 k6 k7
   obtain ⟨⟨k0, k1, k2, k3⟩, k4, k5, k6, k7⟩ := (HK.out.get (.head _)).cells4
   obtain ⟨⟨d0, d1, d2, d3⟩, d4, d5, d6, d7⟩ := (HK.out.get (.tail _ (.tail _ (.head _)))).cells4
   go_wp2
   refine bodyPost_ret (v := .agg #[.int .i64 0, .bool sg, .pointer (some ⟨ib, 0, none⟩), .int .i64 (-1074)]) (by simp [results, Tryz.results151, go_sem, d0, d1, d2, d3]) rfl ⟨ib, by rw [HQ.out.1, HQ.out.2.2], by rw [hf0]; have := HL.out; omega, ?_, ?_⟩
   ·rw [HQ.out.2.1]; exact RInt.set4 HI.out (HK.out.get (.tail _ (.tail _ (.head _)))) (by have := HL.out; omega) _ _ _ _
   ·exact (((HK.out.sub (l' := [(f0 + 1, 87, #[.int .i64 0, .bool false, .pointer none, .int .i64 0])]) (fun t m => .tail _ (.tail _ m))).set4 (by omega) (fun t m => by cases m) (.int .i64 0) (.bool sg) (.pointer (some ⟨ib, 0, none⟩)) (.int .i64 (-1074)))).2
  ·obtain ⟨p2, p3, p4⟩ := HP.out.2.2 h47 h00
   have HQ := Lib.hid (And.intro p2 (And.intro p3 p4))
   clear p2 p3 p4 HP hex
   have hpos : 0 < ex := by omega
   obtain ⟨E, hE⟩ : ∃ t : Int, (ex : Int) - 1075 = t := ⟨_, rfl⟩
   rw [hE] at HQ
   go_wp2_with fail
   refine (HFM.out ib _ HI.out.1).mono ?_
   rintro e1 W9 ⟨rfl, hi1, hm1⟩
   have HK2 := Lib.hid (HK.out.mod hm1 (fun t m => by have := HL.out; simp only [List.mem_cons, List.not_mem_nil, or_false] at m; rcases m with rfl | rfl | rfl <;> simp <;> omega) (by have := HL.out; omega))
   have HI2 := Lib.hid hi1
   clear hi1 hm1
   clear c0 c1 c2 c3 d0 d1 d2 d3 d4 d5 d6 d7 k0 k1 k2 k3 k4 k5 k6 k7
   obtain ⟨⟨c0, c1, c2, c3⟩, -⟩ := (HK2.out.get (.tail _ (.head _))).cells4
   obtain ⟨⟨k0, k1, k2, k3⟩, k4, k5, k6, k7⟩ := (HK2.out.get (.head _)).cells4
   have HI3 := Lib.hid (RInt.set1 (i := 3) HI2.out HK2.out.get1 HL.out.2.2 (.int .i64 E))
   have HK3 : Hid (Bks w (W9.setCell ⟨nb, 3, none⟩ (.int .i64 E)) [(nb, 87, #[.int .i64 0, .bool sg, .pointer (some ⟨ib, 0, none⟩), .int .i64 E]), (f0, 81, #[.int .i64 53, .int .i64 (-1022), .int .i64 1023, .int .i64 11]), (f0 + 1, 87, #[.int .i64 0, .bool false, .pointer none, .int .i64 0])]) := Lib.hid (HK2.out.set (by have := HL.out; omega) (fun t m => by have := HL.out; simp only [List.mem_cons, List.not_mem_nil, or_false] at m; rcases m with rfl | rfl <;> simp <;> omega) 3 (.int .i64 E))
   have hE2 : (ex : Int) - 1 + -1022 - 53 + 1 = E := by omega
   have hE3 : (ex : Int) - 1 - 1022 - 53 + 1 = E := by omega
   go_upto_region 12 with fail
   clear c0 c1 c2 c3 k0 k1 k2 k3 k4 k5 k6 k7
   generalize World.setCell W9 _ _ = W10 at HI3 HK3 ⊢
   obtain ⟨⟨k0, k1, k2, k3⟩, k4, k5, k6, k7⟩ := (HK3.out.get (.head _)).cells4
   obtain ⟨⟨d0, d1, d2, d3⟩, d4, d5, d6, d7⟩ := (HK3.out.get (.tail _ (.tail _ (.head _)))).cells4
   go_wp2
   refine bodyPost_ret (v := .agg #[.int .i64 0, .bool sg, .pointer (some ⟨ib, 0, none⟩), .int .i64 E]) (by simp [results, Tryz.results151, go_sem, d0, d1, d2, d3]) rfl ⟨ib, by rw [HQ.out.1, HQ.out.2.2], by rw [hf0]; have := HL.out; omega, ?_, ?_⟩
   ·rw [HQ.out.2.1]; exact RInt.set4 HI3.out (HK3.out.get (.tail _ (.tail _ (.head _)))) (by have := HL.out; omega) _ _ _ _
   ·exact (((HK3.out.sub (l' := [(f0 + 1, 87, #[.int .i64 0, .bool false, .pointer none, .int .i64 0])]) (fun t m => .tail _ (.tail _ m))).set4 (by omega) (fun t m => by cases m) (.int .i64 0) (.bool sg) (.pointer (some ⟨ib, 0, none⟩)) (.int .i64 E))).2
end
section
open Go.RowKit
set_option maxRecDepth 100000 in
set_option maxHeartbeats 1600000 in
theorem cOf_any (b : Nat) (w : World) (hb : W64 b) (hn : nanB b = false) : Calls Tryz.prog 112 #[.int .u64 (b : Nat)] w (NumNew (kndB b) (sgnB b) (mntB b : Nat) (xpnB b) w) := by
 have HD := Lib.hid fun W => cDouble_any W
 have HT := Lib.hid fun W => cTake_any b W hb hn
 have HK := Lib.hid ((Bks.nil w).alloc #[.int .i64 0, .bool false, .pointer none, .int .i64 0] 87)
 go_enter Tryz.func112, Tryz.ntmps112
 go_wp2_with fail
 refine (HD.out _).mono ?_
 rintro e0 w0 ⟨rfl, hb0⟩
 replace HK := Lib.hid (HK.out.later hb0)
 clear hb0
 go_wp2_with fail
 refine (HT.out _).mono ?_
 rintro e9 w9 ⟨p, rfl, hp, hi, hb9⟩
 have HL : Hid (w.heap.size < p) := Lib.hid (by have := HK.out.lt _ (.head _); omega)
 replace HK := Lib.hid (HK.out.later hb9)
 have HI := Lib.hid hi
 clear hp hi hb9
 unfold NumV
 obtain ⟨⟨d0, d1, d2, d3⟩, d4, d5, d6, d7⟩ := (HK.out.get (.head _)).cells4
 go_wp2
 refine bodyPost_ret (v := .agg #[.int .i64 (kndB b), .bool (sgnB b), .pointer (some ⟨p, 0, none⟩), .int .i64 (xpnB b)]) (by simp [results, Tryz.results112, go_sem, d0, d1, d2, d3]) rfl ⟨p, rfl, Nat.le_of_lt HL.out, RInt.set4 HI.out (HK.out.get (.head _)) (Nat.ne_of_gt HL.out) _ _ _ _, (HK.out.set4 (Nat.le_refl _) (fun t m => by cases m) (.int .i64 (kndB b)) (.bool (sgnB b)) (.pointer (some ⟨p, 0, none⟩)) (.int .i64 (xpnB b))).2⟩
set_option maxRecDepth 100000 in
set_option maxHeartbeats 1600000 in
theorem cnum_any (b : Nat) (w : World) (hb : W64 b) (hn : nanB b = false) : Calls Tryz.prog 69 #[.float .f64 b] w (NumNew (kndB b) (sgnB b) (mntB b : Nat) (xpnB b) w) := by
 have HO := Lib.hid fun W => cOf_any b W hb hn
 have h1 := fbits_eq b
 have HK := Lib.hid ((Bks.nil w).alloc #[.int .i64 0, .bool false, .pointer none, .int .i64 0] 87)
 go_enter Tryz.func69, Tryz.ntmps69
 go_wp2_with fail
 refine (HO.out _).mono ?_
 rintro e9 w9 ⟨p, rfl, hp, hi, hb9⟩
 have HL : Hid (w.heap.size < p) := Lib.hid (by have := HK.out.lt _ (.head _); omega)
 replace HK := Lib.hid (HK.out.later hb9)
 have HI := Lib.hid hi
 clear hp hi hb9
 unfold NumV
 obtain ⟨⟨d0, d1, d2, d3⟩, d4, d5, d6, d7⟩ := (HK.out.get (.head _)).cells4
 go_wp2
 refine bodyPost_ret (v := .agg #[.int .i64 (kndB b), .bool (sgnB b), .pointer (some ⟨p, 0, none⟩), .int .i64 (xpnB b)]) (by simp [results, Tryz.results69, go_sem, d0, d1, d2, d3]) rfl ⟨p, rfl, Nat.le_of_lt HL.out, RInt.set4 HI.out (HK.out.get (.head _)) (Nat.ne_of_gt HL.out) _ _ _ _, (HK.out.set4 (Nat.le_refl _) (fun t m => by cases m) (.int .i64 (kndB b)) (.bool (sgnB b)) (.pointer (some ⟨p, 0, none⟩)) (.int .i64 (xpnB b))).2⟩
set_option maxRecDepth 100000 in
set_option maxHeartbeats 1600000 in
theorem cnumber_any (b : Nat) (fl : Int) (w : World) : Calls Tryz.prog 67 #[.int .u64 (b : Nat), .int .i64 fl] w (Gives (.float .f64 b) w) := by
 have h1 := ffrom_eq b
 go_enter Tryz.func67, Tryz.ntmps67
 go_wp2
 go_ret
 exact ⟨rfl, Below.refl _ _⟩
set_option maxRecDepth 100000 in
set_option maxHeartbeats 1600000 in
theorem cIsZero_any (neg : Bool) (p N : Nat) (e : Int) (w : World) (hp : RInt w p (N : Int)) : Calls Tryz.prog 89 #[NumV 0 neg p e] w (Gives (.bool (decide (N = 0))) w) := by
 have HP := Lib.hid hp
 have HK := Lib.hid ((Bks.nil w).alloc #[.int .i64 0, .bool neg, .pointer (some ⟨p, 0, none⟩), .int .i64 e] 87)
 have HS := Lib.hid fun W h => rSign_any p 0 (N : Int) W h
 have hsg : ((N : Int).sign == 0) = decide (N = 0) := by by_cases h : N = 0 <;> simp [h]
 generalize (N : Int).sign = sg at *
 generalize decide (N = 0) = b at *
 clear hp
 unfold NumV
 go_enter Tryz.func89, Tryz.ntmps89
 obtain ⟨⟨c0, c1, c2, c3⟩, -⟩ := (HK.out.get (.head _)).cells4
 go_wp2_with fail
 refine (HS.out _ (HP.out.below HK.out.2)).mono ?_
 rintro e1 w1 ⟨rfl, rfl⟩
 go_wp2
 go_ret
 exact ⟨rfl, HK.out.2⟩
def IntNew (z : Int) (w : World) (en : Ending) (w' : World) : Prop := ∃ b, en = .returned (.pointer (some ⟨b, 0, none⟩)) ∧ w.heap.size ≤ b ∧ RInt w' b z ∧ Below w.heap.size w w'
set_option maxRecDepth 100000 in
set_option maxHeartbeats 1600000 in
theorem cSigned_any (k : Int) (neg : Bool) (p N : Nat) (E e : Int) (w : World) (hp : RInt w p (N : Int)) (he : e ≤ E) (hE : E - e ≤ 16777216) (hl : ln 32 N ≤ 1048576) :
  Calls Tryz.prog 109 #[NumV k neg p E, .int .i64 e] w (IntNew (sgI neg N * 2 ^ (E - e).toNat) w) := by
 obtain ⟨s, hs⟩ : ∃ s : Nat, E - e = s := ⟨(E - e).toNat, by omega⟩
 have HP := Lib.hid hp
 have hsl : s ≤ 16777216 := by omega
 have HLS := Lib.hid fun b W h1 h2 => rLsh_any b 0 p 0 s (N : Int) W h1 h2 (by rw [Int.natAbs_natCast]; omega) (by omega)
 have HZ : Hid (sgI neg N * 2 ^ (E - e).toNat = if neg then -((N : Int) * 2 ^ s) else (N : Int) * 2 ^ s) := Lib.hid (by rw [hs, Int.toNat_natCast]; cases neg <;> simp [sgI, Int.neg_mul])
 have HK := Lib.hid ((Bks.nil w).alloc #[.int .i64 k, .bool neg, .pointer (some ⟨p, 0, none⟩), .int .i64 E] 87)
 have hw : IntKind.i64.wrap (E - e) = (s : Int) := by rw [hs]; exact IntWalk.i64_in _ (by omega)
 generalize sgI neg N * 2 ^ (E - e).toNat = Z at *
 obtain ⟨T, hT⟩ : ∃ t : Int, (N : Int) * 2 ^ s = t := ⟨_, rfl⟩
 rw [hT] at HLS HZ
 clear hp hl hT
 unfold NumV IntNew
 obtain ⟨f0, hf0⟩ : ∃ f, w.heap.size = f := ⟨_, rfl⟩
 rw [hf0] at HK
 go_enter Tryz.func109, Tryz.ntmps109
 obtain ⟨⟨c0, c1, c2, c3⟩, -⟩ := (HK.out.get (.head _)).cells4
 go_wp2_with fail
 clear c0 c1 c2 c3
 have HJ0 : Hid (Its w _ []) := Lib.hid ⟨fun t m => (by cases m), HK.out.2⟩
 have HJ1 := Lib.hid HJ0.out.alloc
 have hsz : (w.alloc (.cells #[.int .i64 k, .bool neg, .pointer (some ⟨p, 0, none⟩), .int .i64 E] 87)).heap.size = f0 + 1 := by simp [hf0]
 rw [hsz] at HJ1
 have HK1 := Lib.hid (HK.out.later (Below.alloc_self _ (.cells #[.bool false, .slice none 0 0] 67)))
 refine (HLS.out _ _ (HJ1.out.get (.head _)).1 (HP.out.below HJ1.out.2)).mono ?_
 rintro e1 w1 ⟨rfl, hi1, hm1⟩
 have HJ := Lib.hid (HJ1.out.puts (by omega) (fun t m => by cases m) hm1 hi1)
 have HK2 := Lib.hid (HK1.out.mod hm1 (fun t m => by simp only [List.mem_cons, List.not_mem_nil, or_false] at m; subst m; simp) (by omega))
 clear hi1 hm1 hsz HJ0 HJ1 HK1 HK
 obtain ⟨⟨c0, c1, c2, c3⟩, -⟩ := (HK2.out.get (.head _)).cells4
 cases neg
 ·go_wp2
  go_ret
  refine ⟨f0 + 1, rfl, by omega, ?_, HJ.out.2⟩
  rw [HZ.out]; exact HJ.out.get (.head _)
 ·go_wp2_with fail
  refine (rNeg_any (f0 + 1) 0 (f0 + 1) 0 T _ (HJ.out.get (.head _)).1 (HJ.out.get (.head _))).mono ?_
  rintro e2 w2 ⟨rfl, hi2, hm2⟩
  replace HJ := Lib.hid (HJ.out.puts (by omega) (fun t m => by cases m) hm2 hi2)
  clear hi2 hm2 c0 c1 c2 c3
  go_wp2
  go_ret
  refine ⟨f0 + 1, rfl, by omega, ?_, HJ.out.2⟩
  rw [HZ.out]; exact HJ.out.get (.head _)
theorem bl_shl_up (N s : Nat) : bl (N * 2 ^ s) ≤ bl N + s := by
 by_cases h : N = 0
 ·subst h; rw [Nat.zero_mul]; omega
 ·exact Nat.le_of_eq (bl_shlN h)
theorem run_min2 (a b : Int) (ts : Array TypeId) (t : TypeId) (w : World) : (Builtin.min_ ts t #[.int .i64 a, .int .i64 b]).run Tryz.prog w = .ok (.int .i64 (min a b)) w := by
 have e : ∀ x y : Int, (if y < x then y else x) = min x y := by intro x y; split <;> omega
 simp [Builtin.min_, Builtin.min2, e]
theorem Bks.ab4 {w0 W : World} {l : List (Nat × Nat × Array Value)} {c x y t u v : Nat} {cs : Array Value} {a b d e a' b' d' e' : Value} (h : Bks w0 W ((c, t, cs) :: (x, u, #[a, b, d, e]) :: (y, v, #[a', b', d', e']) :: l)) :
  (W.cell? ⟨x, 0, none⟩ = some a ∧ W.cell? ⟨x, 1, none⟩ = some b ∧ W.cell? ⟨x, 2, none⟩ = some d ∧ W.cell? ⟨x, 3, none⟩ = some e) ∧ W.cell? ⟨y, 0, none⟩ = some a' ∧ W.cell? ⟨y, 1, none⟩ = some b' ∧ W.cell? ⟨y, 2, none⟩ = some d' ∧ W.cell? ⟨y, 3, none⟩ = some e' :=
 ⟨(h.get (.tail _ (.head _))).cells4.1, (h.get (.tail _ (.tail _ (.head _)))).cells4.1⟩
def addI (na : Bool) (A : Nat) (ea : Int) (nb : Bool) (B : Nat) (eb : Int) : Int := sgI na A * 2 ^ (ea - min ea eb).toNat + sgI nb B * 2 ^ (eb - min ea eb).toNat
theorem ln_shift {neg : Bool} {N s : Nat} (hl : bl N ≤ 1048576) (hs : s ≤ 16777216) : ln 32 (sgI neg N * 2 ^ s).natAbs ≤ 68719476736 := by
 rw [Int.natAbs_mul, sgI_abs, Int.natAbs_pow]
 exact Nat.le_trans (ln_le_bl 32 _ (by decide)) (Nat.le_trans (bl_shl_up N s) (by omega))
end
section
open Go.RowKit
attribute [local go_sem] run_store_f
theorem knd_fin {x : Nat} (f : finB x = true) : kndB x = 0 := by unfold kndB; rw [f]; rfl
theorem sc_take {x : Nat} (f : finB x = true) {M : Int} (hM : 1074 ≤ M) : sc M (sgI (sgnB x) (mntB x)) (xpnB x) = sc M (valZ x) (pE x) := by
 rw [sc_valZ f M hM]
 unfold mntB xpnB sgI
 rw [f]
 rfl
theorem xpn_bd {x : Nat} (f : finB x = true) : -1074 ≤ xpnB x ∧ xpnB x ≤ 971 := by unfold xpnB; rw [f]; exact expB_bd f
theorem mnt_bd (x : Nat) : bl (mntB x) ≤ 53 := by
 refine bl_le_of_lt ?_
 unfold mntB
 split
 ·exact mantB_lt x
 ·decide
theorem sgI_own (S : Int) : sgI (decide (S < 0)) S.natAbs = S := by
 unfold sgI
 split
 ·rename_i h; have := of_decide_eq_true h; omega
 ·rename_i h; have : ¬ S < 0 := fun t => h (decide_eq_true t); omega
theorem sc_addI {na nb : Bool} {A B : Nat} {ea eb M : Int} (h1 : 0 ≤ ea + M) (h2 : 0 ≤ eb + M) : sc M (addI na A ea nb B eb) (min ea eb) = sc M (sgI na A) ea + sc M (sgI nb B) eb := by
 unfold addI sc
 rw [Int.add_mul, Int.mul_assoc, Int.mul_assoc, ← Int.pow_add, ← Int.pow_add]
 congr 3 <;> congr 1 <;> omega
theorem bl_addI {na nb : Bool} {A B : Nat} {ea eb : Int} {k : Nat} (hA : bl A ≤ k) (hB : bl B ≤ k) : bl (addI na A ea nb B eb).natAbs ≤ k + (ea - eb).natAbs + 1 := by
 have h1 : (addI na A ea nb B eb).natAbs ≤ A * 2 ^ (ea - min ea eb).toNat + B * 2 ^ (eb - min ea eb).toNat := by
  unfold addI
  refine Nat.le_trans (Int.natAbs_add_le _ _) ?_
  rw [Int.natAbs_mul, Int.natAbs_mul, sgI_abs, sgI_abs, Int.natAbs_pow, Int.natAbs_pow]
  exact Nat.le_refl _
 have h2 := bl_add (A * 2 ^ (ea - min ea eb).toNat) (B * 2 ^ (eb - min ea eb).toNat)
 have h3 := bl_mul_two_pow A (ea - min ea eb).toNat
 have h4 := bl_mul_two_pow B (eb - min ea eb).toNat
 have h5 : bl (addI na A ea nb B eb).natAbs ≤ bl (A * 2 ^ (ea - min ea eb).toNat + B * 2 ^ (eb - min ea eb).toNat) := bl_le_of_lt (Nat.lt_of_le_of_lt h1 (lt_bl _))
 omega
theorem ky_same {M z e y f : Int} (mode : Int) (hM : 0 ≤ M) (h1 : 0 ≤ e + M) (h2 : 0 ≤ f + M) (h : sc M z e = sc M y f) : ky (rndX z e mode) = ky (rndX y f mode) :=
 Int.le_antisymm (rndX_rises mode hM h1 h2 (Int.le_of_eq h)) (rndX_rises mode hM h2 h1 (Int.le_of_eq h.symm))
theorem isInf_iv (x : Nat) (w : World) (hx : W64 x) (n : nanB x = false) : Calls Tryz.prog 45 #[.float .f64 x, .int .i64 0] w (Gives (.bool (!finB x)) w) := by
 have h := isInf_any x w hx (num_of n)
 rwa [show decide (x % kSign = kInf) = !finB x by
  have h1 := num_of n
  have h2 : x < 18446744073709551616 := hx
  unfold finB expF
  unfold kInf kSign kHid at *
  rw [Bool.eq_iff_iff]; simp; omega] at h
theorem cnum_fin (x : Nat) (w : World) (hx : W64 x) (f : finB x = true) : Calls Tryz.prog 69 #[.float .f64 x] w (NumNew 0 (sgnB x) (mntB x : Nat) (xpnB x) w) := by
 have h := cnum_any x w hx (nan_fin f)
 rwa [knd_fin f] at h
theorem ne_num {W : World} {x p t : Nat} {n k : Int} {a b c : Value} (h : RInt W p n) (hx : BlkT W x t #[.int .i64 k, a, b, c]) : p ≠ x := by
 intro e
 subst e
 have h1 := h.2.1
 rw [show W.cell? ⟨p, 0, none⟩ = some (.int .i64 k) from hx.cell 0] at h1
 cases h1
end
end Go.Proofs.YtloohbkceppocaaGreatDoor
