/- Walk: the references' Take: a number's parts. Printed by wip/gen/cv6.py. -/
import Derived.Test.YtloohbkceppocaaGreatDoorKE
import Derived.Test.YtloohbkceppocaaGreatDoorGG
import Derived.Test.YtloohbkceppocaaGreatDoorZBks
import Derived.Deep.CutRange
import Derived.Test.YtloohbkceppocaaGreatDoorZIwq
import Derived.Test.YtloohbkceppocaaGreatDoorZIvr
import Derived.Test.YtloohbkceppocaaGreatDoorZIwr
section
namespace Go.Proofs.YtloohbkceppocaaGreatDoor
open Go.RowKit

/-- A number of the references in its parts: finite (0), infinite (1). -/
def NumV (k : Int) (neg : Bool) (p : Nat) (e : Int) : Value := .agg #[.int .i64 k, .bool neg, .pointer (some ⟨p, 0, none⟩), .int .i64 e]
/-- A number's parts, in new memory. -/
def NumNew (k : Int) (neg : Bool) (z : Int) (e : Int) (w : World) (en : Ending) (w' : World) : Prop :=
  ∃ p, en = .returned (NumV k neg p e) ∧ w.heap.size ≤ p ∧ RInt w' p z ∧ Below w.heap.size w w'

theorem BlkT.cells4 {w : World} {b t : Nat} {x y z v : Value} (h : BlkT w b t #[x, y, z, v]) : (w.cell? ⟨b, 0, none⟩ = some x ∧ w.cell? ⟨b, 1, none⟩ = some y ∧ w.cell? ⟨b, 2, none⟩ = some z ∧ w.cell? ⟨b, 3, none⟩ = some v) ∧
    w.frozen? ⟨b, 0, none⟩ = false ∧ w.frozen? ⟨b, 1, none⟩ = false ∧ w.frozen? ⟨b, 2, none⟩ = false ∧ w.frozen? ⟨b, 3, none⟩ = false :=
  ⟨⟨h.cell 0, h.cell 1, h.cell 2, h.cell 3⟩, h.frozen 0, h.frozen 1, h.frozen 2, h.frozen 3⟩
theorem Bks.mod {w0 W V : World} {l : List (Nat × Nat × Array Value)} {q : Nat} (h : Bks w0 W l) (hm : Mod q 0 W V) (hn : ∀ t ∈ l, t.1 ≠ q) (hq : w0.heap.size ≤ q) : Bks w0 V l :=
  ⟨fun t m => (h.1 t m).mod hm (hn t m), Mod.below h.2 hm hq h.2.size⟩
theorem Bks.set4 {w0 W : World} {l : List (Nat × Nat × Array Value)} {x t : Nat} {a b c d : Value} (h : Bks w0 W ((x, t, #[a, b, c, d]) :: l)) (lx : w0.heap.size ≤ x) (hn : ∀ q ∈ l, q.1 ≠ x) (u v y z : Value) :
    Bks w0 ((((W.setCell ⟨x, 0, none⟩ u).setCell ⟨x, 1, none⟩ v).setCell ⟨x, 2, none⟩ y).setCell ⟨x, 3, none⟩ z) ((x, t, #[u, v, y, z]) :: l) :=
  (((h.set lx hn 0 u).set lx hn 1 v).set lx hn 2 y).set lx hn 3 z
theorem objT_num : ObjT 87 := by intro k; cases k <;> decide
theorem RInt.set4 {W : World} {x p : Nat} {n : Int} {a b c d : Value} (h : RInt W p n) (hx : BlkT W x 87 #[a, b, c, d]) (hne : p ≠ x) (u v y z : Value) :
    RInt ((((W.setCell ⟨x, 0, none⟩ u).setCell ⟨x, 1, none⟩ v).setCell ⟨x, 2, none⟩ y).setCell ⟨x, 3, none⟩ z) p n :=
  (((h.setOther hx objT_num hne u).setOther (hx.set (i := 0) u) objT_num hne v).setOther ((hx.set (i := 0) u).set (i := 1) v) objT_num hne y).setOther (((hx.set (i := 0) u).set (i := 1) v).set (i := 2) y) objT_num hne z
theorem RInt.set1 {W : World} {x p i : Nat} {n : Int} {cs : Array Value} (h : RInt W p n) (hx : BlkT W x 87 cs) (hne : p ≠ x) (u : Value) : RInt (W.setCell ⟨x, i, none⟩ u) p n := h.setOther hx objT_num hne u
theorem Bks.get1 {w0 W : World} {l : List (Nat × Nat × Array Value)} {x t : Nat} {cs : Array Value} (h : Bks w0 W ((x, t, cs) :: l)) : BlkT W x t cs := h.get (.head _)

theorem sgn_bit (b : Nat) (h : b < 18446744073709551616) : (bits .and .u64 ((b : Int) / 9223372036854775808) 1 == 1) = sgnB b := by
  have e : (b : Int) / 9223372036854775808 = ((b / 9223372036854775808 : Nat) : Int) := by omega
  rw [e, show (1 : Int) = ((1 : Nat) : Int) from rfl, bits_and_u64_nat _ _ (by omega) (by decide), show (1 : Nat) = 2 ^ 1 - 1 from rfl, Nat.and_two_pow_sub_one_eq_mod]
  unfold sgnB kSign
  by_cases hb : 9223372036854775808 ≤ b
  · rw [decide_eq_true hb, show b / 9223372036854775808 % 2 ^ 1 = 1 by omega]; rfl
  · rw [decide_eq_false hb, show b / 9223372036854775808 % 2 ^ 1 = 0 by omega]; rfl

def kndB (b : Nat) : Int := if finB b then 0 else 1
def mntB (b : Nat) : Nat := if finB b then mantB b else 0
def xpnB (b : Nat) : Int := if finB b then expB b else -1074

theorem or_hidN {f : Nat} (h : f < 4503599627370496) : bits .or .u64 (f : Int) 4503599627370496 = ((f + 4503599627370496 : Nat) : Int) := by
  rw [show (4503599627370496 : Int) = ((4503599627370496 : Nat) : Int) from rfl, bits_or_u64_nat _ _ (by omega) (by decide)]
  congr 1
  have := Nat.two_pow_add_eq_or_of_lt (i := 52) (b := f) h 1
  rw [Nat.or_comm]
  exact this.symm.trans (Nat.add_comm _ _)

theorem take_parts {b fr ex : Nat} (hn : nanB b = false) (hf : b % kHid = fr) (he : expF b = ex) : (ex = 2047 → fr = 0 ∧ kndB b = 1 ∧ mntB b = 0 ∧ xpnB b = -1074) ∧ (ex = 0 → kndB b = 0 ∧ mntB b = fr ∧ xpnB b = -1074) ∧ (ex ≠ 2047 → ex ≠ 0 → kndB b = 0 ∧ mntB b = fr + 4503599627370496 ∧ xpnB b = (ex : Int) - 1075) := by
  have hfin : finB b = decide (ex ≠ 2047) := by unfold finB; rw [he]
  have hfr : fracF b = fr := hf
  unfold kndB mntB xpnB
  rw [hfin]
  refine ⟨fun h => ?_, fun h => ?_, fun h h2 => ?_⟩
  · rw [h]
    refine ⟨?_, rfl, rfl, rfl⟩
    have h3 := num_iff.1 hn
    have h4 : b / kHid % 2048 = 2047 := he.trans h
    unfold kSign kInf kHid at *
    omega
  · rw [h]
    refine ⟨rfl, ?_, ?_⟩
    · show mantB b = fr
      unfold mantB; rw [he, h, if_pos rfl, hfr]
    · show expB b = -1074
      unfold expB; rw [he, h, if_pos rfl]; rfl
  · rw [decide_eq_true h]
    refine ⟨rfl, ?_, ?_⟩
    · show mantB b = _
      unfold mantB; rw [he, if_neg h2, hfr]; rfl
    · show expB b = _
      unfold expB; rw [he, if_neg h2]

set_option maxRecDepth 100000 in
set_option maxHeartbeats 12800000 in
theorem cTake_any (b : Nat) (w : World) (hb : W64 b) (hn : nanB b = false) :
    Calls Tryz.prog 151 #[fmtV, .int .u64 (b : Nat)] w (NumNew (kndB b) (sgnB b) (mntB b : Nat) (xpnB b) w) := by
  have hfr := and_mask52 b hb
  have hex := and_exp b hb
  have hsg := sgn_bit b hb
  have HK := Lib.hid (Bks.new2t w 81 87 #[.int .i64 53, .int .i64 (-1022), .int .i64 1023, .int .i64 11] #[.int .i64 0, .bool false, .pointer none, .int .i64 0])
  obtain ⟨fr, hfr2⟩ : ∃ f, b % kHid = f := ⟨_, rfl⟩
  obtain ⟨ex, hex2⟩ : ∃ f, expF b = f := ⟨_, rfl⟩
  obtain ⟨sg, hsg2⟩ : ∃ f, sgnB b = f := ⟨_, rfl⟩
  rw [hfr2] at hfr
  rw [hex2] at hex
  rw [hsg2] at hsg ⊢
  have hfl : fr < 4503599627370496 := by rw [← hfr2]; exact Nat.mod_lt _ (by decide)
  have hel : ex < 2048 := by rw [← hex2]; unfold expF; omega
  have HP : Hid ((ex = 2047 → fr = 0 ∧ kndB b = 1 ∧ mntB b = 0 ∧ xpnB b = -1074) ∧ (ex = 0 → kndB b = 0 ∧ mntB b = fr ∧ xpnB b = -1074) ∧ (ex ≠ 2047 → ex ≠ 0 → kndB b = 0 ∧ mntB b = fr + 4503599627370496 ∧ xpnB b = (ex : Int) - 1075)) := Lib.hid (take_parts hn hfr2 hex2)
  generalize kndB b = kk at *
  generalize mntB b = mm at *
  generalize xpnB b = xx at *
  have HFS := Lib.hid fun p W h => rSetUint64_any p 0 fr W h (by omega)
  have HFM := Lib.hid fun p W h => rSetUint64_any p 0 (fr + 4503599627370496) W h (by omega)
  have hor : bits .or .u64 (fr : Int) 4503599627370496 = ((fr + 4503599627370496 : Nat) : Int) := or_hidN hfl
  clear hfr2 hex2 hsg2 hn
  have hw1 : IntKind.i64.wrap 52 = 52 := by decide +kernel
  have hw2 : IntKind.i64.wrap 63 = 63 := by decide +kernel
  have hw3 : IntKind.u64.wrap 63 = 63 := by decide +kernel
  have hw4 : IntKind.i64.wrap (-1075) = -1075 := by decide +kernel
  have hw5 : IntKind.i64.wrap (-1074) = -1074 := by decide +kernel
  obtain ⟨f0, hf0⟩ : ∃ f, w.heap.size = f := ⟨_, rfl⟩
  rw [hf0] at HK
  unfold fmtV NumNew NumV at *
  go_enter Tryz.func151, Tryz.ntmps151
  obtain ⟨⟨c0, c1, c2, c3⟩, -⟩ := (HK.out.get (.head _)).cells4
  go_upto_region 3 with fail
  clear c0 c1 c2 c3
  generalize World.alloc (World.alloc w _) _ = W1 at HK ⊢
  go_cut [7] from 29 to 49 (fun nv wx => ∃ nb ib : Nat, nv = .pointer (some ⟨nb, 0, none⟩) ∧ Hid (f0 + 1 < nb ∧ f0 + 1 < ib ∧ ib ≠ nb) ∧ Hid (Bks w wx [(nb, 87, #[.int .i64 0, .bool sg, .pointer (some ⟨ib, 0, none⟩), .int .i64 (-1074)]), (f0, 81, #[.int .i64 53, .int .i64 (-1022), .int .i64 1023, .int .i64 11]), (f0 + 1, 87, #[.int .i64 0, .bool false, .pointer none, .int .i64 0])]) ∧ Hid (RInt wx ib (fr : Int)))
  case first =>
    refine wp_region_pl (fun w' : World => w'.cell? ⟨f0, 0, none⟩ = some (.int .i64 53) ∧ w'.cell? ⟨f0, 1, none⟩ = some (.int .i64 (-1022)) ∧ w'.cell? ⟨f0, 2, none⟩ = some (.int .i64 1023) ∧ w'.cell? ⟨f0, 3, none⟩ = some (.int .i64 11)) 22 (.take 0 (.take 1 (.take 2 (.take 3 (.take 4 (.take 5 (.take 6 (.take 7 (.take 8 (.take 9 (.take 10 (.take 12 (.take 14 (.take 15 (.take 16 (.take 17 (.take 18 (.take 19 (.fork 11 (.fork 13 (.take 20 (.run 21 .nil)) 21 (.run 13 (.take 20 .nil))) 21 (.run 11 (.run 13 (.take 20 .nil)))))))))))))))))))))) (by kernel_rfl) (by kernel_rfl) ?_
    replace HK := Lib.hid (HK.out.later (drew_below _))
    generalize World.drew _ = W2 at HK ⊢
    repeat (first | (refine wpPl_takeL (v := ?_) rfl rfl (fun _ _ _ h => h) rfl (fun w' hSw => ?_) ((HK.out.get (.head _)).cells4.1) ?_; rotate_left; (focus (go_simp; with_reducible rfl)); simp only [setL]) | (refine wpPl_skipK rfl rfl (fun _ _ _ h => h) rfl ((HK.out.get (.head _)).cells4.1) ?_; simp only [setL]))
    refine wpPl_fork ?_ ?_
    · refine wpPl_goL rfl rfl fun K' hK => ?_
      go_simp
      have hb1 := Below.alloc_self W2 (.cells #[.bool false, .slice none 0 0] 67)
      have HZ := Lib.hid (IntK.zero (k := .u32) (s := 32) W2 _ objT_rint)
      have HLib : Hid (f0 + 1 < W2.heap.size) := Lib.hid (by have := HK.out.lt _ (.tail _ (.head _)); omega)
      obtain ⟨ib, hib⟩ : ∃ i, W2.heap.size = i := ⟨_, rfl⟩
      obtain ⟨V1, hV⟩ : ∃ v, W2.alloc (.cells #[.bool false, .slice none 0 0] 67) = v := ⟨_, rfl⟩
      rw [hV] at hb1 HZ
      rw [hib] at HZ HLib
      rw [hV]
      try rw [hib]
      clear hV
      replace HK := Lib.hid (HK.out.later hb1)
      clear hib
      refine hK _ _ ((HK.out.get (.head _)).cells4.1) ?_
      clear hK K' hb1
      try simp only [Act.put, setL]
      repeat (first | (refine wpPl_takeL (v := ?_) rfl rfl (fun _ _ _ h => h) rfl (fun w' hSw => ?_) ((HK.out.get (.head _)).cells4.1) ?_; rotate_left; (focus (go_simp; with_reducible rfl)); simp only [setL]) | (refine wpPl_skipK rfl rfl (fun _ _ _ h => h) rfl ((HK.out.get (.head _)).cells4.1) ?_; simp only [setL]))
      refine wpPl_fork ?_ ?_
      · refine wpPl_goL rfl rfl fun K' hK => ?_
        go_simp
        refine (HFS.out ib _ HZ.out.1).mono ?_
        rintro e1 V2 ⟨rfl, hi1, hm1⟩
        have hbs := HLib.out
        replace HK := Lib.hid (HK.out.mod hm1 (fun t m => by have := HLib.out; simp only [List.mem_cons, List.not_mem_nil, or_false] at m; rcases m with rfl | rfl <;> simp <;> omega) (by have := HLib.out; omega))
        replace HZ := Lib.hid hi1
        clear hbs hi1 hm1
        refine hK _ _ ((HK.out.get (.head _)).cells4.1) ?_
        clear hK K'
        try simp only [Act.put, setL]
        repeat (first | (refine wpPl_takeL (v := ?_) rfl rfl (fun _ _ _ h => h) rfl (fun w' hSw => ?_) ((HK.out.get (.head _)).cells4.1) ?_; rotate_left; (focus (go_simp; with_reducible rfl)); simp only [setL]) | (refine wpPl_skipK rfl rfl (fun _ _ _ h => h) rfl ((HK.out.get (.head _)).cells4.1) ?_; simp only [setL]))
        refine wpPl_goL rfl rfl fun K' hK => ?_
        go_simp
        have hb1 := Below.alloc_self V2 (.cells #[.int .i64 0, .bool false, .pointer none, .int .i64 0] 87)
        have HN := Lib.hid (BlkT.new V2 #[.int .i64 0, .bool false, .pointer none, .int .i64 0] 87)
        have HLnb : Hid (f0 + 1 < V2.heap.size ∧ ib < V2.heap.size) := Lib.hid (by have := HK.out.lt _ (.tail _ (.head _)); have := HZ.out.1.1; omega)
        obtain ⟨nb, hnb⟩ : ∃ i, V2.heap.size = i := ⟨_, rfl⟩
        obtain ⟨V3, hV⟩ : ∃ v, V2.alloc (.cells #[.int .i64 0, .bool false, .pointer none, .int .i64 0] 87) = v := ⟨_, rfl⟩
        rw [hV] at hb1 HN
        rw [hnb] at HN HLnb
        rw [hV]
        try rw [hnb]
        clear hV
        replace HK := Lib.hid (HK.out.later hb1)
        replace HZ := Lib.hid (HZ.out.below hb1)
        clear hnb
        refine hK _ _ ((HK.out.get (.head _)).cells4.1) ?_
        clear hK K' hb1
        try simp only [Act.put, setL]
        repeat (first | (refine wpPl_takeL (v := ?_) rfl rfl (fun _ _ _ h => h) rfl (fun w' hSw => ?_) ((HK.out.get (.head _)).cells4.1) ?_; rotate_left; (focus (go_simp; with_reducible rfl)); simp only [setL]) | (refine wpPl_skipK rfl rfl (fun _ _ _ h => h) rfl ((HK.out.get (.head _)).cells4.1) ?_; simp only [setL]))
        refine wpPl_nil ?_
        simp only [List.drop_succ_cons, List.drop_zero]
        obtain ⟨⟨k0, k1, k2, k3⟩, k4, k5, k6, k7⟩ := HN.out.cells4
        have HB1 := Lib.hid ((HK.out.cons HN.out).set4 (by have := HLnb.out; omega) (fun t m => by have := HLnb.out; simp only [List.mem_cons, List.not_mem_nil, or_false] at m; rcases m with rfl | rfl <;> simp <;> omega) (.int .i64 0) (.bool sg) (.pointer (some ⟨ib, 0, none⟩)) (.int .i64 (-1074)))
        have HI1 := Lib.hid (RInt.set4 HZ.out HN.out (by have := HLnb.out; have := HLib.out; omega) (.int .i64 0) (.bool sg) (.pointer (some ⟨ib, 0, none⟩)) (.int .i64 (-1074)))
        go_wp2
        go_meet
        exact ⟨nb, ib, rfl, Lib.hid (by have := HLnb.out; have := HLib.out; omega), HB1, HI1⟩
      · refine wpPl_goL rfl rfl fun K' hK => ?_
        go_simp
        have hb1 := Below.alloc_self V1 (.cells #[.int .i64 0, .bool false, .pointer none, .int .i64 0] 87)
        have HN := Lib.hid (BlkT.new V1 #[.int .i64 0, .bool false, .pointer none, .int .i64 0] 87)
        have HLnb : Hid (f0 + 1 < V1.heap.size ∧ ib < V1.heap.size) := Lib.hid (by have := HK.out.lt _ (.tail _ (.head _)); have := HZ.out.1.1; omega)
        obtain ⟨nb, hnb⟩ : ∃ i, V1.heap.size = i := ⟨_, rfl⟩
        obtain ⟨V4, hV⟩ : ∃ v, V1.alloc (.cells #[.int .i64 0, .bool false, .pointer none, .int .i64 0] 87) = v := ⟨_, rfl⟩
        rw [hV] at hb1 HN
        rw [hnb] at HN HLnb
        rw [hV]
        try rw [hnb]
        clear hV
        replace HK := Lib.hid (HK.out.later hb1)
        replace HZ := Lib.hid (HZ.out.below hb1)
        clear hnb
        refine hK _ _ ((HK.out.get (.head _)).cells4.1) ?_
        clear hK K' hb1
        try simp only [Act.put, setL]
        repeat (first | (refine wpPl_takeL (v := ?_) rfl rfl (fun _ _ _ h => h) rfl (fun w' hSw => ?_) ((HK.out.get (.head _)).cells4.1) ?_; rotate_left; (focus (go_simp; with_reducible rfl)); simp only [setL]) | (refine wpPl_skipK rfl rfl (fun _ _ _ h => h) rfl ((HK.out.get (.head _)).cells4.1) ?_; simp only [setL]))
        refine wpPl_goL rfl rfl fun K' hK => ?_
        go_simp
        refine (HFS.out ib _ HZ.out.1).mono ?_
        rintro e1 V5 ⟨rfl, hi1, hm1⟩
        have hbs := HLib.out
        replace HK := Lib.hid (HK.out.mod hm1 (fun t m => by have := HLib.out; simp only [List.mem_cons, List.not_mem_nil, or_false] at m; rcases m with rfl | rfl <;> simp <;> omega) (by have := HLib.out; omega))
        replace HN := Lib.hid (HN.out.mod hm1 (by have := HLnb.out; have := HLib.out; omega))
        replace HZ := Lib.hid hi1
        clear hbs hi1 hm1
        refine hK _ _ ((HK.out.get (.head _)).cells4.1) ?_
        clear hK K'
        try simp only [Act.put, setL]
        repeat (first | (refine wpPl_takeL (v := ?_) rfl rfl (fun _ _ _ h => h) rfl (fun w' hSw => ?_) ((HK.out.get (.head _)).cells4.1) ?_; rotate_left; (focus (go_simp; with_reducible rfl)); simp only [setL]) | (refine wpPl_skipK rfl rfl (fun _ _ _ h => h) rfl ((HK.out.get (.head _)).cells4.1) ?_; simp only [setL]))
        refine wpPl_nil ?_
        simp only [List.drop_succ_cons, List.drop_zero]
        obtain ⟨⟨k0, k1, k2, k3⟩, k4, k5, k6, k7⟩ := HN.out.cells4
        have HB1 := Lib.hid ((HK.out.cons HN.out).set4 (by have := HLnb.out; omega) (fun t m => by have := HLnb.out; simp only [List.mem_cons, List.not_mem_nil, or_false] at m; rcases m with rfl | rfl <;> simp <;> omega) (.int .i64 0) (.bool sg) (.pointer (some ⟨ib, 0, none⟩)) (.int .i64 (-1074)))
        have HI1 := Lib.hid (RInt.set4 HZ.out HN.out (by have := HLnb.out; have := HLib.out; omega) (.int .i64 0) (.bool sg) (.pointer (some ⟨ib, 0, none⟩)) (.int .i64 (-1074)))
        go_wp2
        go_meet
        exact ⟨nb, ib, rfl, Lib.hid (by have := HLnb.out; have := HLib.out; omega), HB1, HI1⟩
    · refine wpPl_goL rfl rfl fun K' hK => ?_
      go_simp
      have hb1 := Below.alloc_self W2 (.cells #[.int .i64 0, .bool false, .pointer none, .int .i64 0] 87)
      have HN := Lib.hid (BlkT.new W2 #[.int .i64 0, .bool false, .pointer none, .int .i64 0] 87)
      have HLnb : Hid (f0 + 1 < W2.heap.size) := Lib.hid (by have := HK.out.lt _ (.tail _ (.head _)); omega)
      obtain ⟨nb, hnb⟩ : ∃ i, W2.heap.size = i := ⟨_, rfl⟩
      obtain ⟨V6, hV⟩ : ∃ v, W2.alloc (.cells #[.int .i64 0, .bool false, .pointer none, .int .i64 0] 87) = v := ⟨_, rfl⟩
      rw [hV] at hb1 HN
      rw [hnb] at HN HLnb
      rw [hV]
      try rw [hnb]
      clear hV
      replace HK := Lib.hid (HK.out.later hb1)
      clear hnb
      refine hK _ _ ((HK.out.get (.head _)).cells4.1) ?_
      clear hK K' hb1
      try simp only [Act.put, setL]
      repeat (first | (refine wpPl_takeL (v := ?_) rfl rfl (fun _ _ _ h => h) rfl (fun w' hSw => ?_) ((HK.out.get (.head _)).cells4.1) ?_; rotate_left; (focus (go_simp; with_reducible rfl)); simp only [setL]) | (refine wpPl_skipK rfl rfl (fun _ _ _ h => h) rfl ((HK.out.get (.head _)).cells4.1) ?_; simp only [setL]))
      refine wpPl_goL rfl rfl fun K' hK => ?_
      go_simp
      have hb1 := Below.alloc_self V6 (.cells #[.bool false, .slice none 0 0] 67)
      have HZ := Lib.hid (IntK.zero (k := .u32) (s := 32) V6 _ objT_rint)
      have HLib : Hid (f0 + 1 < V6.heap.size ∧ nb < V6.heap.size) := Lib.hid (by have := HK.out.lt _ (.tail _ (.head _)); have := HN.out.lt; omega)
      obtain ⟨ib, hib⟩ : ∃ i, V6.heap.size = i := ⟨_, rfl⟩
      obtain ⟨V7, hV⟩ : ∃ v, V6.alloc (.cells #[.bool false, .slice none 0 0] 67) = v := ⟨_, rfl⟩
      rw [hV] at hb1 HZ
      rw [hib] at HZ HLib
      rw [hV]
      try rw [hib]
      clear hV
      replace HK := Lib.hid (HK.out.later hb1)
      replace HN := Lib.hid (HN.out.below hb1)
      clear hib
      refine hK _ _ ((HK.out.get (.head _)).cells4.1) ?_
      clear hK K' hb1
      try simp only [Act.put, setL]
      repeat (first | (refine wpPl_takeL (v := ?_) rfl rfl (fun _ _ _ h => h) rfl (fun w' hSw => ?_) ((HK.out.get (.head _)).cells4.1) ?_; rotate_left; (focus (go_simp; with_reducible rfl)); simp only [setL]) | (refine wpPl_skipK rfl rfl (fun _ _ _ h => h) rfl ((HK.out.get (.head _)).cells4.1) ?_; simp only [setL]))
      refine wpPl_goL rfl rfl fun K' hK => ?_
      go_simp
      refine (HFS.out ib _ HZ.out.1).mono ?_
      rintro e1 V8 ⟨rfl, hi1, hm1⟩
      have hbs := HLib.out
      replace HK := Lib.hid (HK.out.mod hm1 (fun t m => by have := HLib.out; simp only [List.mem_cons, List.not_mem_nil, or_false] at m; rcases m with rfl | rfl <;> simp <;> omega) (by have := HLib.out; omega))
      replace HN := Lib.hid (HN.out.mod hm1 (by have := HLnb.out; have := HLib.out; omega))
      replace HZ := Lib.hid hi1
      clear hbs hi1 hm1
      refine hK _ _ ((HK.out.get (.head _)).cells4.1) ?_
      clear hK K'
      try simp only [Act.put, setL]
      repeat (first | (refine wpPl_takeL (v := ?_) rfl rfl (fun _ _ _ h => h) rfl (fun w' hSw => ?_) ((HK.out.get (.head _)).cells4.1) ?_; rotate_left; (focus (go_simp; with_reducible rfl)); simp only [setL]) | (refine wpPl_skipK rfl rfl (fun _ _ _ h => h) rfl ((HK.out.get (.head _)).cells4.1) ?_; simp only [setL]))
      refine wpPl_nil ?_
      simp only [List.drop_succ_cons, List.drop_zero]
      obtain ⟨⟨k0, k1, k2, k3⟩, k4, k5, k6, k7⟩ := HN.out.cells4
      have HB1 := Lib.hid ((HK.out.cons HN.out).set4 (by have := HLnb.out; omega) (fun t m => by have := HLnb.out; simp only [List.mem_cons, List.not_mem_nil, or_false] at m; rcases m with rfl | rfl <;> simp <;> omega) (.int .i64 0) (.bool sg) (.pointer (some ⟨ib, 0, none⟩)) (.int .i64 (-1074)))
      have HI1 := Lib.hid (RInt.set4 HZ.out HN.out (by have := HLnb.out; have := HLib.out; omega) (.int .i64 0) (.bool sg) (.pointer (some ⟨ib, 0, none⟩)) (.int .i64 (-1074)))
      go_wp2
      go_meet
      exact ⟨nb, ib, rfl, Lib.hid (by have := HLnb.out; have := HLib.out; omega), HB1, HI1⟩
  case rest =>
  clear HK HFS
  obtain ⟨nb, ib, rfl, HL, HK, HI⟩ := hcut
  obtain ⟨⟨c0, c1, c2, c3⟩, -⟩ := (HK.out.get (.tail _ (.head _))).cells4
  obtain ⟨⟨d0, d1, d2, d3⟩, d4, d5, d6, d7⟩ := (HK.out.get (.tail _ (.tail _ (.head _)))).cells4
  obtain ⟨⟨k0, k1, k2, k3⟩, k4, k5, k6, k7⟩ := (HK.out.get (.head _)).cells4
  have hne1 : f0 ≠ nb := by have := HL.out; omega
  have hne2 : f0 + 1 ≠ nb := by have := HL.out; omega
  have hne3 : nb ≠ f0 + 1 := by omega
  have hne4 : nb ≠ f0 := by omega
  by_cases h47 : ex = 2047
  · obtain ⟨p1, p2, p3, p4⟩ := HP.out.1 h47
    subst h47
    subst p1
    have HQ := Lib.hid (And.intro p2 (And.intro p3 p4))
    clear p2 p3 p4 HP hex
    have HI2 := Lib.hid (RInt.set1 (i := 0) HI.out HK.out.get1 HL.out.2.2 (.int .i64 1))
    have HK2 : Hid (Bks w (wc.setCell ⟨nb, 0, none⟩ (.int .i64 1)) [(nb, 87, #[.int .i64 1, .bool sg, .pointer (some ⟨ib, 0, none⟩), .int .i64 (-1074)]), (f0, 81, #[.int .i64 53, .int .i64 (-1022), .int .i64 1023, .int .i64 11]), (f0 + 1, 87, #[.int .i64 0, .bool false, .pointer none, .int .i64 0])]) := Lib.hid (HK.out.set (by have := HL.out; omega) (fun t m => by have := HL.out; simp only [List.mem_cons, List.not_mem_nil, or_false] at m; rcases m with rfl | rfl <;> simp <;> omega) 0 (.int .i64 1))
    go_upto_region 6 with fail
    clear c0 c1 c2 c3 d0 d1 d2 d3 d4 d5 d6 d7 k0 k1 k2 k3 k4 k5 k6 k7
    generalize World.setCell wc _ _ = W9 at HI2 HK2 ⊢
    obtain ⟨⟨k0, k1, k2, k3⟩, k4, k5, k6, k7⟩ := (HK2.out.get (.head _)).cells4
    obtain ⟨⟨d0, d1, d2, d3⟩, d4, d5, d6, d7⟩ := (HK2.out.get (.tail _ (.tail _ (.head _)))).cells4
    go_wp2
    refine bodyPost_ret (v := .agg #[.int .i64 1, .bool sg, .pointer (some ⟨ib, 0, none⟩), .int .i64 (-1074)]) (by simp [results, Tryz.results151, go_sem, d0, d1, d2, d3]) rfl ⟨ib, by rw [HQ.out.1, HQ.out.2.2], by rw [hf0]; have := HL.out; omega, ?_, ?_⟩
    · rw [HQ.out.2.1]; exact RInt.set4 HI2.out (HK2.out.get (.tail _ (.tail _ (.head _)))) (by have := HL.out; omega) _ _ _ _
    · exact (((HK2.out.sub (l' := [(f0 + 1, 87, #[.int .i64 0, .bool false, .pointer none, .int .i64 0])]) (fun t m => .tail _ (.tail _ m))).set4 (by omega) (fun t m => by cases m) (.int .i64 1) (.bool sg) (.pointer (some ⟨ib, 0, none⟩)) (.int .i64 (-1074)))).2
  · by_cases h00 : ex = 0
    · obtain ⟨p2, p3, p4⟩ := HP.out.2.1 h00
      subst h00
      have HQ := Lib.hid (And.intro p2 (And.intro p3 p4))
      clear p2 p3 p4 HP hex
      go_upto_region 12 with fail
      clear c0 c1 c2 c3 d0 d1 d2 d3 d4 d5 d6 d7 k0 k1 k2 k3 k4 k5 k6 k7
      obtain ⟨⟨k0, k1, k2, k3⟩, k4, k5, k6, k7⟩ := (HK.out.get (.head _)).cells4
      obtain ⟨⟨d0, d1, d2, d3⟩, d4, d5, d6, d7⟩ := (HK.out.get (.tail _ (.tail _ (.head _)))).cells4
      go_wp2
      refine bodyPost_ret (v := .agg #[.int .i64 0, .bool sg, .pointer (some ⟨ib, 0, none⟩), .int .i64 (-1074)]) (by simp [results, Tryz.results151, go_sem, d0, d1, d2, d3]) rfl ⟨ib, by rw [HQ.out.1, HQ.out.2.2], by rw [hf0]; have := HL.out; omega, ?_, ?_⟩
      · rw [HQ.out.2.1]; exact RInt.set4 HI.out (HK.out.get (.tail _ (.tail _ (.head _)))) (by have := HL.out; omega) _ _ _ _
      · exact (((HK.out.sub (l' := [(f0 + 1, 87, #[.int .i64 0, .bool false, .pointer none, .int .i64 0])]) (fun t m => .tail _ (.tail _ m))).set4 (by omega) (fun t m => by cases m) (.int .i64 0) (.bool sg) (.pointer (some ⟨ib, 0, none⟩)) (.int .i64 (-1074)))).2
    · obtain ⟨p2, p3, p4⟩ := HP.out.2.2 h47 h00
      have HQ := Lib.hid (And.intro p2 (And.intro p3 p4))
      clear p2 p3 p4 HP hex
      have hpos : 0 < ex := by omega
      obtain ⟨E, hE⟩ : ∃ t : Int, (ex : Int) - 1075 = t := ⟨_, rfl⟩
      rw [hE] at HQ
      go_wp2_with fail
      refine (HFM.out ib _ HI.out.1).mono ?_
      rintro e1 W9 ⟨rfl, hi1, hm1⟩
      have HK2 := Lib.hid (HK.out.mod hm1 (fun t m => by have := HL.out; simp only [List.mem_cons, List.not_mem_nil, or_false] at m; rcases m with rfl | rfl | rfl <;> simp <;> omega) (by have := HL.out; omega))
      have HI2 := Lib.hid hi1
      clear hi1 hm1
      clear c0 c1 c2 c3 d0 d1 d2 d3 d4 d5 d6 d7 k0 k1 k2 k3 k4 k5 k6 k7
      obtain ⟨⟨c0, c1, c2, c3⟩, -⟩ := (HK2.out.get (.tail _ (.head _))).cells4
      obtain ⟨⟨k0, k1, k2, k3⟩, k4, k5, k6, k7⟩ := (HK2.out.get (.head _)).cells4
      have HI3 := Lib.hid (RInt.set1 (i := 3) HI2.out HK2.out.get1 HL.out.2.2 (.int .i64 E))
      have HK3 : Hid (Bks w (W9.setCell ⟨nb, 3, none⟩ (.int .i64 E)) [(nb, 87, #[.int .i64 0, .bool sg, .pointer (some ⟨ib, 0, none⟩), .int .i64 E]), (f0, 81, #[.int .i64 53, .int .i64 (-1022), .int .i64 1023, .int .i64 11]), (f0 + 1, 87, #[.int .i64 0, .bool false, .pointer none, .int .i64 0])]) := Lib.hid (HK2.out.set (by have := HL.out; omega) (fun t m => by have := HL.out; simp only [List.mem_cons, List.not_mem_nil, or_false] at m; rcases m with rfl | rfl <;> simp <;> omega) 3 (.int .i64 E))
      have hE2 : (ex : Int) - 1 + -1022 - 53 + 1 = E := by omega
      have hE3 : (ex : Int) - 1 - 1022 - 53 + 1 = E := by omega
      go_upto_region 12 with fail
      clear c0 c1 c2 c3 k0 k1 k2 k3 k4 k5 k6 k7
      generalize World.setCell W9 _ _ = W10 at HI3 HK3 ⊢
      obtain ⟨⟨k0, k1, k2, k3⟩, k4, k5, k6, k7⟩ := (HK3.out.get (.head _)).cells4
      obtain ⟨⟨d0, d1, d2, d3⟩, d4, d5, d6, d7⟩ := (HK3.out.get (.tail _ (.tail _ (.head _)))).cells4
      go_wp2
      refine bodyPost_ret (v := .agg #[.int .i64 0, .bool sg, .pointer (some ⟨ib, 0, none⟩), .int .i64 E]) (by simp [results, Tryz.results151, go_sem, d0, d1, d2, d3]) rfl ⟨ib, by rw [HQ.out.1, HQ.out.2.2], by rw [hf0]; have := HL.out; omega, ?_, ?_⟩
      · rw [HQ.out.2.1]; exact RInt.set4 HI3.out (HK3.out.get (.tail _ (.tail _ (.head _)))) (by have := HL.out; omega) _ _ _ _
      · exact (((HK3.out.sub (l' := [(f0 + 1, 87, #[.int .i64 0, .bool false, .pointer none, .int .i64 0])]) (fun t m => .tail _ (.tail _ m))).set4 (by omega) (fun t m => by cases m) (.int .i64 0) (.bool sg) (.pointer (some ⟨ib, 0, none⟩)) (.int .i64 E))).2

end Go.Proofs.YtloohbkceppocaaGreatDoor
end

/- Walks: the references' Of, num, signed, Minus, IsZero, Sum. Printed by wip/gen/cv7.py. -/
section
namespace Go.Proofs.YtloohbkceppocaaGreatDoor
open Go.RowKit

set_option maxRecDepth 100000 in
set_option maxHeartbeats 1600000 in
theorem cOf_any (b : Nat) (w : World) (hb : W64 b) (hn : nanB b = false) : Calls Tryz.prog 112 #[.int .u64 (b : Nat)] w (NumNew (kndB b) (sgnB b) (mntB b : Nat) (xpnB b) w) := by
  have HD := Lib.hid fun W => cDouble_any W
  have HT := Lib.hid fun W => cTake_any b W hb hn
  have HK := Lib.hid ((Bks.nil w).alloc #[.int .i64 0, .bool false, .pointer none, .int .i64 0] 87)
  go_enter Tryz.func112, Tryz.ntmps112
  go_wp2_with fail
  refine (HD.out _).mono ?_
  rintro e0 w0 ⟨rfl, hb0⟩
  replace HK := Lib.hid (HK.out.later hb0)
  clear hb0
  go_wp2_with fail
  refine (HT.out _).mono ?_
  rintro e9 w9 ⟨p, rfl, hp, hi, hb9⟩
  have HL : Hid (w.heap.size < p) := Lib.hid (by have := HK.out.lt _ (.head _); omega)
  replace HK := Lib.hid (HK.out.later hb9)
  have HI := Lib.hid hi
  clear hp hi hb9
  unfold NumV
  obtain ⟨⟨d0, d1, d2, d3⟩, d4, d5, d6, d7⟩ := (HK.out.get (.head _)).cells4
  go_wp2
  refine bodyPost_ret (v := .agg #[.int .i64 (kndB b), .bool (sgnB b), .pointer (some ⟨p, 0, none⟩), .int .i64 (xpnB b)]) (by simp [results, Tryz.results112, go_sem, d0, d1, d2, d3]) rfl ⟨p, rfl, Nat.le_of_lt HL.out, RInt.set4 HI.out (HK.out.get (.head _)) (Nat.ne_of_gt HL.out) _ _ _ _, (HK.out.set4 (Nat.le_refl _) (fun t m => by cases m) (.int .i64 (kndB b)) (.bool (sgnB b)) (.pointer (some ⟨p, 0, none⟩)) (.int .i64 (xpnB b))).2⟩

set_option maxRecDepth 100000 in
set_option maxHeartbeats 1600000 in
theorem cnum_any (b : Nat) (w : World) (hb : W64 b) (hn : nanB b = false) : Calls Tryz.prog 69 #[.float .f64 b] w (NumNew (kndB b) (sgnB b) (mntB b : Nat) (xpnB b) w) := by
  have HO := Lib.hid fun W => cOf_any b W hb hn
  have h1 := fbits_eq b
  have HK := Lib.hid ((Bks.nil w).alloc #[.int .i64 0, .bool false, .pointer none, .int .i64 0] 87)
  go_enter Tryz.func69, Tryz.ntmps69
  go_wp2_with fail
  refine (HO.out _).mono ?_
  rintro e9 w9 ⟨p, rfl, hp, hi, hb9⟩
  have HL : Hid (w.heap.size < p) := Lib.hid (by have := HK.out.lt _ (.head _); omega)
  replace HK := Lib.hid (HK.out.later hb9)
  have HI := Lib.hid hi
  clear hp hi hb9
  unfold NumV
  obtain ⟨⟨d0, d1, d2, d3⟩, d4, d5, d6, d7⟩ := (HK.out.get (.head _)).cells4
  go_wp2
  refine bodyPost_ret (v := .agg #[.int .i64 (kndB b), .bool (sgnB b), .pointer (some ⟨p, 0, none⟩), .int .i64 (xpnB b)]) (by simp [results, Tryz.results69, go_sem, d0, d1, d2, d3]) rfl ⟨p, rfl, Nat.le_of_lt HL.out, RInt.set4 HI.out (HK.out.get (.head _)) (Nat.ne_of_gt HL.out) _ _ _ _, (HK.out.set4 (Nat.le_refl _) (fun t m => by cases m) (.int .i64 (kndB b)) (.bool (sgnB b)) (.pointer (some ⟨p, 0, none⟩)) (.int .i64 (xpnB b))).2⟩

set_option maxRecDepth 100000 in
set_option maxHeartbeats 1600000 in
theorem cnumber_any (b : Nat) (fl : Int) (w : World) : Calls Tryz.prog 67 #[.int .u64 (b : Nat), .int .i64 fl] w (Gives (.float .f64 b) w) := by
  have h1 := ffrom_eq b
  go_enter Tryz.func67, Tryz.ntmps67
  go_wp2
  go_ret
  exact ⟨rfl, Below.refl _ _⟩

set_option maxRecDepth 100000 in
set_option maxHeartbeats 1600000 in
theorem cMinus_any (k : Int) (neg : Bool) (p : Nat) (e : Int) (w : World) : Calls Tryz.prog 93 #[NumV k neg p e] w (Gives (NumV k (!neg) p e) w) := by
  have HK := Lib.hid (Bks.new2 w 87 #[.int .i64 k, .bool neg, .pointer (some ⟨p, 0, none⟩), .int .i64 e] #[.int .i64 0, .bool false, .pointer none, .int .i64 0])
  unfold NumV
  go_enter Tryz.func93, Tryz.ntmps93
  obtain ⟨⟨c0, c1, c2, c3⟩, -⟩ := (HK.out.get (.head _)).cells4
  obtain ⟨⟨d0, d1, d2, d3⟩, d4, d5, d6, d7⟩ := (HK.out.get (.tail _ (.head _))).cells4
  go_wp2
  refine bodyPost_ret (v := .agg #[.int .i64 k, .bool (!neg), .pointer (some ⟨p, 0, none⟩), .int .i64 e]) (by simp [results, Tryz.results93, go_sem]) rfl ⟨rfl, ((Below.refl _ w).alloc (Nat.le_refl _) _).alloc (by simp) _⟩

set_option maxRecDepth 100000 in
set_option maxHeartbeats 1600000 in
theorem cIsZero_any (neg : Bool) (p N : Nat) (e : Int) (w : World) (hp : RInt w p (N : Int)) : Calls Tryz.prog 89 #[NumV 0 neg p e] w (Gives (.bool (decide (N = 0))) w) := by
  have HP := Lib.hid hp
  have HK := Lib.hid ((Bks.nil w).alloc #[.int .i64 0, .bool neg, .pointer (some ⟨p, 0, none⟩), .int .i64 e] 87)
  have HS := Lib.hid fun W h => rSign_any p 0 (N : Int) W h
  have hsg : ((N : Int).sign == 0) = decide (N = 0) := by by_cases h : N = 0 <;> simp [h]
  generalize (N : Int).sign = sg at *
  generalize decide (N = 0) = b at *
  clear hp
  unfold NumV
  go_enter Tryz.func89, Tryz.ntmps89
  obtain ⟨⟨c0, c1, c2, c3⟩, -⟩ := (HK.out.get (.head _)).cells4
  go_wp2_with fail
  refine (HS.out _ (HP.out.below HK.out.2)).mono ?_
  rintro e1 w1 ⟨rfl, rfl⟩
  go_wp2
  go_ret
  exact ⟨rfl, HK.out.2⟩

/-- A whole number in new memory. -/
def IntNew (z : Int) (w : World) (en : Ending) (w' : World) : Prop := ∃ b, en = .returned (.pointer (some ⟨b, 0, none⟩)) ∧ w.heap.size ≤ b ∧ RInt w' b z ∧ Below w.heap.size w w'

set_option maxRecDepth 100000 in
set_option maxHeartbeats 1600000 in
theorem cSigned_any (k : Int) (neg : Bool) (p N : Nat) (E e : Int) (w : World) (hp : RInt w p (N : Int)) (he : e ≤ E) (hE : E - e ≤ 16777216) (hl : ln 32 N ≤ 1048576) :
    Calls Tryz.prog 109 #[NumV k neg p E, .int .i64 e] w (IntNew (sgI neg N * 2 ^ (E - e).toNat) w) := by
  obtain ⟨s, hs⟩ : ∃ s : Nat, E - e = s := ⟨(E - e).toNat, by omega⟩
  have HP := Lib.hid hp
  have hsl : s ≤ 16777216 := by omega
  have HLS := Lib.hid fun b W h1 h2 => rLsh_any b 0 p 0 s (N : Int) W h1 h2 (by rw [Int.natAbs_natCast]; omega) (by omega)
  have HZ : Hid (sgI neg N * 2 ^ (E - e).toNat = if neg then -((N : Int) * 2 ^ s) else (N : Int) * 2 ^ s) := Lib.hid (by rw [hs, Int.toNat_natCast]; cases neg <;> simp [sgI, Int.neg_mul])
  have HK := Lib.hid ((Bks.nil w).alloc #[.int .i64 k, .bool neg, .pointer (some ⟨p, 0, none⟩), .int .i64 E] 87)
  have hw : IntKind.i64.wrap (E - e) = (s : Int) := by rw [hs]; exact IntWalk.i64_in _ (by omega)
  generalize sgI neg N * 2 ^ (E - e).toNat = Z at *
  obtain ⟨T, hT⟩ : ∃ t : Int, (N : Int) * 2 ^ s = t := ⟨_, rfl⟩
  rw [hT] at HLS HZ
  clear hp hl hT
  unfold NumV IntNew
  obtain ⟨f0, hf0⟩ : ∃ f, w.heap.size = f := ⟨_, rfl⟩
  rw [hf0] at HK
  go_enter Tryz.func109, Tryz.ntmps109
  obtain ⟨⟨c0, c1, c2, c3⟩, -⟩ := (HK.out.get (.head _)).cells4
  go_wp2_with fail
  clear c0 c1 c2 c3
  have HJ0 : Hid (Its w _ []) := Lib.hid ⟨fun t m => (by cases m), HK.out.2⟩
  have HJ1 := Lib.hid HJ0.out.alloc
  have hsz : (w.alloc (.cells #[.int .i64 k, .bool neg, .pointer (some ⟨p, 0, none⟩), .int .i64 E] 87)).heap.size = f0 + 1 := by simp [hf0]
  rw [hsz] at HJ1
  have HK1 := Lib.hid (HK.out.later (Below.alloc_self _ (.cells #[.bool false, .slice none 0 0] 67)))
  refine (HLS.out _ _ (HJ1.out.get (.head _)).1 (HP.out.below HJ1.out.2)).mono ?_
  rintro e1 w1 ⟨rfl, hi1, hm1⟩
  have HJ := Lib.hid (HJ1.out.puts (by omega) (fun t m => by cases m) hm1 hi1)
  have HK2 := Lib.hid (HK1.out.mod hm1 (fun t m => by simp only [List.mem_cons, List.not_mem_nil, or_false] at m; subst m; simp) (by omega))
  clear hi1 hm1 hsz HJ0 HJ1 HK1 HK
  obtain ⟨⟨c0, c1, c2, c3⟩, -⟩ := (HK2.out.get (.head _)).cells4
  cases neg
  · go_wp2
    go_ret
    refine ⟨f0 + 1, rfl, by omega, ?_, HJ.out.2⟩
    rw [HZ.out]; exact HJ.out.get (.head _)
  · go_wp2_with fail
    refine (rNeg_any (f0 + 1) 0 (f0 + 1) 0 T _ (HJ.out.get (.head _)).1 (HJ.out.get (.head _))).mono ?_
    rintro e2 w2 ⟨rfl, hi2, hm2⟩
    replace HJ := Lib.hid (HJ.out.puts (by omega) (fun t m => by cases m) hm2 hi2)
    clear hi2 hm2 c0 c1 c2 c3
    go_wp2
    go_ret
    refine ⟨f0 + 1, rfl, by omega, ?_, HJ.out.2⟩
    rw [HZ.out]; exact HJ.out.get (.head _)

theorem bl_shl_up (N s : Nat) : bl (N * 2 ^ s) ≤ bl N + s := by
  by_cases h : N = 0
  · subst h; rw [Nat.zero_mul]; omega
  · exact Nat.le_of_eq (bl_shlN h)

theorem run_min2 (a b : Int) (ts : Array TypeId) (t : TypeId) (w : World) : (Builtin.min_ ts t #[.int .i64 a, .int .i64 b]).run Tryz.prog w = .ok (.int .i64 (min a b)) w := by
  have e : ∀ x y : Int, (if y < x then y else x) = min x y := by intro x y; split <;> omega
  simp [Builtin.min_, Builtin.min2, e]

theorem Bks.ab4 {w0 W : World} {l : List (Nat × Nat × Array Value)} {c x y t u v : Nat} {cs : Array Value} {a b d e a' b' d' e' : Value} (h : Bks w0 W ((c, t, cs) :: (x, u, #[a, b, d, e]) :: (y, v, #[a', b', d', e']) :: l)) :
    (W.cell? ⟨x, 0, none⟩ = some a ∧ W.cell? ⟨x, 1, none⟩ = some b ∧ W.cell? ⟨x, 2, none⟩ = some d ∧ W.cell? ⟨x, 3, none⟩ = some e) ∧ W.cell? ⟨y, 0, none⟩ = some a' ∧ W.cell? ⟨y, 1, none⟩ = some b' ∧ W.cell? ⟨y, 2, none⟩ = some d' ∧ W.cell? ⟨y, 3, none⟩ = some e' :=
  ⟨(h.get (.tail _ (.head _))).cells4.1, (h.get (.tail _ (.tail _ (.head _)))).cells4.1⟩

/-- The sum of two finite numbers in units of the lesser exponent. -/
def addI (na : Bool) (A : Nat) (ea : Int) (nb : Bool) (B : Nat) (eb : Int) : Int := sgI na A * 2 ^ (ea - min ea eb).toNat + sgI nb B * 2 ^ (eb - min ea eb).toNat

theorem ln_shift {neg : Bool} {N s : Nat} (hl : bl N ≤ 1048576) (hs : s ≤ 16777216) : ln 32 (sgI neg N * 2 ^ s).natAbs ≤ 68719476736 := by
  rw [Int.natAbs_mul, sgI_abs, Int.natAbs_pow]
  exact Nat.le_trans (ln_le_bl 32 _ (by decide)) (Nat.le_trans (bl_shl_up N s) (by omega))

set_option maxRecDepth 100000 in
set_option maxHeartbeats 1600000 in
theorem cSum_any (ka kb : Int) (na nb : Bool) (p q A B : Nat) (ea eb : Int) (w : World) (hp : RInt w p (A : Int)) (hq : RInt w q (B : Int)) (he : ea - eb ≤ 16777216 ∧ eb - ea ≤ 16777216) (hA : bl A ≤ 1048576) (hB : bl B ≤ 1048576) :
    Calls Tryz.prog 88 #[NumV ka na p ea, NumV kb nb q eb] w (NumNew 0 (decide (addI na A ea nb B eb < 0)) ((addI na A ea nb B eb).natAbs : Nat) (min ea eb) w) := by
  have HP := Lib.hid hp
  have HQ := Lib.hid hq
  have hlA := Nat.le_trans (ln_le_bl 32 A (by decide)) hA
  have hlB := Nat.le_trans (ln_le_bl 32 B (by decide)) hB
  obtain ⟨m, hm⟩ : ∃ m, min ea eb = m := ⟨_, rfl⟩
  have HSA := Lib.hid fun W h => cSigned_any ka na p A ea m W h (by omega) (by omega) hlA
  have HSB := Lib.hid fun W h => cSigned_any kb nb q B eb m W h (by omega) (by omega) hlB
  have HSS : Hid (addI na A ea nb B eb = sgI na A * 2 ^ (ea - m).toNat + sgI nb B * 2 ^ (eb - m).toNat) := Lib.hid (by unfold addI; rw [hm])
  have l1 := ln_shift (neg := na) (N := A) (s := (ea - m).toNat) hA (by omega)
  have l2 := ln_shift (neg := nb) (N := B) (s := (eb - m).toNat) hB (by omega)
  have HAD := Lib.hid fun b x y W h1 h2 h3 => rAdd_any b 0 x 0 y 0 (sgI na A * 2 ^ (ea - m).toNat) (sgI nb B * 2 ^ (eb - m).toNat) W h1 h2 h3 l1 l2
  rw [← HSS.out] at HAD
  have hmin : ∀ ts t w, (Builtin.min_ ts t #[.int .i64 ea, .int .i64 eb]).run Tryz.prog w = .ok (.int .i64 m) w := fun ts t w => by rw [run_min2, hm]
  rw [hm]
  generalize sgI na A * 2 ^ (ea - m).toNat = ZA at *
  generalize sgI nb B * 2 ^ (eb - m).toNat = ZB at *
  generalize addI na A ea nb B eb = S at *
  have HK := Lib.hid ((Bks.new2 w 87 #[.int .i64 ka, .bool na, .pointer (some ⟨p, 0, none⟩), .int .i64 ea] #[.int .i64 kb, .bool nb, .pointer (some ⟨q, 0, none⟩), .int .i64 eb]).alloc #[.int .i64 0, .bool false, .pointer none, .int .i64 0] 87)
  have hsz : ((w.alloc (.cells #[.int .i64 ka, .bool na, .pointer (some ⟨p, 0, none⟩), .int .i64 ea] 87)).alloc (.cells #[.int .i64 kb, .bool nb, .pointer (some ⟨q, 0, none⟩), .int .i64 eb] 87)).heap.size = w.heap.size + 1 + 1 := by simp
  rw [hsz] at HK
  clear hp hq he hA hB hlA hlB hm l1 l2 HSS hsz
  obtain ⟨f0, hf0⟩ : ∃ f, w.heap.size = f := ⟨_, rfl⟩
  rw [hf0] at HK
  unfold NumV at *
  go_enter Tryz.func88, Tryz.ntmps88
  obtain ⟨⟨c0, c1, c2, c3⟩, -⟩ := (HK.out.get (.tail _ (.head _))).cells4
  obtain ⟨⟨g0, g1, g2, g3⟩, -⟩ := (HK.out.get (.tail _ (.tail _ (.head _)))).cells4
  go_upto_region 2 with fail
  clear c0 c1 c2 c3 g0 g1 g2 g3
  generalize World.alloc (World.alloc (World.alloc w _) _) _ = W1 at HK ⊢
  refine wp_region_q (fun w' : World => (w'.cell? ⟨f0, 0, none⟩ = some (.int .i64 ka) ∧ w'.cell? ⟨f0, 1, none⟩ = some (.bool na) ∧ w'.cell? ⟨f0, 2, none⟩ = some (.pointer (some ⟨p, 0, none⟩)) ∧ w'.cell? ⟨f0, 3, none⟩ = some (.int .i64 ea)) ∧ w'.cell? ⟨f0 + 1, 0, none⟩ = some (.int .i64 kb) ∧ w'.cell? ⟨f0 + 1, 1, none⟩ = some (.bool nb) ∧ w'.cell? ⟨f0 + 1, 2, none⟩ = some (.pointer (some ⟨q, 0, none⟩)) ∧ w'.cell? ⟨f0 + 1, 3, none⟩ = some (.int .i64 eb)) 7 (.take 1 (.take 2 (.take 4 (.take 5 (.bag [(0, 12, []), (3, 15, []), (6, 18, [])] .nil))))) (by kernel_rfl) (by kernel_rfl) ?_
  replace HK := Lib.hid (HK.out.later (drew_below _))
  generalize World.drew _ = W2 at HK ⊢
  have HSZ : Hid (SzLe W2 W2.heap.size) := Lib.hid (Nat.le_refl _)
  have HLT := Lib.hid HK.out.lt
  have HSW : Hid (f0 ≤ W2.heap.size) := Lib.hid (by have := HK.out.size; omega)
  generalize W2.heap.size = nB at HSZ HLT HSW
  have hS : (fun w' : World => (w'.cell? ⟨f0, 0, none⟩ = some (.int .i64 ka) ∧ w'.cell? ⟨f0, 1, none⟩ = some (.bool na) ∧ w'.cell? ⟨f0, 2, none⟩ = some (.pointer (some ⟨p, 0, none⟩)) ∧ w'.cell? ⟨f0, 3, none⟩ = some (.int .i64 ea)) ∧ w'.cell? ⟨f0 + 1, 0, none⟩ = some (.int .i64 kb) ∧ w'.cell? ⟨f0 + 1, 1, none⟩ = some (.bool nb) ∧ w'.cell? ⟨f0 + 1, 2, none⟩ = some (.pointer (some ⟨q, 0, none⟩)) ∧ w'.cell? ⟨f0 + 1, 3, none⟩ = some (.int .i64 eb)) W2 := HK.out.ab4
  repeat (refine wpPq_takeL (v := ?_) rfl rfl (fun _ _ _ h => h) rfl (fun w' hSw => ?_) hS ?_; rotate_left; (focus (go_simp; with_reducible rfl)); simp only [setL])
  clear hS
  refine wpPq_bag (pick [(0, fun v w' => ∃ r, v = .pointer (some ⟨r, 0, none⟩) ∧ nB ≤ r ∧ RInt w' r 0), (3, fun v w' => ∃ r, v = .pointer (some ⟨r, 0, none⟩) ∧ RInt w' r ZA), (6, fun v w' => ∃ r, v = .pointer (some ⟨r, 0, none⟩) ∧ RInt w' r ZB)]) (pick_mono (bag_cons (fun v w1 w2 ⟨r0, hv0, hl0, hp0⟩ hb => ⟨r0, hv0, hl0, hp0.below hb⟩) (bag_cons (fun v w1 w2 ⟨r3, hv3, hp3⟩ hb => ⟨r3, hv3, hp3.below hb⟩) (bag_cons (fun v w1 w2 ⟨r6, hv6, hp6⟩ hb => ⟨r6, hv6, hp6.below hb⟩) bag_nil)))) (fun w' hb => (HK.out.later hb).ab4) (by simp [prE]) (fun _ _ _ _ _ h => h) (bag_cons (bag_one rfl ?_) (bag_cons (bag_one rfl ?_) (bag_cons (bag_one rfl ?_) bag_nil))) bag_nil ?_
  · intro a' V hdf hin hdep hb1 K hK
    clear hin hdep hdf
    have HK := Lib.hid (HK.out.later hb1)
    have HSZ := Lib.hid (HSZ.out.below hb1)
    go_simp
    exact hK _ _ ⟨_, rfl, HSZ.out, IntK.zero (k := .u32) (s := 32) V _ objT_rint⟩ (Below.alloc_self _ _)
  · intro a' V hdf hin hdep hb1 K hK
    have i13 : a'.tmps[13]?.getD undef = .agg #[.int .i64 ka, .bool na, .pointer (some ⟨p, 0, none⟩), .int .i64 ea] := evT (hin 13 (by decide))
    have i14 : a'.tmps[14]?.getD undef = .int .i64 m := evT (hin 14 (by decide))
    clear hin hdep hdf
    have HK := Lib.hid (HK.out.later hb1)
    have HSZ := Lib.hid (HSZ.out.below hb1)
    go_simp
    refine (HSA.out _ (HP.out.below HK.out.2)).mono ?_
    rintro e1 V2 ⟨r, rfl, -, hr, hb2⟩
    exact hK _ _ ⟨r, rfl, hr⟩ hb2
  · intro a' V hdf hin hdep hb1 K hK
    have i16 : a'.tmps[16]?.getD undef = .agg #[.int .i64 kb, .bool nb, .pointer (some ⟨q, 0, none⟩), .int .i64 eb] := evT (hin 16 (by decide))
    have i17 : a'.tmps[17]?.getD undef = .int .i64 m := evT (hin 17 (by decide))
    clear hin hdep hdf
    have HK := Lib.hid (HK.out.later hb1)
    have HSZ := Lib.hid (HSZ.out.below hb1)
    go_simp
    refine (HSB.out _ (HQ.out.below HK.out.2)).mono ?_
    rintro e1 V2 ⟨r, rfl, -, hr, hb2⟩
    exact hK _ _ ⟨r, rfl, hr⟩ hb2
  intro vals B1 hb1 hR
  replace HK := Lib.hid (HK.out.later hb1)
  replace HSZ := Lib.hid (HSZ.out.below hb1)
  obtain ⟨r0, hv0, hl0, hp0⟩ : (fun (v : Value) (w' : World) => ∃ r, v = .pointer (some ⟨r, 0, none⟩) ∧ nB ≤ r ∧ RInt w' r 0) (vals 0) B1 := hR (0, 12) (by decide)
  obtain ⟨r3, hv3, hp3⟩ : (fun (v : Value) (w' : World) => ∃ r, v = .pointer (some ⟨r, 0, none⟩) ∧ RInt w' r ZA) (vals 3) B1 := hR (3, 15) (by decide)
  obtain ⟨r6, hv6, hp6⟩ : (fun (v : Value) (w' : World) => ∃ r, v = .pointer (some ⟨r, 0, none⟩) ∧ RInt w' r ZB) (vals 6) B1 := hR (6, 18) (by decide)
  clear hb1 hR
  simp only [prE, List.flatMap_cons, List.flatMap_nil, List.cons_append, List.nil_append, List.append_nil, setD, List.setIfInBounds_toArray, List.set_cons_zero, List.set_cons_succ, hv0, hv3, hv6]
  clear vals hv0 hv3 hv6
  refine wpPq_nil ?_
  simp only [List.drop_succ_cons, List.drop_zero]
  skip
  have HR0 : Hid (f0 + 1 + 1 < r0) := Lib.hid (by have := HLT.out _ (.head _); omega)
  have H0 := Lib.hid hp0
  have H3 := Lib.hid hp3
  have H6 := Lib.hid hp6
  clear hp0 hp3 hp6 hl0 HSZ HLT HSW
  skip
  go_wp2_with fail
  refine (HAD.out r0 r3 r6 _ H0.out.1 H3.out H6.out).mono ?_
  rintro e3 w3 ⟨rfl, hi3, hm3⟩
  have HI := Lib.hid hi3
  have HK3 := Lib.hid (HK.out.mod hm3 (fun t m => by have := HR0.out; simp only [List.mem_cons, List.not_mem_nil, or_false] at m; rcases m with rfl | rfl | rfl <;> simp <;> omega) (by have := HR0.out; omega))
  clear hi3 hm3 H0 H3 H6 HK HAD
  go_wp2_with fail
  refine (rSign_any r0 0 S _ HI.out).mono ?_
  rintro e4 w4 ⟨rfl, rfl⟩
  have hsg : decide (S.sign < 0) = decide (S < 0) := decide_eq_decide.2 ⟨fun h => by rcases Int.lt_trichotomy S 0 with h1 | h1 | h1; (exact h1); (rw [h1] at h; exact absurd h (by decide)); (rw [Int.sign_eq_one_of_pos h1] at h; exact absurd h (by decide)), fun h => by rw [Int.sign_eq_neg_one_of_neg h]; decide⟩
  generalize S.sign = sg at *
  go_wp2_with fail
  refine (rAbs_any r0 0 r0 0 S _ HI.out.1 HI.out).mono ?_
  rintro e5 w5 ⟨rfl, hi5, hm5⟩
  have HI5 := Lib.hid hi5
  have HK := Lib.hid (HK3.out.mod hm5 (fun t m => by have := HR0.out; simp only [List.mem_cons, List.not_mem_nil, or_false] at m; rcases m with rfl | rfl | rfl <;> simp <;> omega) (by have := HR0.out; omega))
  clear hi5 hm5 HK3 HI
  generalize S.natAbs = SN at *
  generalize decide (S < 0) = sb at *
  obtain ⟨⟨d0, d1, d2, d3⟩, d4, d5, d6, d7⟩ := (HK.out.get (.head _)).cells4
  go_wp2
  refine bodyPost_ret (v := .agg #[.int .i64 0, .bool sb, .pointer (some ⟨r0, 0, none⟩), .int .i64 m]) (by simp [results, Tryz.results88, go_sem, d0, d1, d2, d3]) rfl ⟨r0, rfl, by have := HR0.out; omega, RInt.set4 HI5.out (HK.out.get (.head _)) (by have := HR0.out; omega) _ _ _ _, ((HK.out.sub (l' := [(f0 + 1 + 1, 87, #[.int .i64 0, .bool false, .pointer none, .int .i64 0])]) (fun t m => by simp only [List.mem_cons, List.not_mem_nil, or_false] at m; subst m; exact .head _)).set4 (by omega) (fun t m => by cases m) (.int .i64 0) (.bool sb) (.pointer (some ⟨r0, 0, none⟩)) (.int .i64 m)).2⟩

end Go.Proofs.YtloohbkceppocaaGreatDoor
end

/- Walks: the references' upward, Mid, Radius, Width of an interval. Printed by wip/gen/cx1.py. -/
section
namespace Go.Proofs.YtloohbkceppocaaGreatDoor
open Go.RowKit
attribute [local go_sem] run_store_f

theorem knd_fin {x : Nat} (f : finB x = true) : kndB x = 0 := by unfold kndB; rw [f]; rfl
theorem sc_take {x : Nat} (f : finB x = true) {M : Int} (hM : 1074 ≤ M) : sc M (sgI (sgnB x) (mntB x)) (xpnB x) = sc M (valZ x) (pE x) := by
  rw [sc_valZ f M hM]
  unfold mntB xpnB sgI
  rw [f]
  rfl
theorem xpn_bd {x : Nat} (f : finB x = true) : -1074 ≤ xpnB x ∧ xpnB x ≤ 971 := by unfold xpnB; rw [f]; exact expB_bd f
theorem mnt_bd (x : Nat) : bl (mntB x) ≤ 53 := by
  refine bl_le_of_lt ?_
  unfold mntB
  split
  · exact mantB_lt x
  · decide
theorem sgI_not (n : Bool) (N : Nat) : sgI (!n) N = -sgI n N := by cases n <;> simp [sgI]
theorem sgI_own (S : Int) : sgI (decide (S < 0)) S.natAbs = S := by
  unfold sgI
  split
  · rename_i h; have := of_decide_eq_true h; omega
  · rename_i h; have : ¬ S < 0 := fun t => h (decide_eq_true t); omega
theorem sc_addI {na nb : Bool} {A B : Nat} {ea eb M : Int} (h1 : 0 ≤ ea + M) (h2 : 0 ≤ eb + M) : sc M (addI na A ea nb B eb) (min ea eb) = sc M (sgI na A) ea + sc M (sgI nb B) eb := by
  unfold addI sc
  rw [Int.add_mul, Int.mul_assoc, Int.mul_assoc, ← Int.pow_add, ← Int.pow_add]
  congr 3 <;> congr 1 <;> omega
theorem bl_addI {na nb : Bool} {A B : Nat} {ea eb : Int} {k : Nat} (hA : bl A ≤ k) (hB : bl B ≤ k) : bl (addI na A ea nb B eb).natAbs ≤ k + (ea - eb).natAbs + 1 := by
  have h1 : (addI na A ea nb B eb).natAbs ≤ A * 2 ^ (ea - min ea eb).toNat + B * 2 ^ (eb - min ea eb).toNat := by
    unfold addI
    refine Nat.le_trans (Int.natAbs_add_le _ _) ?_
    rw [Int.natAbs_mul, Int.natAbs_mul, sgI_abs, sgI_abs, Int.natAbs_pow, Int.natAbs_pow]
    exact Nat.le_refl _
  have h2 := bl_add (A * 2 ^ (ea - min ea eb).toNat) (B * 2 ^ (eb - min ea eb).toNat)
  have h3 := bl_mul_two_pow A (ea - min ea eb).toNat
  have h4 := bl_mul_two_pow B (eb - min ea eb).toNat
  have h5 : bl (addI na A ea nb B eb).natAbs ≤ bl (A * 2 ^ (ea - min ea eb).toNat + B * 2 ^ (eb - min ea eb).toNat) := bl_le_of_lt (Nat.lt_of_le_of_lt h1 (lt_bl _))
  omega

/-- The places of rounded values agree where the values do. -/
theorem ky_same {M z e y f : Int} (mode : Int) (hM : 0 ≤ M) (h1 : 0 ≤ e + M) (h2 : 0 ≤ f + M) (h : sc M z e = sc M y f) : ky (rndX z e mode) = ky (rndX y f mode) :=
  Int.le_antisymm (rndX_rises mode hM h1 h2 (Int.le_of_eq h)) (rndX_rises mode hM h2 h1 (Int.le_of_eq h.symm))

/-- Rounded up, a number not below nought has no sign. -/
theorem up_plain {z e : Int} (hz : 0 ≤ z) : kb (ky (rndX z e 3)) = rndX z e 3 := by
  refine kb_own fun h => ?_
  by_cases h0 : z = 0
  · rw [h0, show rndX 0 e 3 = 0 from if_pos rfl] at h; exact absurd h (by decide)
  · obtain ⟨M, hM1, hM2⟩ : ∃ M : Int, 1074 ≤ M ∧ 0 ≤ e + M := ⟨1074 + e.natAbs, by omega, by omega⟩
    have hf : finB (rndX z e 3) = true := by rw [h]; decide
    have h1 := rndX_up_ge hM1 hM2 hf
    have h2 : 0 < sc M z e := sc_pos.1.2 (by omega)
    rw [h] at h1
    have h3 : vI M kSign = 0 := by
      have : valZ kSign = 0 := by decide
      unfold vI sc; rw [this, Int.zero_mul]
    omega

theorem isInf_iv (x : Nat) (w : World) (hx : W64 x) (n : nanB x = false) : Calls Tryz.prog 45 #[.float .f64 x, .int .i64 0] w (Gives (.bool (!finB x)) w) := by
  have h := isInf_any x w hx (num_of n)
  rwa [show decide (x % kSign = kInf) = !finB x by
    have h1 := num_of n
    have h2 : x < 18446744073709551616 := hx
    unfold finB expF
    unfold kInf kSign kHid at *
    rw [Bool.eq_iff_iff]; simp; omega] at h

theorem cnum_fin (x : Nat) (w : World) (hx : W64 x) (f : finB x = true) : Calls Tryz.prog 69 #[.float .f64 x] w (NumNew 0 (sgnB x) (mntB x : Nat) (xpnB x) w) := by
  have h := cnum_any x w hx (nan_fin f)
  rwa [knd_fin f] at h

/-- A number and an interval in their boxes. -/
theorem Bks.four_two {w0 W : World} {l : List (Nat × Nat × Array Value)} {x y t u : Nat} {a b c d e f : Value} (h : Bks w0 W ((x, t, #[a, b, c, d]) :: (y, u, #[e, f]) :: l)) :
    (W.cell? ⟨x, 0, none⟩ = some a ∧ W.cell? ⟨x, 1, none⟩ = some b ∧ W.cell? ⟨x, 2, none⟩ = some c ∧ W.cell? ⟨x, 3, none⟩ = some d) ∧ W.cell? ⟨y, 0, none⟩ = some e ∧ W.cell? ⟨y, 1, none⟩ = some f :=
  ⟨(h.get (.head _)).cells4.1, h.two (.tail _ (.head _))⟩

theorem ne_num {W : World} {x p t : Nat} {n k : Int} {a b c : Value} (h : RInt W p n) (hx : BlkT W x t #[.int .i64 k, a, b, c]) : p ≠ x := by
  intro e
  subst e
  have h1 := h.2.1
  rw [show W.cell? ⟨p, 0, none⟩ = some (.int .i64 k) from hx.cell 0] at h1
  cases h1

set_option maxRecDepth 100000 in
set_option maxHeartbeats 3200000 in
theorem cUp_any (neg : Bool) (p N : Nat) (e : Int) (w : World) (hp : RInt w p (N : Int)) (hl : bl N ≤ 1048576) (he1 : -100000 ≤ e) (he2 : e ≤ 100000) :
    Calls Tryz.prog 92 #[NumV 0 neg p e] w (Gives (.float .f64 (rndX (N : Int) e 3)) w) := by
  have HP := Lib.hid hp
  have HZ := Lib.hid fun W h => cIsZero_any neg p N e W h
  have HD := Lib.hid fun W => cDouble_any W
  have HK := Lib.hid ((Bks.nil w).alloc #[.int .i64 0, .bool neg, .pointer (some ⟨p, 0, none⟩), .int .i64 e] 87)
  by_cases h0 : N = 0
  · subst h0
    rw [show rndX ((0 : Nat) : Int) e 3 = 0 from if_pos rfl]
    rw [decide_eq_true rfl] at HZ
    clear hp hl he1 he2
    unfold NumV at *
    go_enter Tryz.func92, Tryz.ntmps92
    obtain ⟨⟨c0, c1, c2, c3⟩, -⟩ := (HK.out.get (.head _)).cells4
    go_wp2_with fail
    refine (HZ.out _ (HP.out.below HK.out.2)).mono ?_
    rintro e1 w1 ⟨rfl, hb1⟩
    replace HP := Lib.hid ((HP.out.below HK.out.2).below hb1)
    replace HK := Lib.hid (HK.out.later hb1)
    clear hb1 c0 c1 c2 c3
    obtain ⟨⟨c0, c1, c2, c3⟩, -⟩ := (HK.out.get (.head _)).cells4
    go_wp2
    go_ret
    exact ⟨rfl, HK.out.2⟩
  rw [decide_eq_false h0] at HZ
  have HRD := Lib.hid fun W h => cRound_any false p N e false 3 W h h0 hl he1 he2 (fun t => by cases t) (.inr (.inl rfl))
  rw [show roundR false N e false 3 = rndX (N : Int) e 3 from rfl] at HRD
  generalize rndX (N : Int) e 3 = R at *
  have HNB := Lib.hid fun fl W => cnumber_any R fl W
  clear hp hl he1 he2 h0
  unfold NumV at *
  unfold fmtV at *
  go_enter Tryz.func92, Tryz.ntmps92
  obtain ⟨⟨c0, c1, c2, c3⟩, -⟩ := (HK.out.get (.head _)).cells4
  go_wp2_with fail
  refine (HZ.out _ (HP.out.below HK.out.2)).mono ?_
  rintro e1 w1 ⟨rfl, hb1⟩
  replace HP := Lib.hid ((HP.out.below HK.out.2).below hb1)
  replace HK := Lib.hid (HK.out.later hb1)
  clear hb1 c0 c1 c2 c3
  obtain ⟨⟨c0, c1, c2, c3⟩, -⟩ := (HK.out.get (.head _)).cells4
  go_upto_region 3 with fail
  clear c0 c1 c2 c3
  refine wp_region_pl (fun w' : World => (w'.cell? ⟨w.heap.size, 0, none⟩ = some (.int .i64 0) ∧ w'.cell? ⟨w.heap.size, 1, none⟩ = some (.bool neg) ∧ w'.cell? ⟨w.heap.size, 2, none⟩ = some (.pointer (some ⟨p, 0, none⟩)) ∧ w'.cell? ⟨w.heap.size, 3, none⟩ = some (.int .i64 e))) 8 (.take 1 (.take 2 (.take 3 (.take 4 (.run 0 (.run 5 (.take 6 (.take 7 (.nil))))))))) (by kernel_rfl) (by kernel_rfl) ?_
  replace HK := Lib.hid (HK.out.later (drew_below _))
  replace HP := Lib.hid (HP.out.below (drew_below _))
  generalize World.drew _ = W3 at HK HP ⊢
  repeat (first | (refine wpPl_takeL (v := ?_) rfl rfl (fun _ _ _ h => h) rfl (fun w' hSw => ?_) (HK.out.get (.head _)).cells4.1 ?_; rotate_left; (focus (go_simp; with_reducible rfl)); simp only [setL]) | (refine wpPl_skipL rfl rfl (fun _ _ _ h => h) rfl (HK.out.get (.head _)).cells4.1 ?_; simp only [setL]))
  refine wpPl_goL rfl rfl fun K' hK => ?_
  go_simp
  refine (HD.out _).mono ?_
  rintro e1 W3v1 ⟨rfl, hb1⟩
  replace HK := Lib.hid (HK.out.later hb1)
  replace HP := Lib.hid (HP.out.below hb1)
  refine hK _ _ (HK.out.get (.head _)).cells4.1 ?_
  clear hK K' hb1
  try simp only [Act.put, setL]
  repeat (first | (refine wpPl_takeL (v := ?_) rfl rfl (fun _ _ _ h => h) rfl (fun w' hSw => ?_) (HK.out.get (.head _)).cells4.1 ?_; rotate_left; (focus (go_simp; with_reducible rfl)); simp only [setL]) | (refine wpPl_skipL rfl rfl (fun _ _ _ h => h) rfl (HK.out.get (.head _)).cells4.1 ?_; simp only [setL]))
  refine wpPl_goL rfl rfl fun K' hK => ?_
  go_simp
  refine (HRD.out _ HP.out).mono ?_
  rintro e1 W3v2 ⟨fl, rfl, hb1⟩
  replace HK := Lib.hid (HK.out.later hb1)
  replace HP := Lib.hid (HP.out.below hb1)
  refine hK _ _ (HK.out.get (.head _)).cells4.1 ?_
  clear hK K' hb1
  try simp only [Act.put, setL]
  repeat (first | (refine wpPl_takeL (v := ?_) rfl rfl (fun _ _ _ h => h) rfl (fun w' hSw => ?_) (HK.out.get (.head _)).cells4.1 ?_; rotate_left; (focus (go_simp; with_reducible rfl)); simp only [setL]) | (refine wpPl_skipL rfl rfl (fun _ _ _ h => h) rfl (HK.out.get (.head _)).cells4.1 ?_; simp only [setL]))
  refine wpPl_nil ?_
  simp only [List.drop_succ_cons, List.drop_zero]
  go_wp2_with fail
  refine (HNB.out _ _).mono ?_
  rintro e2 w2 ⟨rfl, hb2⟩
  replace HK := Lib.hid (HK.out.later hb2)
  clear hb2
  go_wp2
  go_ret
  exact ⟨rfl, HK.out.2⟩

/-- The difference of two numbers, rounded up. -/
theorem up_diff {x y : Nat} (fx : finB x = true) (fy : finB y = true) (hx : W64 x) (h : fI x ≤ fI y) :
    ∃ N m, (addI (sgnB y) (mntB y) (xpnB y) (!sgnB x) (mntB x) (xpnB x)).natAbs = N ∧ min (xpnB y) (xpnB x) = m ∧ bl N ≤ 1048576 ∧ -100000 ≤ m ∧ m ≤ 100000 ∧
      rndX (N : Int) m 3 = kb (adK y (flipB x) 3) ∧ ky (rndX (N : Int) m 3) = adK y (flipB x) 3 := by
  have ex := xpn_bd fx
  have ey := xpn_bd fy
  have hb := bl_addI (na := sgnB y) (nb := !sgnB x) (ea := xpnB y) (eb := xpnB x) (mnt_bd y) (mnt_bd x)
  obtain ⟨fw, ff, fe⟩ := flip_ok hx fx
  obtain ⟨u1, u2⟩ := up_sum fy ff
  have hs : sc 1074 (addI (sgnB y) (mntB y) (xpnB y) (!sgnB x) (mntB x) (xpnB x)) (min (xpnB y) (xpnB x)) = fI y - fI x := by
    rw [sc_addI (by omega) (by omega), sgI_not, sc_neg, sc_take fy (Int.le_refl _), sc_take fx (Int.le_refl _)]
    rfl
  have hn : 0 ≤ addI (sgnB y) (mntB y) (xpnB y) (!sgnB x) (mntB x) (xpnB x) := by
    rcases Int.lt_or_le (addI (sgnB y) (mntB y) (xpnB y) (!sgnB x) (mntB x) (xpnB x)) 0 with t | t
    · have := (sc_pos (M := 1074) (e := min (xpnB y) (xpnB x))).2.2 t; omega
    · exact t
  refine ⟨_, _, rfl, rfl, by omega, by omega, by omega, ?_⟩
  rw [show (((addI (sgnB y) (mntB y) (xpnB y) (!sgnB x) (mntB x) (xpnB x)).natAbs : Nat) : Int) = addI (sgnB y) (mntB y) (xpnB y) (!sgnB x) (mntB x) (xpnB x) by omega]
  have hk : ky (rndX (addI (sgnB y) (mntB y) (xpnB y) (!sgnB x) (mntB x) (xpnB x)) (min (xpnB y) (xpnB x)) 3) = adK y (flipB x) 3 :=
    ky_same (M := 1074) 3 (by omega) (by omega) u1 (by rw [hs, u2, fe]; omega)
  exact ⟨by rw [← hk, up_plain hn], hk⟩

set_option maxRecDepth 100000 in
set_option maxHeartbeats 3200000 in
theorem rWidth_any (x y : Nat) (w : World) (hx : W64 x) (hy : W64 y) : Calls Tryz.prog 40 #[.agg #[.float .f64 x, .float .f64 y]] w (Gives (.float .f64 (widV x y)) w) := by
  have HFU := Lib.hid fun W => rFull_any x y W hx hy
  have HN : Hid (∀ w, (callFunc 48 #[.int .u64 9221120237041090561]).run Tryz.prog w = .ok (.value (.float .f64 9221120237041090561)) w) := Lib.hid (ffrom_eq 9221120237041090561)
  have hN := HN.out
  have HI := Lib.hid fun W => inf_any W
  have HW := Lib.hid (IBox.new w x y)
  unfold widV
  rcases hs : ivK x y with _ | p
  · rw [hs] at HFU
    rw [if_neg (by decide)]
    rw [Option.isSome_none] at HFU
    clear hs hx hy HN HI
    go_enter Tryz.func40, Tryz.ntmps40
    obtain ⟨g0, g1⟩ := HW.out.cells
    go_wp2_with fail
    refine (HFU.out _).mono ?_
    rintro e1 w1 ⟨rfl, hb1⟩
    replace HW := Lib.hid (HW.out.later hb1)
    clear hb1
    clear g0 g1
    obtain ⟨g0, g1⟩ := HW.out.cells
    go_wp2
    go_ret
    exact ⟨rfl, HW.out.2⟩
  have np : nanB x = false ∧ nanB y = false := by obtain ⟨a, b, -⟩ := ivK_some hs; exact ⟨a, b⟩
  have HI0 := Lib.hid fun W => isInf_iv x W hx np.1
  have HI1 := Lib.hid fun W => isInf_iv y W hy np.2
  rw [hs] at HFU
  rw [Option.isSome_some] at HFU ⊢
  rw [if_pos rfl]
  unfold widB
  cases fx : finB x
  · rw [fx, Bool.not_false] at HI0
    rw [if_neg (by simp), show kInf = 9218868437227405312 from rfl]
    clear hs hx hy np fx
    generalize finB y = fy at *
    go_enter Tryz.func40, Tryz.ntmps40
    obtain ⟨g0, g1⟩ := HW.out.cells
    go_wp2_with fail
    refine (HFU.out _).mono ?_
    rintro e1 w1 ⟨rfl, hb1⟩
    replace HW := Lib.hid (HW.out.later hb1)
    clear hb1
    clear g0 g1
    obtain ⟨g0, g1⟩ := HW.out.cells
    go_wp2_with fail
    refine (HI0.out _).mono ?_
    rintro e2 w2 ⟨rfl, hb2⟩
    replace HW := Lib.hid (HW.out.later hb2)
    clear hb2
    clear g0 g1
    obtain ⟨g0, g1⟩ := HW.out.cells
    go_wp2_with fail
    refine (HI.out _).mono ?_
    rintro e3 w3 ⟨rfl, hb3⟩
    replace HW := Lib.hid (HW.out.later hb3)
    clear hb3
    clear g0 g1
    obtain ⟨g0, g1⟩ := HW.out.cells
    go_wp2
    go_ret
    exact ⟨rfl, HW.out.2⟩
  rw [fx, Bool.not_true] at HI0
  cases fy : finB y
  · rw [fy, Bool.not_false] at HI1
    rw [if_neg (by simp), show kInf = 9218868437227405312 from rfl]
    clear hs hx hy np fx fy
    go_enter Tryz.func40, Tryz.ntmps40
    obtain ⟨g0, g1⟩ := HW.out.cells
    go_wp2_with fail
    refine (HFU.out _).mono ?_
    rintro e1 w1 ⟨rfl, hb1⟩
    replace HW := Lib.hid (HW.out.later hb1)
    clear hb1
    clear g0 g1
    obtain ⟨g0, g1⟩ := HW.out.cells
    go_wp2_with fail
    refine (HI0.out _).mono ?_
    rintro e2 w2 ⟨rfl, hb2⟩
    replace HW := Lib.hid (HW.out.later hb2)
    clear hb2
    clear g0 g1
    obtain ⟨g0, g1⟩ := HW.out.cells
    go_wp2_with fail
    refine (HI1.out _).mono ?_
    rintro e3 w3 ⟨rfl, hb3⟩
    replace HW := Lib.hid (HW.out.later hb3)
    clear hb3
    clear g0 g1
    obtain ⟨g0, g1⟩ := HW.out.cells
    go_wp2_with fail
    refine (HI.out _).mono ?_
    rintro e4 w4 ⟨rfl, hb4⟩
    replace HW := Lib.hid (HW.out.later hb4)
    clear hb4
    clear g0 g1
    obtain ⟨g0, g1⟩ := HW.out.cells
    go_wp2
    go_ret
    exact ⟨rfl, HW.out.2⟩
  rw [fy, Bool.not_true] at HI1
  rw [if_pos ⟨rfl, rfl⟩]
  have hle : fI x ≤ fI y := by
    obtain ⟨-, -, rfl⟩ := ivK_some hs
    have hok := ivK_ok hx hy
    rw [hs] at hok
    obtain ⟨a1, a2, a3, a4, a5⟩ := hok _ _ rfl
    have := (ky_le_vI hx hy fx fy (Int.le_refl 1074)).1 a2
    rwa [← fI_vI, ← fI_vI] at this
  have HNX := Lib.hid fun W => cnum_fin x W hx fx
  have HNY := Lib.hid fun W => cnum_fin y W hy fy
  obtain ⟨N, m, hN, hm, l1, l2, l3, hr, hk⟩ := up_diff (x := x) (y := y) fx fy hx hle
  have bx := xpn_bd (x := x) fx
  have dy := xpn_bd (x := y) fy
  have cx := mnt_bd x
  have cy := mnt_bd y
  have HSU := Lib.hid fun p q W (h1 : RInt W p (mntB y : Nat)) (h2 : RInt W q (mntB x : Nat)) => cSum_any 0 0 (sgnB y) (!sgnB x) p q (mntB y) (mntB x) (xpnB y) (xpnB x) W h1 h2 (by omega) (by omega) (by omega)
  rw [hN, hm] at HSU
  have HUP := Lib.hid fun neg p W (h : RInt W p (N : Nat)) => cUp_any neg p N m W h l1 l2 l3
  have HMI := Lib.hid fun p W => cMinus_any 0 (sgnB x) p (xpnB x) W
  generalize decide (addI (sgnB y) (mntB y) (xpnB y) (!sgnB x) (mntB x) (xpnB x) < 0) = sb at *
  unfold wdK
  rw [← hr]
  generalize rndX (N : Int) m 3 = R at *
  clear hN hm l1 l2 l3 bx dy cx cy
  generalize sgnB x = sgx at *
  generalize mntB x = mtx at *
  generalize xpnB x = xpx at *
  generalize sgnB y = sgy at *
  generalize mntB y = mty at *
  generalize xpnB y = xpy at *
  clear hs hx hy np fx fy hle hr hk HI HN hN
  unfold NumNew at *
  go_enter Tryz.func40, Tryz.ntmps40
  obtain ⟨g0, g1⟩ := HW.out.cells
  go_wp2_with fail
  refine (HFU.out _).mono ?_
  rintro e1 w1 ⟨rfl, hb1⟩
  replace HW := Lib.hid (HW.out.later hb1)
  clear hb1
  clear g0 g1
  obtain ⟨g0, g1⟩ := HW.out.cells
  go_wp2_with fail
  refine (HI0.out _).mono ?_
  rintro e2 w2 ⟨rfl, hb2⟩
  replace HW := Lib.hid (HW.out.later hb2)
  clear hb2
  clear g0 g1
  obtain ⟨g0, g1⟩ := HW.out.cells
  go_wp2_with fail
  refine (HI1.out _).mono ?_
  rintro e3 w3 ⟨rfl, hb3⟩
  replace HW := Lib.hid (HW.out.later hb3)
  clear hb3
  clear g0 g1
  obtain ⟨g0, g1⟩ := HW.out.cells
  go_upto_region 5 with fail
  clear g0 g1
  refine wp_region_pl (fun w' : World => w'.cell? ⟨w.heap.size, 0, none⟩ = some (.float .f64 x) ∧ w'.cell? ⟨w.heap.size, 1, none⟩ = some (.float .f64 y)) 5 (.take 0 (.take 1 (.take 3 (.take 4 (.run 2 (.nil)))))) (by kernel_rfl) (by kernel_rfl) ?_
  replace HW := Lib.hid (HW.out.later (drew_below _))
  generalize World.drew _ = W5 at HW ⊢
  repeat (first | (refine wpPl_takeL (v := ?_) rfl rfl (fun _ _ _ h => h) rfl (fun w' hSw => ?_) HW.out.cells ?_; rotate_left; (focus (go_simp; with_reducible rfl)); simp only [setL]) | (refine wpPl_skipL rfl rfl (fun _ _ _ h => h) rfl HW.out.cells ?_; simp only [setL]))
  refine wpPl_goL rfl rfl fun K' hK => ?_
  go_simp
  refine (HNY.out _).mono ?_
  rintro e1 W5v1 ⟨q1, rfl, -, hq1, hb1⟩
  replace HW := Lib.hid (HW.out.later hb1)
  have HQ1 := Lib.hid hq1
  clear hq1
  refine hK _ _ HW.out.cells ?_
  clear hK K' hb1
  try simp only [Act.put, setL]
  repeat (first | (refine wpPl_takeL (v := ?_) rfl rfl (fun _ _ _ h => h) rfl (fun w' hSw => ?_) HW.out.cells ?_; rotate_left; (focus (go_simp; with_reducible rfl)); simp only [setL]) | (refine wpPl_skipL rfl rfl (fun _ _ _ h => h) rfl HW.out.cells ?_; simp only [setL]))
  refine wpPl_nil ?_
  simp only [List.drop_succ_cons, List.drop_zero]
  unfold NumV at *
  obtain ⟨g0, g1⟩ := HW.out.cells
  go_wp2_with fail
  refine (HNX.out _).mono ?_
  rintro e6 w6 ⟨q2, rfl, -, hq2, hb6⟩
  replace HW := Lib.hid (HW.out.later hb6)
  have HQ2 := Lib.hid hq2
  replace HQ1 := Lib.hid (HQ1.out.below hb6)
  clear hq2
  clear hb6
  clear g0 g1
  obtain ⟨g0, g1⟩ := HW.out.cells
  go_wp2_with fail
  refine (HMI.out q2 _).mono ?_
  rintro e7 w7 ⟨rfl, hb7⟩
  replace HQ1 := Lib.hid (HQ1.out.below hb7)
  replace HQ2 := Lib.hid (HQ2.out.below hb7)
  replace HW := Lib.hid (HW.out.later hb7)
  clear hb7
  clear g0 g1
  obtain ⟨g0, g1⟩ := HW.out.cells
  go_wp2_with fail
  refine (HSU.out q1 q2 _ HQ1.out HQ2.out).mono ?_
  rintro e8 w8 ⟨q3, rfl, -, hq3, hb8⟩
  replace HW := Lib.hid (HW.out.later hb8)
  have HQ3 := Lib.hid hq3
  clear hq3 HQ1 HQ2
  clear hb8
  clear g0 g1
  obtain ⟨g0, g1⟩ := HW.out.cells
  go_wp2_with fail
  refine (HUP.out _ q3 _ HQ3.out).mono ?_
  rintro e9 w9 ⟨rfl, hb9⟩
  replace HW := Lib.hid (HW.out.later hb9)
  clear hb9
  clear g0 g1
  obtain ⟨g0, g1⟩ := HW.out.cells
  go_wp2
  go_ret
  exact ⟨rfl, HW.out.2⟩

/-- The middle's sum. -/
theorem mid_sum {x y : Nat} (fx : finB x = true) (fy : finB y = true) :
    ∃ S m, addI (sgnB x) (mntB x) (xpnB x) (sgnB y) (mntB y) (xpnB y) = S ∧ min (xpnB x) (xpnB y) = m ∧ bl S.natAbs ≤ 1048576 ∧ -10000 ≤ m ∧ m ≤ 10000 ∧ ky (rndX S (m - 1) 0) = mdK x y := by
  have ex := xpn_bd fx
  have ey := xpn_bd fy
  have hb := bl_addI (na := sgnB x) (nb := sgnB y) (ea := xpnB x) (eb := xpnB y) (mnt_bd x) (mnt_bd y)
  obtain ⟨u1, u2⟩ := md_sum fx fy
  have hs : sc 1074 (addI (sgnB x) (mntB x) (xpnB x) (sgnB y) (mntB y) (xpnB y)) (min (xpnB x) (xpnB y)) = fI x + fI y := by
    rw [sc_addI (by omega) (by omega), sc_take fy (Int.le_refl _), sc_take fx (Int.le_refl _)]
    rfl
  refine ⟨_, _, rfl, rfl, by omega, by omega, by omega, ?_⟩
  exact ky_same (M := 1075) 0 (by omega) (by omega) u1 (by rw [show (1075 : Int) = 1074 + 1 from rfl, sc_half, hs]; exact u2.symm)

set_option maxRecDepth 100000 in
set_option maxHeartbeats 3200000 in
theorem rMid_any (x y : Nat) (w : World) (hx : W64 x) (hy : W64 y) : Calls Tryz.prog 36 #[.agg #[.float .f64 x, .float .f64 y]] w (Gives (.float .f64 (midV x y)) w) := by
  have HFU := Lib.hid fun W => rFull_any x y W hx hy
  have HN : Hid (∀ w, (callFunc 48 #[.int .u64 9221120237041090561]).run Tryz.prog w = .ok (.value (.float .f64 9221120237041090561)) w) := Lib.hid (ffrom_eq 9221120237041090561)
  have hN := HN.out
  have HI := Lib.hid fun W => inf_any W
  have HW := Lib.hid (IBox.new w x y)
  unfold midV
  rcases hs : ivK x y with _ | p
  · rw [hs] at HFU
    rw [if_neg (by decide)]
    rw [Option.isSome_none] at HFU
    clear hs hx hy HN HI
    go_enter Tryz.func36, Tryz.ntmps36
    obtain ⟨g0, g1⟩ := HW.out.cells
    go_wp2_with fail
    refine (HFU.out _).mono ?_
    rintro e1 w1 ⟨rfl, hb1⟩
    replace HW := Lib.hid (HW.out.later hb1)
    clear hb1
    clear g0 g1
    obtain ⟨g0, g1⟩ := HW.out.cells
    go_wp2
    go_ret
    exact ⟨rfl, HW.out.2⟩
  have np : nanB x = false ∧ nanB y = false := by obtain ⟨a, b, -⟩ := ivK_some hs; exact ⟨a, b⟩
  have HI0 := Lib.hid fun W => isInf_iv x W hx np.1
  have HI1 := Lib.hid fun W => isInf_iv y W hy np.2
  rw [hs] at HFU
  rw [Option.isSome_some] at HFU ⊢
  rw [if_pos rfl]
  unfold midB
  cases fx : finB x
  · rw [fx, Bool.not_false] at HI0
    rw [if_pos rfl]
    cases fy : finB y
    · rw [fy, Bool.not_false] at HI1
      rw [if_pos rfl]
      clear hs hx hy np fx fy
      go_enter Tryz.func36, Tryz.ntmps36
      obtain ⟨g0, g1⟩ := HW.out.cells
      go_wp2_with fail
      refine (HFU.out _).mono ?_
      rintro e1 w1 ⟨rfl, hb1⟩
      replace HW := Lib.hid (HW.out.later hb1)
      clear hb1
      clear g0 g1
      obtain ⟨g0, g1⟩ := HW.out.cells
      go_wp2_with fail
      refine (HI0.out _).mono ?_
      rintro e2 w2 ⟨rfl, hb2⟩
      replace HW := Lib.hid (HW.out.later hb2)
      clear hb2
      clear g0 g1
      obtain ⟨g0, g1⟩ := HW.out.cells
      go_wp2_with fail
      refine (HI1.out _).mono ?_
      rintro e3 w3 ⟨rfl, hb3⟩
      replace HW := Lib.hid (HW.out.later hb3)
      clear hb3
      clear g0 g1
      obtain ⟨g0, g1⟩ := HW.out.cells
      go_wp2
      go_ret
      exact ⟨rfl, HW.out.2⟩
    · rw [fy, Bool.not_true] at HI1
      rw [if_neg (by decide)]
      clear hs hx hy np fx fy
      go_enter Tryz.func36, Tryz.ntmps36
      obtain ⟨g0, g1⟩ := HW.out.cells
      go_wp2_with fail
      refine (HFU.out _).mono ?_
      rintro e1 w1 ⟨rfl, hb1⟩
      replace HW := Lib.hid (HW.out.later hb1)
      clear hb1
      clear g0 g1
      obtain ⟨g0, g1⟩ := HW.out.cells
      go_wp2_with fail
      refine (HI0.out _).mono ?_
      rintro e2 w2 ⟨rfl, hb2⟩
      replace HW := Lib.hid (HW.out.later hb2)
      clear hb2
      clear g0 g1
      obtain ⟨g0, g1⟩ := HW.out.cells
      go_wp2_with fail
      refine (HI1.out _).mono ?_
      rintro e3 w3 ⟨rfl, hb3⟩
      replace HW := Lib.hid (HW.out.later hb3)
      clear hb3
      clear g0 g1
      obtain ⟨g0, g1⟩ := HW.out.cells
      go_wp2_with fail
      refine (HI0.out _).mono ?_
      rintro e4 w4 ⟨rfl, hb4⟩
      replace HW := Lib.hid (HW.out.later hb4)
      clear hb4
      clear g0 g1
      obtain ⟨g0, g1⟩ := HW.out.cells
      go_wp2
      go_ret
      exact ⟨rfl, HW.out.2⟩
  rw [fx, Bool.not_true] at HI0
  rw [if_neg (by decide)]
  cases fy : finB y
  · rw [fy, Bool.not_false] at HI1
    rw [if_pos rfl]
    clear hs hx hy np fx fy
    go_enter Tryz.func36, Tryz.ntmps36
    obtain ⟨g0, g1⟩ := HW.out.cells
    go_wp2_with fail
    refine (HFU.out _).mono ?_
    rintro e1 w1 ⟨rfl, hb1⟩
    replace HW := Lib.hid (HW.out.later hb1)
    clear hb1
    clear g0 g1
    obtain ⟨g0, g1⟩ := HW.out.cells
    go_wp2_with fail
    refine (HI0.out _).mono ?_
    rintro e2 w2 ⟨rfl, hb2⟩
    replace HW := Lib.hid (HW.out.later hb2)
    clear hb2
    clear g0 g1
    obtain ⟨g0, g1⟩ := HW.out.cells
    go_wp2_with fail
    refine (HI0.out _).mono ?_
    rintro e3 w3 ⟨rfl, hb3⟩
    replace HW := Lib.hid (HW.out.later hb3)
    clear hb3
    clear g0 g1
    obtain ⟨g0, g1⟩ := HW.out.cells
    go_wp2_with fail
    refine (HI1.out _).mono ?_
    rintro e4 w4 ⟨rfl, hb4⟩
    replace HW := Lib.hid (HW.out.later hb4)
    clear hb4
    clear g0 g1
    obtain ⟨g0, g1⟩ := HW.out.cells
    go_wp2
    go_ret
    exact ⟨rfl, HW.out.2⟩
  rw [fy, Bool.not_true] at HI1
  rw [if_neg (by decide)]
  obtain ⟨S, m, hS, hm, l1, l2, l3, hk⟩ := mid_sum fx fy
  have ex := xpn_bd fx
  have ey := xpn_bd fy
  have cx := mnt_bd x
  have cy := mnt_bd y
  have HNX := Lib.hid fun W => cnum_fin x W hx fx
  have HNY := Lib.hid fun W => cnum_fin y W hy fy
  have HSU := Lib.hid fun p q W (h1 : RInt W p (mntB x : Nat)) (h2 : RInt W q (mntB y : Nat)) => cSum_any 0 0 (sgnB x) (sgnB y) p q (mntB x) (mntB y) (xpnB x) (xpnB y) W h1 h2 (by omega) (by omega) (by omega)
  rw [hS, hm] at HSU
  have HD := Lib.hid fun W => cDouble_any W
  have hw : IntKind.i64.wrap (m - 1) = m - 1 := IntWalk.i64_in _ (by omega)
  rw [← hk]
  have HZ := Lib.hid fun p W h => cIsZero_any (decide (S < 0)) p S.natAbs m W h
  by_cases h0 : S = 0
  · subst h0
    rw [show kb (ky (rndX 0 (m - 1) 0)) = 0 by rw [show rndX 0 (m - 1) 0 = 0 from if_pos rfl]; decide]
    rw [show decide ((0 : Int).natAbs = 0) = true from rfl] at HZ
    generalize (0 : Int).natAbs = SN at *
    generalize decide ((0 : Int) < 0) = sb at *
    clear hs hx hy np fx fy ex ey cx cy hS hm l1 l2 l3 hk hw HI HN hN
    generalize sgnB x = sgx at *
    generalize mntB x = mtx at *
    generalize xpnB x = xpx at *
    generalize sgnB y = sgy at *
    generalize mntB y = mty at *
    generalize xpnB y = xpy at *
    unfold NumNew at *
    unfold NumV at *
    go_enter Tryz.func36, Tryz.ntmps36
    obtain ⟨g0, g1⟩ := HW.out.cells
    go_wp2_with fail
    refine (HFU.out _).mono ?_
    rintro e1 w1 ⟨rfl, hb1⟩
    replace HW := Lib.hid (HW.out.later hb1)
    clear hb1
    clear g0 g1
    obtain ⟨g0, g1⟩ := HW.out.cells
    go_wp2_with fail
    refine (HI0.out _).mono ?_
    rintro e2 w2 ⟨rfl, hb2⟩
    replace HW := Lib.hid (HW.out.later hb2)
    clear hb2
    clear g0 g1
    obtain ⟨g0, g1⟩ := HW.out.cells
    go_wp2_with fail
    refine (HI0.out _).mono ?_
    rintro e3 w3 ⟨rfl, hb3⟩
    replace HW := Lib.hid (HW.out.later hb3)
    clear hb3
    clear g0 g1
    obtain ⟨g0, g1⟩ := HW.out.cells
    go_wp2_with fail
    refine (HI1.out _).mono ?_
    rintro e4 w4 ⟨rfl, hb4⟩
    replace HW := Lib.hid (HW.out.later hb4)
    clear hb4
    clear g0 g1
    obtain ⟨g0, g1⟩ := HW.out.cells
    go_upto_region 9 with fail
    clear g0 g1
    refine wp_region_q (fun w' : World => w'.cell? ⟨w.heap.size, 0, none⟩ = some (.float .f64 x) ∧ w'.cell? ⟨w.heap.size, 1, none⟩ = some (.float .f64 y)) 8 (.take 0 (.take 1 (.take 3 (.take 4 (.bag [(2, 28, []), (5, 31, []), (6, 32, []), (7, 3, [])] .nil))))) (by kernel_rfl) (by kernel_rfl) ?_
    replace HW := Lib.hid (HW.out.later (drew_below _))
    generalize World.drew _ = W9 at HW ⊢
    have HSZ : Hid (SzLe W9 W9.heap.size) := Lib.hid (Nat.le_refl _)
    have HLT : Hid (w.heap.size < W9.heap.size) := Lib.hid HW.out.1.lt
    generalize W9.heap.size = nB at HSZ HLT
    have hS : (fun w' : World => w'.cell? ⟨w.heap.size, 0, none⟩ = some (.float .f64 x) ∧ w'.cell? ⟨w.heap.size, 1, none⟩ = some (.float .f64 y)) W9 := HW.out.cells
    repeat (refine wpPq_takeL (v := ?_) rfl rfl (fun _ _ _ h => h) rfl (fun w' hSw => ?_) hS ?_; rotate_left; (focus (go_simp; with_reducible rfl)); simp only [setL])
    clear hS
    refine wpPq_bag (pick [(2, fun v w' => ∃ r, v = .agg #[.int .i64 0, .bool sgx, .pointer (some ⟨r, 0, none⟩), .int .i64 xpx] ∧ RInt w' r (mtx : Nat)), (5, fun v w' => ∃ r, v = .agg #[.int .i64 0, .bool sgy, .pointer (some ⟨r, 0, none⟩), .int .i64 xpy] ∧ RInt w' r (mty : Nat)), (6, fun v w' => ∃ r, v = .agg #[.int .i64 0, .bool sb, .pointer (some ⟨r, 0, none⟩), .int .i64 m] ∧ RInt w' r (SN : Nat)), (7, fun v w' => ∃ r, v = .pointer (some ⟨r, 0, none⟩) ∧ nB ≤ r ∧ BlkT w' r 87 #[.int .i64 0, .bool false, .pointer none, .int .i64 0])]) (pick_mono (bag_cons (fun v w1 w2 ⟨r2, hv2, hp2⟩ hb => ⟨r2, hv2, hp2.below hb⟩) (bag_cons (fun v w1 w2 ⟨r5, hv5, hp5⟩ hb => ⟨r5, hv5, hp5.below hb⟩) (bag_cons (fun v w1 w2 ⟨r6, hv6, hp6⟩ hb => ⟨r6, hv6, hp6.below hb⟩) (bag_cons (fun v w1 w2 ⟨r7, hv7, hl7, hp7⟩ hb => ⟨r7, hv7, hl7, hp7.below hb⟩) bag_nil))))) (fun w' hb => (HW.out.later hb).cells) (by simp [prE]) (fun _ _ _ _ _ h => h) (bag_cons (bag_one rfl ?_) (bag_cons (bag_one rfl ?_) (bag_cons (bag_one rfl ?_) (bag_cons (bag_one rfl ?_) bag_nil)))) bag_nil ?_
    · intro a' V hdf hin hdep hb1 K hK
      have i27 : a'.tmps[27]?.getD undef = .float .f64 x := evT (hin 27 (by decide))
      clear hin hdep hdf
      have HW := Lib.hid (HW.out.later hb1)
      have HSZ := Lib.hid (HSZ.out.below hb1)
      go_simp
      refine (HNX.out _).mono ?_
      rintro e1 V2 ⟨r, rfl, -, hr, hb2⟩
      exact hK _ _ ⟨r, rfl, hr⟩ hb2
    · intro a' V hdf hin hdep hb1 K hK
      have i30 : a'.tmps[30]?.getD undef = .float .f64 y := evT (hin 30 (by decide))
      clear hin hdep hdf
      have HW := Lib.hid (HW.out.later hb1)
      have HSZ := Lib.hid (HSZ.out.below hb1)
      go_simp
      refine (HNY.out _).mono ?_
      rintro e1 V2 ⟨r, rfl, -, hr, hb2⟩
      exact hK _ _ ⟨r, rfl, hr⟩ hb2
    · intro a' V hdf hin hdep hb1 K hK
      obtain ⟨r2, hv2, hp2⟩ : (fun (v : Value) (w' : World) => ∃ r, v = .agg #[.int .i64 0, .bool sgx, .pointer (some ⟨r, 0, none⟩), .int .i64 xpx] ∧ RInt w' r (mtx : Nat)) (a'.tmps.getD 28 undef) V := hdep ⟨2, .data⟩ (by simp) rfl 28 (by decide)
      replace hv2 := evT hv2
      obtain ⟨r5, hv5, hp5⟩ : (fun (v : Value) (w' : World) => ∃ r, v = .agg #[.int .i64 0, .bool sgy, .pointer (some ⟨r, 0, none⟩), .int .i64 xpy] ∧ RInt w' r (mty : Nat)) (a'.tmps.getD 31 undef) V := hdep ⟨5, .data⟩ (by simp) rfl 31 (by decide)
      replace hv5 := evT hv5
      clear hin hdep hdf
      have HW := Lib.hid (HW.out.later hb1)
      have HSZ := Lib.hid (HSZ.out.below hb1)
      go_simp
      refine (HSU.out _ _ _ hp2 hp5).mono ?_
      rintro e1 V2 ⟨r, rfl, -, hr, hb2⟩
      exact hK _ _ ⟨r, rfl, hr⟩ hb2
    · intro a' V hdf hin hdep hb1 K hK
      clear hin hdep hdf
      have HW := Lib.hid (HW.out.later hb1)
      have HSZ := Lib.hid (HSZ.out.below hb1)
      go_simp
      exact hK _ _ ⟨_, rfl, HSZ.out, BlkT.new V _ _⟩ (Below.alloc_self _ _)
    intro vals B1 hb1 hR
    replace HW := Lib.hid (HW.out.later hb1)
    replace HSZ := Lib.hid (HSZ.out.below hb1)
    obtain ⟨r2, hv2, hp2⟩ : (fun (v : Value) (w' : World) => ∃ r, v = .agg #[.int .i64 0, .bool sgx, .pointer (some ⟨r, 0, none⟩), .int .i64 xpx] ∧ RInt w' r (mtx : Nat)) (vals 2) B1 := hR (2, 28) (by decide)
    obtain ⟨r5, hv5, hp5⟩ : (fun (v : Value) (w' : World) => ∃ r, v = .agg #[.int .i64 0, .bool sgy, .pointer (some ⟨r, 0, none⟩), .int .i64 xpy] ∧ RInt w' r (mty : Nat)) (vals 5) B1 := hR (5, 31) (by decide)
    obtain ⟨r6, hv6, hp6⟩ : (fun (v : Value) (w' : World) => ∃ r, v = .agg #[.int .i64 0, .bool sb, .pointer (some ⟨r, 0, none⟩), .int .i64 m] ∧ RInt w' r (SN : Nat)) (vals 6) B1 := hR (6, 32) (by decide)
    obtain ⟨r7, hv7, hl7, hp7⟩ : (fun (v : Value) (w' : World) => ∃ r, v = .pointer (some ⟨r, 0, none⟩) ∧ nB ≤ r ∧ BlkT w' r 87 #[.int .i64 0, .bool false, .pointer none, .int .i64 0]) (vals 7) B1 := hR (7, 3) (by decide)
    clear hb1 hR
    simp only [prE, List.flatMap_cons, List.flatMap_nil, List.cons_append, List.nil_append, List.append_nil, setD, List.setIfInBounds_toArray, List.set_cons_zero, List.set_cons_succ, hv2, hv5, hv6, hv7]
    clear vals hv2 hv5 hv6 hv7
    refine wpPq_nil ?_
    simp only [List.drop_succ_cons, List.drop_zero]
    skip
    have HNE : Hid (w.heap.size ≤ r7) := Lib.hid (by have := HLT.out; omega)
    have HQ := Lib.hid hp6
    have HB := Lib.hid hp7
    clear hp2 hp5 hp6 hp7 hl7 HSZ HLT
    have HS := Lib.hid (((Bks.nil w).later HW.out.2).cons HB.out)
    clear HW
    obtain ⟨⟨d0, d1, d2, d3⟩, d4, d5, d6, d7⟩ := (HS.out.get (.head _)).cells4
    go_upto_region 10 with fail
    replace HQ := Lib.hid (HQ.out.set4 HB.out (ne_num HQ.out HB.out) (.int .i64 0) (.bool sb) (.pointer (some ⟨r6, 0, none⟩)) (.int .i64 m))
    replace HS := Lib.hid (HS.out.set4 HNE.out (fun t m => by cases m) (.int .i64 0) (.bool sb) (.pointer (some ⟨r6, 0, none⟩)) (.int .i64 m))
    clear HB d0 d1 d2 d3 d4 d5 d6 d7
    generalize World.setCell (World.setCell (World.setCell (World.setCell _ _ _) _ _) _ _) _ _ = W10 at HS HQ ⊢
    obtain ⟨⟨d0, d1, d2, d3⟩, -⟩ := (HS.out.get (.head _)).cells4
    go_wp2_with fail
    refine (HZ.out r6 _ HQ.out).mono ?_
    rintro e11 w11 ⟨rfl, hb11⟩
    replace HQ := Lib.hid (HQ.out.below hb11)
    replace HS := Lib.hid (HS.out.later hb11)
    clear hb11 d0 d1 d2 d3
    obtain ⟨⟨d0, d1, d2, d3⟩, -⟩ := (HS.out.get (.head _)).cells4
    go_wp2
    go_ret
    exact ⟨rfl, HS.out.2⟩
  rw [decide_eq_false (show S.natAbs ≠ 0 by omega)] at HZ
  have HRD := Lib.hid fun p W h => cRound_any (decide (S < 0)) p S.natAbs (m - 1) false 0 W h (by omega) l1 (by omega) (by omega) (fun t => by cases t) (.inl rfl)
  rw [show roundR (decide (S < 0)) S.natAbs (m - 1) false 0 = rndX S (m - 1) 0 by unfold roundR; rw [if_neg (by decide), sgI_own]] at HRD
  obtain ⟨wR, nR⟩ := rndX_lt S (m - 1) 0
  have hadd := add_nought wR (num_iff.2 nR)
  generalize kb (ky (rndX S (m - 1) 0)) = KK at *
  generalize rndX S (m - 1) 0 = R at *
  have HNB := Lib.hid fun fl W => cnumber_any R fl W
  generalize S.natAbs = SN at *
  generalize decide (S < 0) = sb at *
  clear hs hx hy np fx fy ex ey cx cy hS hm l1 l2 l3 hk h0 wR nR HI HN hN
  obtain ⟨m1, hm1⟩ : ∃ k, m - 1 = k := ⟨_, rfl⟩
  rw [hm1] at HRD
  replace hw : IntKind.i64.wrap (m - 1) = m1 := hw.trans hm1
  clear hm1
  generalize sgnB x = sgx at *
  generalize mntB x = mtx at *
  generalize xpnB x = xpx at *
  generalize sgnB y = sgy at *
  generalize mntB y = mty at *
  generalize xpnB y = xpy at *
  unfold NumNew at *
  unfold NumV at *
  unfold fmtV at *
  go_enter Tryz.func36, Tryz.ntmps36
  obtain ⟨g0, g1⟩ := HW.out.cells
  go_wp2_with fail
  refine (HFU.out _).mono ?_
  rintro e1 w1 ⟨rfl, hb1⟩
  replace HW := Lib.hid (HW.out.later hb1)
  clear hb1
  clear g0 g1
  obtain ⟨g0, g1⟩ := HW.out.cells
  go_wp2_with fail
  refine (HI0.out _).mono ?_
  rintro e2 w2 ⟨rfl, hb2⟩
  replace HW := Lib.hid (HW.out.later hb2)
  clear hb2
  clear g0 g1
  obtain ⟨g0, g1⟩ := HW.out.cells
  go_wp2_with fail
  refine (HI0.out _).mono ?_
  rintro e3 w3 ⟨rfl, hb3⟩
  replace HW := Lib.hid (HW.out.later hb3)
  clear hb3
  clear g0 g1
  obtain ⟨g0, g1⟩ := HW.out.cells
  go_wp2_with fail
  refine (HI1.out _).mono ?_
  rintro e4 w4 ⟨rfl, hb4⟩
  replace HW := Lib.hid (HW.out.later hb4)
  clear hb4
  clear g0 g1
  obtain ⟨g0, g1⟩ := HW.out.cells
  go_upto_region 9 with fail
  clear g0 g1
  refine wp_region_q (fun w' : World => w'.cell? ⟨w.heap.size, 0, none⟩ = some (.float .f64 x) ∧ w'.cell? ⟨w.heap.size, 1, none⟩ = some (.float .f64 y)) 8 (.take 0 (.take 1 (.take 3 (.take 4 (.bag [(2, 28, []), (5, 31, []), (6, 32, []), (7, 3, [])] .nil))))) (by kernel_rfl) (by kernel_rfl) ?_
  replace HW := Lib.hid (HW.out.later (drew_below _))
  generalize World.drew _ = W9 at HW ⊢
  have HSZ : Hid (SzLe W9 W9.heap.size) := Lib.hid (Nat.le_refl _)
  have HLT : Hid (w.heap.size < W9.heap.size) := Lib.hid HW.out.1.lt
  generalize W9.heap.size = nB at HSZ HLT
  have hS : (fun w' : World => w'.cell? ⟨w.heap.size, 0, none⟩ = some (.float .f64 x) ∧ w'.cell? ⟨w.heap.size, 1, none⟩ = some (.float .f64 y)) W9 := HW.out.cells
  repeat (refine wpPq_takeL (v := ?_) rfl rfl (fun _ _ _ h => h) rfl (fun w' hSw => ?_) hS ?_; rotate_left; (focus (go_simp; with_reducible rfl)); simp only [setL])
  clear hS
  refine wpPq_bag (pick [(2, fun v w' => ∃ r, v = .agg #[.int .i64 0, .bool sgx, .pointer (some ⟨r, 0, none⟩), .int .i64 xpx] ∧ RInt w' r (mtx : Nat)), (5, fun v w' => ∃ r, v = .agg #[.int .i64 0, .bool sgy, .pointer (some ⟨r, 0, none⟩), .int .i64 xpy] ∧ RInt w' r (mty : Nat)), (6, fun v w' => ∃ r, v = .agg #[.int .i64 0, .bool sb, .pointer (some ⟨r, 0, none⟩), .int .i64 m] ∧ RInt w' r (SN : Nat)), (7, fun v w' => ∃ r, v = .pointer (some ⟨r, 0, none⟩) ∧ nB ≤ r ∧ BlkT w' r 87 #[.int .i64 0, .bool false, .pointer none, .int .i64 0])]) (pick_mono (bag_cons (fun v w1 w2 ⟨r2, hv2, hp2⟩ hb => ⟨r2, hv2, hp2.below hb⟩) (bag_cons (fun v w1 w2 ⟨r5, hv5, hp5⟩ hb => ⟨r5, hv5, hp5.below hb⟩) (bag_cons (fun v w1 w2 ⟨r6, hv6, hp6⟩ hb => ⟨r6, hv6, hp6.below hb⟩) (bag_cons (fun v w1 w2 ⟨r7, hv7, hl7, hp7⟩ hb => ⟨r7, hv7, hl7, hp7.below hb⟩) bag_nil))))) (fun w' hb => (HW.out.later hb).cells) (by simp [prE]) (fun _ _ _ _ _ h => h) (bag_cons (bag_one rfl ?_) (bag_cons (bag_one rfl ?_) (bag_cons (bag_one rfl ?_) (bag_cons (bag_one rfl ?_) bag_nil)))) bag_nil ?_
  · intro a' V hdf hin hdep hb1 K hK
    have i27 : a'.tmps[27]?.getD undef = .float .f64 x := evT (hin 27 (by decide))
    clear hin hdep hdf
    have HW := Lib.hid (HW.out.later hb1)
    have HSZ := Lib.hid (HSZ.out.below hb1)
    go_simp
    refine (HNX.out _).mono ?_
    rintro e1 V2 ⟨r, rfl, -, hr, hb2⟩
    exact hK _ _ ⟨r, rfl, hr⟩ hb2
  · intro a' V hdf hin hdep hb1 K hK
    have i30 : a'.tmps[30]?.getD undef = .float .f64 y := evT (hin 30 (by decide))
    clear hin hdep hdf
    have HW := Lib.hid (HW.out.later hb1)
    have HSZ := Lib.hid (HSZ.out.below hb1)
    go_simp
    refine (HNY.out _).mono ?_
    rintro e1 V2 ⟨r, rfl, -, hr, hb2⟩
    exact hK _ _ ⟨r, rfl, hr⟩ hb2
  · intro a' V hdf hin hdep hb1 K hK
    obtain ⟨r2, hv2, hp2⟩ : (fun (v : Value) (w' : World) => ∃ r, v = .agg #[.int .i64 0, .bool sgx, .pointer (some ⟨r, 0, none⟩), .int .i64 xpx] ∧ RInt w' r (mtx : Nat)) (a'.tmps.getD 28 undef) V := hdep ⟨2, .data⟩ (by simp) rfl 28 (by decide)
    replace hv2 := evT hv2
    obtain ⟨r5, hv5, hp5⟩ : (fun (v : Value) (w' : World) => ∃ r, v = .agg #[.int .i64 0, .bool sgy, .pointer (some ⟨r, 0, none⟩), .int .i64 xpy] ∧ RInt w' r (mty : Nat)) (a'.tmps.getD 31 undef) V := hdep ⟨5, .data⟩ (by simp) rfl 31 (by decide)
    replace hv5 := evT hv5
    clear hin hdep hdf
    have HW := Lib.hid (HW.out.later hb1)
    have HSZ := Lib.hid (HSZ.out.below hb1)
    go_simp
    refine (HSU.out _ _ _ hp2 hp5).mono ?_
    rintro e1 V2 ⟨r, rfl, -, hr, hb2⟩
    exact hK _ _ ⟨r, rfl, hr⟩ hb2
  · intro a' V hdf hin hdep hb1 K hK
    clear hin hdep hdf
    have HW := Lib.hid (HW.out.later hb1)
    have HSZ := Lib.hid (HSZ.out.below hb1)
    go_simp
    exact hK _ _ ⟨_, rfl, HSZ.out, BlkT.new V _ _⟩ (Below.alloc_self _ _)
  intro vals B1 hb1 hR
  replace HW := Lib.hid (HW.out.later hb1)
  replace HSZ := Lib.hid (HSZ.out.below hb1)
  obtain ⟨r2, hv2, hp2⟩ : (fun (v : Value) (w' : World) => ∃ r, v = .agg #[.int .i64 0, .bool sgx, .pointer (some ⟨r, 0, none⟩), .int .i64 xpx] ∧ RInt w' r (mtx : Nat)) (vals 2) B1 := hR (2, 28) (by decide)
  obtain ⟨r5, hv5, hp5⟩ : (fun (v : Value) (w' : World) => ∃ r, v = .agg #[.int .i64 0, .bool sgy, .pointer (some ⟨r, 0, none⟩), .int .i64 xpy] ∧ RInt w' r (mty : Nat)) (vals 5) B1 := hR (5, 31) (by decide)
  obtain ⟨r6, hv6, hp6⟩ : (fun (v : Value) (w' : World) => ∃ r, v = .agg #[.int .i64 0, .bool sb, .pointer (some ⟨r, 0, none⟩), .int .i64 m] ∧ RInt w' r (SN : Nat)) (vals 6) B1 := hR (6, 32) (by decide)
  obtain ⟨r7, hv7, hl7, hp7⟩ : (fun (v : Value) (w' : World) => ∃ r, v = .pointer (some ⟨r, 0, none⟩) ∧ nB ≤ r ∧ BlkT w' r 87 #[.int .i64 0, .bool false, .pointer none, .int .i64 0]) (vals 7) B1 := hR (7, 3) (by decide)
  clear hb1 hR
  simp only [prE, List.flatMap_cons, List.flatMap_nil, List.cons_append, List.nil_append, List.append_nil, setD, List.setIfInBounds_toArray, List.set_cons_zero, List.set_cons_succ, hv2, hv5, hv6, hv7]
  clear vals hv2 hv5 hv6 hv7
  refine wpPq_nil ?_
  simp only [List.drop_succ_cons, List.drop_zero]
  skip
  have HNE : Hid (w.heap.size ≤ r7) := Lib.hid (by have := HLT.out; omega)
  have HQ := Lib.hid hp6
  have HB := Lib.hid hp7
  clear hp2 hp5 hp6 hp7 hl7 HSZ HLT
  have HS := Lib.hid (((Bks.nil w).later HW.out.2).cons HB.out)
  clear HW
  obtain ⟨⟨d0, d1, d2, d3⟩, d4, d5, d6, d7⟩ := (HS.out.get (.head _)).cells4
  go_upto_region 10 with fail
  replace HQ := Lib.hid (HQ.out.set4 HB.out (ne_num HQ.out HB.out) (.int .i64 0) (.bool sb) (.pointer (some ⟨r6, 0, none⟩)) (.int .i64 m))
  replace HS := Lib.hid (HS.out.set4 HNE.out (fun t m => by cases m) (.int .i64 0) (.bool sb) (.pointer (some ⟨r6, 0, none⟩)) (.int .i64 m))
  clear HB d0 d1 d2 d3 d4 d5 d6 d7
  generalize World.setCell (World.setCell (World.setCell (World.setCell _ _ _) _ _) _ _) _ _ = W10 at HS HQ ⊢
  obtain ⟨⟨d0, d1, d2, d3⟩, -⟩ := (HS.out.get (.head _)).cells4
  go_wp2_with fail
  refine (HZ.out r6 _ HQ.out).mono ?_
  rintro e11 w11 ⟨rfl, hb11⟩
  replace HQ := Lib.hid (HQ.out.below hb11)
  replace HS := Lib.hid (HS.out.later hb11)
  clear hb11 d0 d1 d2 d3
  obtain ⟨⟨d0, d1, d2, d3⟩, -⟩ := (HS.out.get (.head _)).cells4
  go_upto_region 12 with fail
  clear d0 d1 d2 d3
  refine wp_region_pl (fun w' : World => (w'.cell? ⟨r7, 0, none⟩ = some (.int .i64 0) ∧ w'.cell? ⟨r7, 1, none⟩ = some (.bool sb) ∧ w'.cell? ⟨r7, 2, none⟩ = some (.pointer (some ⟨r6, 0, none⟩)) ∧ w'.cell? ⟨r7, 3, none⟩ = some (.int .i64 m))) 11 (.take 1 (.take 2 (.take 3 (.take 4 (.take 5 (.take 6 (.take 7 (.run 0 (.run 8 (.take 9 (.take 10 (.nil)))))))))))) (by kernel_rfl) (by kernel_rfl) ?_
  replace HS := Lib.hid (HS.out.later (drew_below _))
  replace HQ := Lib.hid (HQ.out.below (drew_below _))
  generalize World.drew _ = W12 at HS HQ ⊢
  repeat (first | (refine wpPl_takeL (v := ?_) rfl rfl (fun _ _ _ h => h) rfl (fun w' hSw => ?_) (HS.out.get (.head _)).cells4.1 ?_; rotate_left; (focus (go_simp; with_reducible rfl)); simp only [setL]) | (refine wpPl_skipL rfl rfl (fun _ _ _ h => h) rfl (HS.out.get (.head _)).cells4.1 ?_; simp only [setL]))
  refine wpPl_goL rfl rfl fun K' hK => ?_
  go_simp
  refine (HD.out _).mono ?_
  rintro e1 W12v1 ⟨rfl, hb1⟩
  replace HS := Lib.hid (HS.out.later hb1)
  replace HQ := Lib.hid (HQ.out.below hb1)
  refine hK _ _ (HS.out.get (.head _)).cells4.1 ?_
  clear hK K' hb1
  try simp only [Act.put, setL]
  repeat (first | (refine wpPl_takeL (v := ?_) rfl rfl (fun _ _ _ h => h) rfl (fun w' hSw => ?_) (HS.out.get (.head _)).cells4.1 ?_; rotate_left; (focus (go_simp; with_reducible rfl)); simp only [setL]) | (refine wpPl_skipL rfl rfl (fun _ _ _ h => h) rfl (HS.out.get (.head _)).cells4.1 ?_; simp only [setL]))
  refine wpPl_goL rfl rfl fun K' hK => ?_
  go_simp
  refine (HRD.out _ _ HQ.out).mono ?_
  rintro e1 W12v2 ⟨fl, rfl, hb1⟩
  replace HS := Lib.hid (HS.out.later hb1)
  replace HQ := Lib.hid (HQ.out.below hb1)
  refine hK _ _ (HS.out.get (.head _)).cells4.1 ?_
  clear hK K' hb1
  try simp only [Act.put, setL]
  repeat (first | (refine wpPl_takeL (v := ?_) rfl rfl (fun _ _ _ h => h) rfl (fun w' hSw => ?_) (HS.out.get (.head _)).cells4.1 ?_; rotate_left; (focus (go_simp; with_reducible rfl)); simp only [setL]) | (refine wpPl_skipL rfl rfl (fun _ _ _ h => h) rfl (HS.out.get (.head _)).cells4.1 ?_; simp only [setL]))
  refine wpPl_nil ?_
  simp only [List.drop_succ_cons, List.drop_zero]
  go_wp2_with fail
  refine (HNB.out _ _).mono ?_
  rintro e12 w12 ⟨rfl, hb12⟩
  replace HS := Lib.hid (HS.out.later hb12)
  clear hb12
  go_wp2
  go_ret
  exact ⟨rfl, HS.out.2⟩

set_option maxRecDepth 100000 in
set_option maxHeartbeats 3200000 in
theorem rMost_kb (k1 k2 : Int) (w : World) (h1 : -(kInf : Int) ≤ k1) (h2 : k1 ≤ kInf) (h3 : -(kInf : Int) ≤ k2) (h4 : k2 ≤ kInf) : Calls Tryz.prog 64 #[.float .f64 (kb k1), .float .f64 (kb k2)] w (Gives (.float .f64 (kb (max k1 k2))) w) := by
  obtain ⟨w1, q1, e1⟩ := kb_lt h1 h2
  obtain ⟨w2, q2, e2⟩ := kb_lt h3 h4
  have n1 := num_iff.2 q1
  have n2 := num_iff.2 q2
  have t1 := gt_test w2 w1 n2 n1
  rw [e1, e2] at t1
  by_cases c : k1 < k2
  · rw [decide_eq_true c] at t1
    rw [show max k1 k2 = k2 by omega]
    clear n1 n2 w1 w2 q1 q2 c
    generalize kb k1 = x at *
    generalize kb k2 = y at *
    go_enter Tryz.func64, Tryz.ntmps64
    go_wp2
    go_ret
    exact ⟨rfl, Below.refl _ _⟩
  · rw [decide_eq_false c] at t1
    rw [show max k1 k2 = k1 by omega]
    clear n1 n2 w1 w2 q1 q2 c
    generalize kb k1 = x at *
    generalize kb k2 = y at *
    go_enter Tryz.func64, Tryz.ntmps64
    go_wp2
    go_ret
    exact ⟨rfl, Below.refl _ _⟩

set_option maxRecDepth 100000 in
set_option maxHeartbeats 3200000 in
theorem rRadius_any (x y : Nat) (w : World) (hx : W64 x) (hy : W64 y) : Calls Tryz.prog 38 #[.agg #[.float .f64 x, .float .f64 y]] w (Gives (.float .f64 (radV x y)) w) := by
  have HFU := Lib.hid fun W => rFull_any x y W hx hy
  have HN : Hid (∀ w, (callFunc 48 #[.int .u64 9221120237041090561]).run Tryz.prog w = .ok (.value (.float .f64 9221120237041090561)) w) := Lib.hid (ffrom_eq 9221120237041090561)
  have hN := HN.out
  have HI := Lib.hid fun W => inf_any W
  have HW := Lib.hid (IBox.new w x y)
  have HMD := Lib.hid fun W => rMid_any x y W hx hy
  unfold radV
  unfold midV at HMD
  rcases hs : ivK x y with _ | p
  · rw [hs] at HFU HMD
    rw [if_neg (by decide)]
    rw [Option.isSome_none] at HFU
    clear hs hx hy HN HI
    go_enter Tryz.func38, Tryz.ntmps38
    obtain ⟨g0, g1⟩ := HW.out.cells
    go_wp2_with fail
    refine (HFU.out _).mono ?_
    rintro e1 w1 ⟨rfl, hb1⟩
    replace HW := Lib.hid (HW.out.later hb1)
    clear hb1
    clear g0 g1
    obtain ⟨g0, g1⟩ := HW.out.cells
    go_wp2
    go_ret
    exact ⟨rfl, HW.out.2⟩
  have np : nanB x = false ∧ nanB y = false := by obtain ⟨a, b, -⟩ := ivK_some hs; exact ⟨a, b⟩
  have HI0 := Lib.hid fun W => isInf_iv x W hx np.1
  have HI1 := Lib.hid fun W => isInf_iv y W hy np.2
  have hok := mid_ok hx hy hs
  rw [hs] at HMD
  rw [Option.isSome_some, if_pos rfl] at HMD
  rw [hs] at HFU
  rw [Option.isSome_some] at HFU ⊢
  rw [if_pos rfl]
  unfold radB
  cases fx : finB x
  · rw [fx, Bool.not_false] at HI0
    rw [if_neg (by simp), show kInf = 9218868437227405312 from rfl]
    clear hs hx hy np fx hok
    generalize finB y = fy at *
    go_enter Tryz.func38, Tryz.ntmps38
    obtain ⟨g0, g1⟩ := HW.out.cells
    go_wp2_with fail
    refine (HFU.out _).mono ?_
    rintro e1 w1 ⟨rfl, hb1⟩
    replace HW := Lib.hid (HW.out.later hb1)
    clear hb1
    clear g0 g1
    obtain ⟨g0, g1⟩ := HW.out.cells
    go_wp2_with fail
    refine (HI0.out _).mono ?_
    rintro e2 w2 ⟨rfl, hb2⟩
    replace HW := Lib.hid (HW.out.later hb2)
    clear hb2
    clear g0 g1
    obtain ⟨g0, g1⟩ := HW.out.cells
    go_wp2_with fail
    refine (HI.out _).mono ?_
    rintro e3 w3 ⟨rfl, hb3⟩
    replace HW := Lib.hid (HW.out.later hb3)
    clear hb3
    clear g0 g1
    obtain ⟨g0, g1⟩ := HW.out.cells
    go_wp2
    go_ret
    exact ⟨rfl, HW.out.2⟩
  rw [fx, Bool.not_true] at HI0
  cases fy : finB y
  · rw [fy, Bool.not_false] at HI1
    rw [if_neg (by simp), show kInf = 9218868437227405312 from rfl]
    clear hs hx hy np fx fy hok
    go_enter Tryz.func38, Tryz.ntmps38
    obtain ⟨g0, g1⟩ := HW.out.cells
    go_wp2_with fail
    refine (HFU.out _).mono ?_
    rintro e1 w1 ⟨rfl, hb1⟩
    replace HW := Lib.hid (HW.out.later hb1)
    clear hb1
    clear g0 g1
    obtain ⟨g0, g1⟩ := HW.out.cells
    go_wp2_with fail
    refine (HI0.out _).mono ?_
    rintro e2 w2 ⟨rfl, hb2⟩
    replace HW := Lib.hid (HW.out.later hb2)
    clear hb2
    clear g0 g1
    obtain ⟨g0, g1⟩ := HW.out.cells
    go_wp2_with fail
    refine (HI1.out _).mono ?_
    rintro e3 w3 ⟨rfl, hb3⟩
    replace HW := Lib.hid (HW.out.later hb3)
    clear hb3
    clear g0 g1
    obtain ⟨g0, g1⟩ := HW.out.cells
    go_wp2_with fail
    refine (HI.out _).mono ?_
    rintro e4 w4 ⟨rfl, hb4⟩
    replace HW := Lib.hid (HW.out.later hb4)
    clear hb4
    clear g0 g1
    obtain ⟨g0, g1⟩ := HW.out.cells
    go_wp2
    go_ret
    exact ⟨rfl, HW.out.2⟩
  rw [fy, Bool.not_true] at HI1
  rw [if_pos ⟨rfl, rfl⟩]
  obtain ⟨wm, fm, hm⟩ := hok
  have hmm : fI x ≤ fI (midB x y) ∧ fI (midB x y) ≤ fI y := by
    rw [hs] at hm
    obtain ⟨-, -, rfl⟩ := ivK_some hs
    have hm2 : (finB (midB x y) && (decide (ky x ≤ ky (midB x y)) && decide (ky (midB x y) ≤ ky y))) = true := hm
    rw [Bool.and_eq_true, Bool.and_eq_true, decide_eq_true_iff, decide_eq_true_iff] at hm2
    have v1 := (ky_le_vI hx wm fx fm (Int.le_refl 1074)).1 hm2.2.1
    have v2 := (ky_le_vI wm hy fm fy (Int.le_refl 1074)).1 hm2.2.2
    rw [← fI_vI, ← fI_vI] at v1 v2
    exact ⟨v1, v2⟩
  have HNX := Lib.hid fun W => cnum_fin x W hx fx
  have HNY := Lib.hid fun W => cnum_fin y W hy fy
  have HNM := Lib.hid fun W => cnum_fin (midB x y) W wm fm
  obtain ⟨N1, m1, hN1, hm1, l11, l21, l31, hr1, hk1⟩ := up_diff (x := x) (y := (midB x y)) fx fm hx hmm.1
  have bx1 := xpn_bd (x := x) fx
  have dy1 := xpn_bd (x := (midB x y)) fm
  have cx1 := mnt_bd x
  have cy1 := mnt_bd (midB x y)
  have HSU1 := Lib.hid fun p q W (h1 : RInt W p (mntB (midB x y) : Nat)) (h2 : RInt W q (mntB x : Nat)) => cSum_any 0 0 (sgnB (midB x y)) (!sgnB x) p q (mntB (midB x y)) (mntB x) (xpnB (midB x y)) (xpnB x) W h1 h2 (by omega) (by omega) (by omega)
  rw [hN1, hm1] at HSU1
  have HUP1 := Lib.hid fun neg p W (h : RInt W p (N1 : Nat)) => cUp_any neg p N1 m1 W h l11 l21 l31
  have HMI1 := Lib.hid fun p W => cMinus_any 0 (sgnB x) p (xpnB x) W
  generalize decide (addI (sgnB (midB x y)) (mntB (midB x y)) (xpnB (midB x y)) (!sgnB x) (mntB x) (xpnB x) < 0) = sb1 at *
  obtain ⟨N2, m2, hN2, hm2, l12, l22, l32, hr2, hk2⟩ := up_diff (x := (midB x y)) (y := y) fm fy wm hmm.2
  have bx2 := xpn_bd (x := (midB x y)) fm
  have dy2 := xpn_bd (x := y) fy
  have cx2 := mnt_bd (midB x y)
  have cy2 := mnt_bd y
  have HSU2 := Lib.hid fun p q W (h1 : RInt W p (mntB y : Nat)) (h2 : RInt W q (mntB (midB x y) : Nat)) => cSum_any 0 0 (sgnB y) (!sgnB (midB x y)) p q (mntB y) (mntB (midB x y)) (xpnB y) (xpnB (midB x y)) W h1 h2 (by omega) (by omega) (by omega)
  rw [hN2, hm2] at HSU2
  have HUP2 := Lib.hid fun neg p W (h : RInt W p (N2 : Nat)) => cUp_any neg p N2 m2 W h l12 l22 l32
  have HMI2 := Lib.hid fun p W => cMinus_any 0 (sgnB (midB x y)) p (xpnB (midB x y)) W
  generalize decide (addI (sgnB y) (mntB y) (xpnB y) (!sgnB (midB x y)) (mntB (midB x y)) (xpnB (midB x y)) < 0) = sb2 at *
  unfold rdK
  rw [hr1] at HUP1
  rw [hr2] at HUP2
  have c1 := ad_bd (midB x y) (flipB x)
  have c2 := ad_bd y (flipB (midB x y))
  have HMO := Lib.hid fun W => rMost_kb (adK (midB x y) (flipB x) 3) (adK y (flipB (midB x y)) 3) W (by omega) (by omega) (by omega) (by omega)
  generalize kb (max (adK (midB x y) (flipB x) 3) (adK y (flipB (midB x y)) 3)) = KK at *
  generalize kb (adK (midB x y) (flipB x) 3) = R1 at *
  generalize kb (adK y (flipB (midB x y)) 3) = R2 at *
  clear hN1 hm1 l11 l21 l31 bx1 dy1 cx1 cy1
  clear hN2 hm2 l12 l22 l32 bx2 dy2 cx2 cy2
  clear c1 c2 hr1 hr2 hk1 hk2 hmm hm wm fm hs hx hy np fx fy HI HN hN
  generalize sgnB x = sgx at *
  generalize mntB x = mtx at *
  generalize xpnB x = xpx at *
  generalize sgnB y = sgy at *
  generalize mntB y = mty at *
  generalize xpnB y = xpy at *
  generalize sgnB (midB x y) = sgm at *
  generalize mntB (midB x y) = mtm at *
  generalize xpnB (midB x y) = xpm at *
  generalize midB x y = mB at *
  unfold NumNew at *
  unfold NumV at *
  go_enter Tryz.func38, Tryz.ntmps38
  obtain ⟨g0, g1⟩ := HW.out.cells
  go_wp2_with fail
  refine (HFU.out _).mono ?_
  rintro e1 w1 ⟨rfl, hb1⟩
  replace HW := Lib.hid (HW.out.later hb1)
  clear hb1
  clear g0 g1
  obtain ⟨g0, g1⟩ := HW.out.cells
  go_wp2_with fail
  refine (HI0.out _).mono ?_
  rintro e2 w2 ⟨rfl, hb2⟩
  replace HW := Lib.hid (HW.out.later hb2)
  clear hb2
  clear g0 g1
  obtain ⟨g0, g1⟩ := HW.out.cells
  go_wp2_with fail
  refine (HI1.out _).mono ?_
  rintro e3 w3 ⟨rfl, hb3⟩
  replace HW := Lib.hid (HW.out.later hb3)
  clear hb3
  clear g0 g1
  obtain ⟨g0, g1⟩ := HW.out.cells
  go_wp2_with fail
  refine (HMD.out _).mono ?_
  rintro e4 w4 ⟨rfl, hb4⟩
  replace HW := Lib.hid (HW.out.later hb4)
  clear hb4
  clear g0 g1
  obtain ⟨g0, g1⟩ := HW.out.cells
  go_wp2_with fail
  refine (HNM.out _).mono ?_
  rintro e5 w5 ⟨q0, rfl, -, hq0, hb5⟩
  replace HW := Lib.hid (HW.out.later hb5)
  have HQ0 := Lib.hid hq0
  clear hq0
  clear hb5
  clear g0 g1
  obtain ⟨g0, g1⟩ := HW.out.cells
  go_upto_region 6 with fail
  have HS := Lib.hid ((((Bks.nil w).later HW.out.2).cons HW.out.1).alloc #[.int .i64 0, .bool sgm, .pointer (some ⟨q0, 0, none⟩), .int .i64 xpm] 87)
  replace HQ0 := Lib.hid (HQ0.out.below (Below.alloc_self _ (.cells #[.int .i64 0, .bool sgm, .pointer (some ⟨q0, 0, none⟩), .int .i64 xpm] 87)))
  clear HW g0 g1
  generalize World.alloc w5 _ = W5 at HS HQ0 ⊢
  generalize w5.heap.size = r3 at HS ⊢
  refine wp_region_pl (fun w' : World => (w'.cell? ⟨r3, 0, none⟩ = some (.int .i64 0) ∧ w'.cell? ⟨r3, 1, none⟩ = some (.bool sgm) ∧ w'.cell? ⟨r3, 2, none⟩ = some (.pointer (some ⟨q0, 0, none⟩)) ∧ w'.cell? ⟨r3, 3, none⟩ = some (.int .i64 xpm)) ∧ w'.cell? ⟨w.heap.size, 0, none⟩ = some (.float .f64 x) ∧ w'.cell? ⟨w.heap.size, 1, none⟩ = some (.float .f64 y)) 11 (.take 0 (.take 1 (.take 2 (.take 7 (.take 8 (.take 10 (.run 3 (.run 4 (.run 5 (.run 6 (.run 9 (.nil)))))))))))) (by kernel_rfl) (by kernel_rfl) ?_
  replace HS := Lib.hid (HS.out.later (drew_below _))
  replace HQ0 := Lib.hid (HQ0.out.below (drew_below _))
  generalize World.drew _ = W6 at HS HQ0 ⊢
  repeat (first | (refine wpPl_takeL (v := ?_) rfl rfl (fun _ _ _ h => h) rfl (fun w' hSw => ?_) HS.out.four_two ?_; rotate_left; (focus (go_simp; with_reducible rfl)); simp only [setL]) | (refine wpPl_skipL rfl rfl (fun _ _ _ h => h) rfl HS.out.four_two ?_; simp only [setL]))
  refine wpPl_goL rfl rfl fun K' hK => ?_
  go_simp
  refine (HNX.out _).mono ?_
  rintro e1 W6v1 ⟨q1, rfl, -, hq1, hb1⟩
  replace HS := Lib.hid (HS.out.later hb1)
  replace HQ0 := Lib.hid (HQ0.out.below hb1)
  have HQ1 := Lib.hid hq1
  clear hq1
  refine hK _ _ HS.out.four_two ?_
  clear hK K' hb1
  try simp only [Act.put, setL]
  repeat (first | (refine wpPl_takeL (v := ?_) rfl rfl (fun _ _ _ h => h) rfl (fun w' hSw => ?_) HS.out.four_two ?_; rotate_left; (focus (go_simp; with_reducible rfl)); simp only [setL]) | (refine wpPl_skipL rfl rfl (fun _ _ _ h => h) rfl HS.out.four_two ?_; simp only [setL]))
  refine wpPl_goL rfl rfl fun K' hK => ?_
  go_simp
  refine (HMI1.out q1 _).mono ?_
  rintro e1 W6v2 ⟨rfl, hb1⟩
  replace HS := Lib.hid (HS.out.later hb1)
  replace HQ0 := Lib.hid (HQ0.out.below hb1)
  replace HQ1 := Lib.hid (HQ1.out.below hb1)
  refine hK _ _ HS.out.four_two ?_
  clear hK K' hb1
  try simp only [Act.put, setL]
  repeat (first | (refine wpPl_takeL (v := ?_) rfl rfl (fun _ _ _ h => h) rfl (fun w' hSw => ?_) HS.out.four_two ?_; rotate_left; (focus (go_simp; with_reducible rfl)); simp only [setL]) | (refine wpPl_skipL rfl rfl (fun _ _ _ h => h) rfl HS.out.four_two ?_; simp only [setL]))
  refine wpPl_goL rfl rfl fun K' hK => ?_
  go_simp
  refine (HSU1.out q0 q1 _ HQ0.out HQ1.out).mono ?_
  rintro e1 W6v3 ⟨q3, rfl, -, hq3, hb1⟩
  replace HS := Lib.hid (HS.out.later hb1)
  replace HQ0 := Lib.hid (HQ0.out.below hb1)
  have HQ3 := Lib.hid hq3
  clear hq3
  clear HQ1
  refine hK _ _ HS.out.four_two ?_
  clear hK K' hb1
  try simp only [Act.put, setL]
  repeat (first | (refine wpPl_takeL (v := ?_) rfl rfl (fun _ _ _ h => h) rfl (fun w' hSw => ?_) HS.out.four_two ?_; rotate_left; (focus (go_simp; with_reducible rfl)); simp only [setL]) | (refine wpPl_skipL rfl rfl (fun _ _ _ h => h) rfl HS.out.four_two ?_; simp only [setL]))
  refine wpPl_goL rfl rfl fun K' hK => ?_
  go_simp
  refine (HUP1.out _ q3 _ HQ3.out).mono ?_
  rintro e1 W6v4 ⟨rfl, hb1⟩
  replace HS := Lib.hid (HS.out.later hb1)
  replace HQ0 := Lib.hid (HQ0.out.below hb1)
  clear HQ3
  refine hK _ _ HS.out.four_two ?_
  clear hK K' hb1
  try simp only [Act.put, setL]
  repeat (first | (refine wpPl_takeL (v := ?_) rfl rfl (fun _ _ _ h => h) rfl (fun w' hSw => ?_) HS.out.four_two ?_; rotate_left; (focus (go_simp; with_reducible rfl)); simp only [setL]) | (refine wpPl_skipL rfl rfl (fun _ _ _ h => h) rfl HS.out.four_two ?_; simp only [setL]))
  refine wpPl_goL rfl rfl fun K' hK => ?_
  go_simp
  refine (HNY.out _).mono ?_
  rintro e1 W6v5 ⟨q4, rfl, -, hq4, hb1⟩
  replace HS := Lib.hid (HS.out.later hb1)
  replace HQ0 := Lib.hid (HQ0.out.below hb1)
  have HQ4 := Lib.hid hq4
  clear hq4
  refine hK _ _ HS.out.four_two ?_
  clear hK K' hb1
  try simp only [Act.put, setL]
  repeat (first | (refine wpPl_takeL (v := ?_) rfl rfl (fun _ _ _ h => h) rfl (fun w' hSw => ?_) HS.out.four_two ?_; rotate_left; (focus (go_simp; with_reducible rfl)); simp only [setL]) | (refine wpPl_skipL rfl rfl (fun _ _ _ h => h) rfl HS.out.four_two ?_; simp only [setL]))
  refine wpPl_nil ?_
  simp only [List.drop_succ_cons, List.drop_zero]
  obtain ⟨⟨d0, d1, d2, d3⟩, g0, g1⟩ := HS.out.four_two
  go_wp2_with fail
  refine (HMI2.out q0 _).mono ?_
  rintro e7 w7 ⟨rfl, hb7⟩
  replace HQ0 := Lib.hid (HQ0.out.below hb7)
  replace HQ4 := Lib.hid (HQ4.out.below hb7)
  replace HS := Lib.hid (HS.out.later hb7)
  clear hb7
  clear d0 d1 d2 d3 g0 g1
  obtain ⟨⟨d0, d1, d2, d3⟩, g0, g1⟩ := HS.out.four_two
  go_wp2_with fail
  refine (HSU2.out q4 q0 _ HQ4.out HQ0.out).mono ?_
  rintro e8 w8 ⟨q5, rfl, -, hq5, hb8⟩
  replace HS := Lib.hid (HS.out.later hb8)
  have HQ5 := Lib.hid hq5
  clear hq5 HQ0 HQ4
  clear hb8
  clear d0 d1 d2 d3 g0 g1
  obtain ⟨⟨d0, d1, d2, d3⟩, g0, g1⟩ := HS.out.four_two
  go_wp2_with fail
  refine (HUP2.out _ q5 _ HQ5.out).mono ?_
  rintro e9 w9 ⟨rfl, hb9⟩
  replace HS := Lib.hid (HS.out.later hb9)
  clear hb9
  clear d0 d1 d2 d3 g0 g1
  obtain ⟨⟨d0, d1, d2, d3⟩, g0, g1⟩ := HS.out.four_two
  go_wp2_with fail
  refine (HMO.out _).mono ?_
  rintro e10 w10 ⟨rfl, hb10⟩
  replace HS := Lib.hid (HS.out.later hb10)
  clear hb10
  clear d0 d1 d2 d3 g0 g1
  obtain ⟨⟨d0, d1, d2, d3⟩, g0, g1⟩ := HS.out.four_two
  go_wp2
  go_ret
  exact ⟨rfl, HS.out.2⟩

end Go.Proofs.YtloohbkceppocaaGreatDoor
end

/- Walk: IntervalMiddles. Printed by wip/gen/cx2.py. -/
section
namespace Go.Proofs.YtloohbkceppocaaGreatDoor
open Go.RowKit
attribute [local go_sem] run_store_f

theorem nu_num {b : Nat} (h : nanB b = false) : nuB b b = true := by
  unfold nuB canonB
  rw [h, if_neg (by decide)]
  exact decide_eq_true rfl
theorem nu_none : nuB 9221120237041090561 9221120237041090561 = true := by decide

theorem nu_mids {x y : Nat} (hx : W64 x) (hy : W64 y) : nuB (midV x y) (midV x y) = true ∧ nuB (radV x y) (radV x y) = true ∧ nuB (widV x y) (widV x y) = true := by
  unfold midV radV widV
  rcases hs : ivK x y with _ | p
  · rw [Option.isSome_none, if_neg (by decide), if_neg (by decide), if_neg (by decide)]
    exact ⟨nu_none, nu_none, nu_none⟩
  · rw [Option.isSome_some, if_pos rfl, if_pos rfl, if_pos rfl]
    obtain ⟨wm, fm, -⟩ := mid_ok hx hy hs
    refine ⟨nu_num (nan_fin fm), nu_num ?_, nu_num ?_⟩
    · unfold radB
      split
      · rename_i h
        obtain ⟨c1, c2, c3, c4, c5⟩ := cen_law hx hy h.1 h.2 hs
        have hk := kInf_pos
        exact num_iff.2 (kb_lt (k := rdK x y) (by omega) (by omega)).2.1
      · decide
    · unfold widB
      split
      · rename_i h
        obtain ⟨c1, c2, c3, c4, c5⟩ := cen_law hx hy h.1 h.2 hs
        have hk := kInf_pos
        exact num_iff.2 (kb_lt (k := wdK x y) (by omega) (by omega)).2.1
      · decide

set_option maxRecDepth 100000 in
set_option maxHeartbeats 3200000 in
theorem intervalMiddles_any (p0 p1 : Nat) (w : World) (hp0 : W64 p0) (hp1 : W64 p1) (hT : TabB w) : Calls Tryz.prog 5 #[.agg #[.int .u64 p0, .int .u64 p1]] w (Gives (.bool true) w) := by
  have HAW := Lib.hid fun W ht => awake6_any W ht
  have HOA := Lib.hid fun W => lof_any p0 p1 W
  have HT := Lib.hid hT
  have HM := Lib.hid fun W ht => iMid_any p0 p1 W hp0 hp1 ht
  have HR := Lib.hid fun W ht => iRadius_any p0 p1 W hp0 hp1 ht
  have HWD := Lib.hid fun W ht => iWidth_any p0 p1 W hp0 hp1 ht
  have HRM := Lib.hid fun W => rMid_any p0 p1 W hp0 hp1
  have HRR := Lib.hid fun W => rRadius_any p0 p1 W hp0 hp1
  have HRW := Lib.hid fun W => rWidth_any p0 p1 W hp0 hp1
  have HU1 := Lib.hid fun W => lnumber_any (midV p0 p1) (midV p0 p1) W
  have HU2 := Lib.hid fun W => lnumber_any (radV p0 p1) (radV p0 p1) W
  have HU3 := Lib.hid fun W => lnumber_any (widV p0 p1) (widV p0 p1) W
  obtain ⟨u1, u2, u3⟩ := nu_mids hp0 hp1
  rw [u1] at HU1
  rw [u2] at HU2
  rw [u3] at HU3
  clear u1 u2 u3 hp0 hp1 hT
  generalize midV p0 p1 = a1 at *
  generalize radV p0 p1 = a2 at *
  generalize widV p0 p1 = a3 at *
  have HW := Lib.hid ((Bks.nil w).alloc #[.int .u64 p0, .int .u64 p1] 37)
  go_enter Tryz.func5, Tryz.ntmps5
  obtain ⟨g0, g1⟩ := HW.out.two (.head _)
  go_wp2_with fail
  refine (HOA.out _).mono ?_
  rintro e2 w2 ⟨rfl, hb2⟩
  replace HW := Lib.hid (HW.out.later hb2)
  clear hb2
  clear g0 g1
  obtain ⟨g0, g1⟩ := HW.out.two (.head _)
  go_upto_region 2 with fail
  have HS := Lib.hid (HW.out.alloc #[.float .f64 p0, .float .f64 p1] 34)
  clear g0 g1
  clear HW
  generalize World.alloc w2 _ = W3 at HS ⊢
  generalize w2.heap.size = r3 at HS ⊢
  refine wp_region_pl (fun w' : World => w'.cell? ⟨r3, 0, none⟩ = some (.float .f64 p0) ∧ w'.cell? ⟨r3, 1, none⟩ = some (.float .f64 p1)) 16 (.take 0 (.take 2 (.run 1 (.run 3 (.run 4 (.take 5 (.take 6 (.take 8 (.run 7 (.run 9 (.run 10 (.take 11 (.take 12 (.take 13 (.take 15 (.run 14 (.nil))))))))))))))))) (by kernel_rfl) (by kernel_rfl) ?_
  replace HS := Lib.hid (HS.out.later (drew_below _))
  generalize World.drew _ = W4 at HS ⊢
  repeat (first | (refine wpPl_takeL (v := ?_) rfl rfl (fun _ _ _ h => h) rfl (fun w' hSw => ?_) (HS.out.two (.head _)) ?_; rotate_left; (focus (go_simp; with_reducible rfl)); simp only [setL]) | (refine wpPl_skipL rfl rfl (fun _ _ _ h => h) rfl (HS.out.two (.head _)) ?_; simp only [setL]))
  refine wpPl_goL rfl rfl fun K' hK => ?_
  go_simp
  refine (HM.out _ (HT.out.below HS.out.2)).mono ?_
  rintro e1 W4v1 ⟨rfl, hb1⟩
  replace HS := Lib.hid (HS.out.later hb1)
  refine hK _ _ (HS.out.two (.head _)) ?_
  clear hK K' hb1
  try simp only [Act.put, setL]
  repeat (first | (refine wpPl_takeL (v := ?_) rfl rfl (fun _ _ _ h => h) rfl (fun w' hSw => ?_) (HS.out.two (.head _)) ?_; rotate_left; (focus (go_simp; with_reducible rfl)); simp only [setL]) | (refine wpPl_skipL rfl rfl (fun _ _ _ h => h) rfl (HS.out.two (.head _)) ?_; simp only [setL]))
  refine wpPl_goL rfl rfl fun K' hK => ?_
  go_simp
  refine (HRM.out _).mono ?_
  rintro e1 W4v2 ⟨rfl, hb1⟩
  replace HS := Lib.hid (HS.out.later hb1)
  refine hK _ _ (HS.out.two (.head _)) ?_
  clear hK K' hb1
  try simp only [Act.put, setL]
  repeat (first | (refine wpPl_takeL (v := ?_) rfl rfl (fun _ _ _ h => h) rfl (fun w' hSw => ?_) (HS.out.two (.head _)) ?_; rotate_left; (focus (go_simp; with_reducible rfl)); simp only [setL]) | (refine wpPl_skipL rfl rfl (fun _ _ _ h => h) rfl (HS.out.two (.head _)) ?_; simp only [setL]))
  refine wpPl_goL rfl rfl fun K' hK => ?_
  go_simp
  refine (HU1.out _).mono ?_
  rintro e1 W4v3 ⟨rfl, hb1⟩
  replace HS := Lib.hid (HS.out.later hb1)
  refine hK _ _ (HS.out.two (.head _)) ?_
  clear hK K' hb1
  try simp only [Act.put, setL]
  repeat (first | (refine wpPl_takeL (v := ?_) rfl rfl (fun _ _ _ h => h) rfl (fun w' hSw => ?_) (HS.out.two (.head _)) ?_; rotate_left; (focus (go_simp; with_reducible rfl)); simp only [setL]) | (refine wpPl_skipL rfl rfl (fun _ _ _ h => h) rfl (HS.out.two (.head _)) ?_; simp only [setL]))
  refine wpPl_goL rfl rfl fun K' hK => ?_
  go_simp
  refine (HR.out _ (HT.out.below HS.out.2)).mono ?_
  rintro e1 W4v4 ⟨rfl, hb1⟩
  replace HS := Lib.hid (HS.out.later hb1)
  refine hK _ _ (HS.out.two (.head _)) ?_
  clear hK K' hb1
  try simp only [Act.put, setL]
  repeat (first | (refine wpPl_takeL (v := ?_) rfl rfl (fun _ _ _ h => h) rfl (fun w' hSw => ?_) (HS.out.two (.head _)) ?_; rotate_left; (focus (go_simp; with_reducible rfl)); simp only [setL]) | (refine wpPl_skipL rfl rfl (fun _ _ _ h => h) rfl (HS.out.two (.head _)) ?_; simp only [setL]))
  refine wpPl_goL rfl rfl fun K' hK => ?_
  go_simp
  refine (HRR.out _).mono ?_
  rintro e1 W4v5 ⟨rfl, hb1⟩
  replace HS := Lib.hid (HS.out.later hb1)
  refine hK _ _ (HS.out.two (.head _)) ?_
  clear hK K' hb1
  try simp only [Act.put, setL]
  repeat (first | (refine wpPl_takeL (v := ?_) rfl rfl (fun _ _ _ h => h) rfl (fun w' hSw => ?_) (HS.out.two (.head _)) ?_; rotate_left; (focus (go_simp; with_reducible rfl)); simp only [setL]) | (refine wpPl_skipL rfl rfl (fun _ _ _ h => h) rfl (HS.out.two (.head _)) ?_; simp only [setL]))
  refine wpPl_goL rfl rfl fun K' hK => ?_
  go_simp
  refine (HU2.out _).mono ?_
  rintro e1 W4v6 ⟨rfl, hb1⟩
  replace HS := Lib.hid (HS.out.later hb1)
  refine hK _ _ (HS.out.two (.head _)) ?_
  clear hK K' hb1
  try simp only [Act.put, setL]
  repeat (first | (refine wpPl_takeL (v := ?_) rfl rfl (fun _ _ _ h => h) rfl (fun w' hSw => ?_) (HS.out.two (.head _)) ?_; rotate_left; (focus (go_simp; with_reducible rfl)); simp only [setL]) | (refine wpPl_skipL rfl rfl (fun _ _ _ h => h) rfl (HS.out.two (.head _)) ?_; simp only [setL]))
  refine wpPl_goL rfl rfl fun K' hK => ?_
  go_simp
  refine (HWD.out _ (HT.out.below HS.out.2)).mono ?_
  rintro e1 W4v7 ⟨rfl, hb1⟩
  replace HS := Lib.hid (HS.out.later hb1)
  refine hK _ _ (HS.out.two (.head _)) ?_
  clear hK K' hb1
  try simp only [Act.put, setL]
  repeat (first | (refine wpPl_takeL (v := ?_) rfl rfl (fun _ _ _ h => h) rfl (fun w' hSw => ?_) (HS.out.two (.head _)) ?_; rotate_left; (focus (go_simp; with_reducible rfl)); simp only [setL]) | (refine wpPl_skipL rfl rfl (fun _ _ _ h => h) rfl (HS.out.two (.head _)) ?_; simp only [setL]))
  refine wpPl_nil ?_
  simp only [List.drop_succ_cons, List.drop_zero]
  obtain ⟨g0, g1⟩ := HS.out.two (.head _)
  go_wp2_with fail
  refine (HRW.out _).mono ?_
  rintro e6 w6 ⟨rfl, hb6⟩
  replace HS := Lib.hid (HS.out.later hb6)
  clear hb6
  clear g0 g1
  obtain ⟨g0, g1⟩ := HS.out.two (.head _)
  go_wp2_with fail
  refine (HU3.out _).mono ?_
  rintro e7 w7 ⟨rfl, hb7⟩
  replace HS := Lib.hid (HS.out.later hb7)
  clear hb7
  clear g0 g1
  obtain ⟨g0, g1⟩ := HS.out.two (.head _)
  go_wp2_with fail
  refine (HAW.out _ (HT.out.below HS.out.2)).mono ?_
  rintro e8 w8 ⟨rfl, hb8⟩
  replace HS := Lib.hid (HS.out.later hb8)
  clear hb8
  clear g0 g1
  obtain ⟨g0, g1⟩ := HS.out.two (.head _)
  go_wp2
  go_ret
  exact ⟨rfl, HS.out.2⟩

end Go.Proofs.YtloohbkceppocaaGreatDoor
end
