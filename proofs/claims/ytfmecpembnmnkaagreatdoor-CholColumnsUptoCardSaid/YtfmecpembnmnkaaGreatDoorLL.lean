/- Walks: columns; what is first wrong. Printed by wip/gen/ch27.py. -/
import Derived.Test.YtfmecpembnmnkaaGreatDoorLA
import Derived.Test.YtfmecpembnmnkaaGreatDoorLB
import Derived.Test.YtfmecpembnmnkaaGreatDoorLD
import Derived.Test.YtfmecpembnmnkaaGreatDoorGC
namespace Go.Proofs.YtfmecpembnmnkaaGreatDoor
section
open Go.RowKit
attribute [local go_sem] run_store_f
theorem at_ltR {r c i j : Nat} (hi : i < r) (hj : j < c) : i * c + j < r * c := by
 have := Nat.mul_le_mul_right c (show i + 1 ≤ r from hi)
 rw [Nat.add_mul, Nat.one_mul] at this
 omega
def colL (r c : Nat) (l : List Nat) (j : Nat) : List Nat := (List.range r).map fun i => atN c l i j
structure ColR (w0 W : World) (mb : Nat) (r c : Int) (sl xv : Value) (k : Nat) (vs : Nat → Nat) : Prop where
 m : BlkT W mb 25 #[.int .i64 r, .int .i64 c, sl]
 x : OwF W (mb + 1) xv k vs
 b : Below w0.heap.size w0 W
theorem ColR.later {w0 W V : World} {mb k : Nat} {r c : Int} {sl xv : Value} {vs : Nat → Nat} (h : ColR w0 W mb r c sl xv k vs) (hb : Below W.heap.size W V) : ColR w0 V mb r c sl xv k vs := ⟨h.m.below hb, h.x.later hb, h.b.trans (hb.mono h.b.size)⟩
theorem ColR.grown {w0 W V U : World} {mb k z : Nat} {r c : Int} {sl xv v' : Value} {vs : Nat → Nat} (h : ColR w0 W mb r c sl xv k vs) (h0 : w0.heap.size ≤ mb) (hb : Below W.heap.size W V) (hg : V.grownBy U xv.ownBlock)
  (ho : U.ownsRow (mb + 1) 35 1 v' (k + 1) (((List.range k).map fun i => Value.float .f64 (vs i)) ++ [.float .f64 z])) : ColR w0 U mb r c sl v' (k + 1) (updF vs k z) := by
 have h2 := h.later hb
 have hx := h2.x.lt
 have hml := h2.m.lt
 have hr : ∀ j, j ≤ mb → j < V.heap.size → U.heap[j]? = V.heap[j]? := fun j h1 h3 => hg.block j h3 fun e => by have := (hx j e.symm).1; omega
 have hu := h2.b
 exact ⟨(hr mb (Nat.le_refl _) h2.m.lt).trans h2.m, OwF.push ho, ⟨hg.os.trans hu.os, hg.tape.trans hu.tape, hg.output.trans hu.output, Nat.le_trans hu.size hg.size, fun j hj => (hr j (by omega) (by omega)).trans (hu.block j hj)⟩⟩
def Fresh (l : List Nat) (w : World) (e : Ending) (w' : World) : Prop :=
 ∃ u, e = .returned u ∧ FSl w' u l ∧ (∀ a c d, u = .slice (some a) c d → w.heap.size ≤ a.block) ∧ Below w.heap.size w w'
set_option maxRecDepth 100000 in
set_option maxHeartbeats 3200000 in
theorem mcol_any (r c j : Nat) (sl : Value) (l : List Nat) (w : World) (hl : FSl w sl l) (hll : l.length = r * c) (hr : r ≤ 12) (hj : j < c) :
  Calls Tryz.prog 125 #[MatV r c sl, .int .i64 j] w (Fresh (colL r c l j) w) := by
 obtain ⟨i0, hi, hz0, hz1, hz2⟩ := info_parts Tryz.info35
 have HAT : Hid (∀ i W, i < r → Below w.heap.size w W → Calls Tryz.prog 130 #[MatV r c sl, .int .i64 i, .int .i64 j] W (Gives (.float .f64 (atN c l i j)) W)) := Lib.hid fun i W h1 hb => by
  have hk : i * c + j < l.length := by rw [hll]; exact at_ltR h1 hj
  have := mAt_any i j c _ r sl l W (hl.below hb) rfl hk
  rwa [atN_get hk] at this
 have HLT : Hid (∀ i, i < r → atN c l i j < 18446744073709551616) := Lib.hid fun i h1 => by
  have hk : i * c + j < l.length := by rw [hll]; exact at_ltR h1 hj
  rw [← atN_get hk]
  obtain ⟨_, _, _, _, _, hx, _⟩ := hl
  exact hx _ (List.getElem_mem hk)
 have HD0 : Hid (ColR w (w.alloc (.cells #[.int .i64 r, .int .i64 c, sl] 25)) w.heap.size r c sl (.slice none 0 0) 0 (fun _ => 0)) := Lib.hid ⟨BlkT.new w _ _, OwF.nil _ _ _, Below.alloc_self w _⟩
 unfold colL
 generalize hat : (fun i => atN c l i j) = a at *
 have HAT2 : Hid (∀ i W, i < r → Below w.heap.size w W → Calls Tryz.prog 130 #[MatV r c sl, .int .i64 i, .int .i64 j] W (Gives (.float .f64 (a i)) W)) := Lib.hid fun i W h1 hb => by rw [← hat]; exact HAT.out i W h1 hb
 have HLA : Hid (∀ i, i < r → a i < 18446744073709551616) := Lib.hid fun i h1 => by rw [← hat]; exact HLT.out i h1
 clear HAT HLT hat hl hll hj
 have HS0 : Hid (w.heap.size ≤ w.heap.size) := Lib.hid (Nat.le_refl _)
 obtain ⟨mb, hmb⟩ : ∃ b, w.heap.size = b := ⟨_, rfl⟩
 have HMB : Hid (w.heap.size ≤ mb) := Lib.hid (Nat.le_of_eq hmb)
 rw [hmb] at HD0
 obtain ⟨q0, q1, q2, -⟩ := HD0.out.m.cells3
 go_enter Tryz.func125, Tryz.ntmps125
 go_upto_region 2 with fail
 generalize World.alloc w _ = W0 at HD0 q0 q1 q2 ⊢
 clear HS0
 go_wp2
 go_loopw [5, 9] (fun xv i wr => ∃ (k : Nat) (vs : Nat → Nat), k ≤ r ∧ i = .int .i64 k ∧ Hid (∀ q, q < k → vs q = a q) ∧ Hid (ColR w wr mb r c sl xv k vs)) (fun _ i _ => r - (intOf i).toNat)
 case atStart => exact ⟨0, _, Nat.zero_le _, rfl, Lib.hid fun q hq => absurd hq (Nat.not_lt_zero q), HD0⟩
 case round =>
  clear HD0 q0 q1 q2
  obtain ⟨wo, rfl⟩ : ∃ wo : World, wo = wr := ⟨_, rfl⟩
  obtain ⟨k, vs, hk, rfl, HV, HD⟩ := hrel
  obtain ⟨xo, xc, rfl⟩ := HD.out.x.shape
  obtain ⟨q0, q1, q2, -⟩ := HD.out.m.cells3
  by_cases hlt : k < r
  ·go_wp2_with fail
   refine (HAT2.out k _ hlt HD.out.b).mono ?_
   rintro e1 w1 ⟨rfl, hb1⟩
   replace HD := Lib.hid (HD.out.later hb1)
   clear hb1 q0 q1 q2
   obtain ⟨z, hz⟩ : ∃ z, a k = z := ⟨_, rfl⟩
   rw [hz]
   have HZ := Lib.hid hz
   clear hz
   have HOW := Lib.hid fun o => HD.out.x.later (Below.alloc_self w1 o)
   have HNW := Lib.hid fun W => cell_one_new W (.float .f64 z) 35
   have HSZ : Hid (mb + 1 ≤ w1.heap.size) := Lib.hid HD.out.m.lt
   go_wp2_with (at_builtin; refine wpList_append_own_at _ rfl _ _ 23 rfl (mb + 1) 35 i0 (.float .f64 0) 1 8 Tryz.underlying23 hi hz0 hz1 hz2 rfl (by decide) _ _ _ rfl (HOW.out _) ⟨_, 0, none⟩ 1 1 [.float .f64 z] rfl rfl (HNW.out _) ?c2 ?c3 ?c4 ?c5 ?_)
   case c2 => first | rfl | intro u hu; simp only [List.mem_singleton] at hu; subst hu; rfl
   case c3 => unfold maxLen; omega
   case c4 => omega
   case c5 => have := HSZ.out; simp; omega
   intro v' U4 hown hgrow _ hat
   have HD2 := Lib.hid (HD.out.grown HMB.out (Below.alloc_self _ _) hgrow hown)
   obtain ⟨ao', cap', hv'⟩ := owns_shape hown
   rw [hv'] at HD2 ⊢
   clear hown hgrow hat hv' HNW HOW HSZ HD
   go_wp2
   go_roundw
   case rel =>
     refine ⟨k + 1, _, by omega, by go_num, Lib.hid fun q hq => ?_, HD2⟩
     by_cases e : q = k
     ·subst e; rw [updF_self]; exact HZ.out.symm
     ·rw [updF_ne e]; exact HV.out q (by omega)
   case measure => simp [intOf] <;> omega
  ·obtain rfl : k = r := by omega
   have HFS : Hid (FSl wo (.slice xo k xc) ((List.range k).map a)) := Lib.hid (by
     have h1 := HD.out.x.fsl (by omega) fun i hi => by rw [HV.out i hi]; exact HLA.out i hi
     rwa [List.map_congr_left (g := a) fun i hi => HV.out i (List.mem_range.1 hi)] at h1)
   have HBW := Lib.hid HD.out.b
   have HNW : Hid (∀ aa cc dd, (Value.slice xo k xc) = .slice (some aa) cc dd → w.heap.size ≤ aa.block) := Lib.hid fun aa cc dd e => by have := HD.out.x.new aa cc dd e; have := HMB.out; omega
   clear HD HV HAT2 HLA
   go_wp2
   refine bodyPost_ret (v := .slice xo k xc) (by simp [results, Tryz.results125, go_sem]) rfl ⟨_, rfl, HFS.out, HNW.out, HBW.out⟩
set_option maxRecDepth 100000 in
set_option maxHeartbeats 3200000 in
theorem rcolumn_any (r c j : Nat) (sl : Value) (l : List Nat) (w : World) (hl : FSl w sl l) (hll : l.length = r * c) (hr : r ≤ 12) (hj : j < c) :
  Calls Tryz.prog 38 #[MatV r c sl, .int .i64 j] w (Fresh (colL r c l j) w) := by
 obtain ⟨i0, hi, hz0, hz1, hz2⟩ := info_parts Tryz.info35
 have HAT : Hid (∀ i W, i < r → Below w.heap.size w W → Calls Tryz.prog 51 #[MatV r c sl, .int .i64 i, .int .i64 j] W (Gives (.float .f64 (atN c l i j)) W)) := Lib.hid fun i W h1 hb => by
  have hk : i * c + j < l.length := by rw [hll]; exact at_ltR h1 hj
  have := rAt_any i j c _ r sl l W (hl.below hb) rfl hk
  rwa [atN_get hk] at this
 have HLT : Hid (∀ i, i < r → atN c l i j < 18446744073709551616) := Lib.hid fun i h1 => by
  have hk : i * c + j < l.length := by rw [hll]; exact at_ltR h1 hj
  rw [← atN_get hk]
  obtain ⟨_, _, _, _, _, hx, _⟩ := hl
  exact hx _ (List.getElem_mem hk)
 have HD0 : Hid (ColR w (w.alloc (.cells #[.int .i64 r, .int .i64 c, sl] 25)) w.heap.size r c sl (.slice none 0 0) 0 (fun _ => 0)) := Lib.hid ⟨BlkT.new w _ _, OwF.nil _ _ _, Below.alloc_self w _⟩
 unfold colL
 generalize hat : (fun i => atN c l i j) = a at *
 have HAT2 : Hid (∀ i W, i < r → Below w.heap.size w W → Calls Tryz.prog 51 #[MatV r c sl, .int .i64 i, .int .i64 j] W (Gives (.float .f64 (a i)) W)) := Lib.hid fun i W h1 hb => by rw [← hat]; exact HAT.out i W h1 hb
 have HLA : Hid (∀ i, i < r → a i < 18446744073709551616) := Lib.hid fun i h1 => by rw [← hat]; exact HLT.out i h1
 clear HAT HLT hat hl hll hj
 have HS0 : Hid (w.heap.size ≤ w.heap.size) := Lib.hid (Nat.le_refl _)
 obtain ⟨mb, hmb⟩ : ∃ b, w.heap.size = b := ⟨_, rfl⟩
 have HMB : Hid (w.heap.size ≤ mb) := Lib.hid (Nat.le_of_eq hmb)
 rw [hmb] at HD0
 obtain ⟨q0, q1, q2, -⟩ := HD0.out.m.cells3
 go_enter Tryz.func38, Tryz.ntmps38
 go_upto_region 2 with fail
 generalize World.alloc w _ = W0 at HD0 q0 q1 q2 ⊢
 clear HS0
 go_wp2
 go_loopw [5, 6] (fun xv i wr => ∃ (k : Nat) (vs : Nat → Nat), k ≤ r ∧ i = .int .i64 k ∧ Hid (∀ q, q < k → vs q = a q) ∧ Hid (ColR w wr mb r c sl xv k vs)) (fun _ i _ => r - (intOf i).toNat)
 case atStart => exact ⟨0, _, Nat.zero_le _, rfl, Lib.hid fun q hq => absurd hq (Nat.not_lt_zero q), HD0⟩
 case round =>
  clear HD0 q0 q1 q2
  obtain ⟨wo, rfl⟩ : ∃ wo : World, wo = wr := ⟨_, rfl⟩
  obtain ⟨k, vs, hk, rfl, HV, HD⟩ := hrel
  obtain ⟨xo, xc, rfl⟩ := HD.out.x.shape
  obtain ⟨q0, q1, q2, -⟩ := HD.out.m.cells3
  by_cases hlt : k < r
  ·go_wp2_with fail
   refine (HAT2.out k _ hlt HD.out.b).mono ?_
   rintro e1 w1 ⟨rfl, hb1⟩
   replace HD := Lib.hid (HD.out.later hb1)
   clear hb1 q0 q1 q2
   obtain ⟨z, hz⟩ : ∃ z, a k = z := ⟨_, rfl⟩
   rw [hz]
   have HZ := Lib.hid hz
   clear hz
   have HOW := Lib.hid fun o => HD.out.x.later (Below.alloc_self w1 o)
   have HNW := Lib.hid fun W => cell_one_new W (.float .f64 z) 35
   have HSZ : Hid (mb + 1 ≤ w1.heap.size) := Lib.hid HD.out.m.lt
   go_wp2_with (at_builtin; refine wpList_append_own_at _ rfl _ _ 23 rfl (mb + 1) 35 i0 (.float .f64 0) 1 8 Tryz.underlying23 hi hz0 hz1 hz2 rfl (by decide) _ _ _ rfl (HOW.out _) ⟨_, 0, none⟩ 1 1 [.float .f64 z] rfl rfl (HNW.out _) ?c2 ?c3 ?c4 ?c5 ?_)
   case c2 => first | rfl | intro u hu; simp only [List.mem_singleton] at hu; subst hu; rfl
   case c3 => unfold maxLen; omega
   case c4 => omega
   case c5 => have := HSZ.out; simp; omega
   intro v' U4 hown hgrow _ hat
   have HD2 := Lib.hid (HD.out.grown HMB.out (Below.alloc_self _ _) hgrow hown)
   obtain ⟨ao', cap', hv'⟩ := owns_shape hown
   rw [hv'] at HD2 ⊢
   clear hown hgrow hat hv' HNW HOW HSZ HD
   go_wp2
   go_roundw
   case rel =>
     refine ⟨k + 1, _, by omega, by go_num, Lib.hid fun q hq => ?_, HD2⟩
     by_cases e : q = k
     ·subst e; rw [updF_self]; exact HZ.out.symm
     ·rw [updF_ne e]; exact HV.out q (by omega)
   case measure => simp [intOf] <;> omega
  ·obtain rfl : k = r := by omega
   have HFS : Hid (FSl wo (.slice xo k xc) ((List.range k).map a)) := Lib.hid (by
     have h1 := HD.out.x.fsl (by omega) fun i hi => by rw [HV.out i hi]; exact HLA.out i hi
     rwa [List.map_congr_left (g := a) fun i hi => HV.out i (List.mem_range.1 hi)] at h1)
   have HBW := Lib.hid HD.out.b
   have HNW : Hid (∀ aa cc dd, (Value.slice xo k xc) = .slice (some aa) cc dd → w.heap.size ≤ aa.block) := Lib.hid fun aa cc dd e => by have := HD.out.x.new aa cc dd e; have := HMB.out; omega
   clear HD HV HAT2 HLA
   go_wp2
   refine bodyPost_ret (v := .slice xo k xc) (by simp [results, Tryz.results38, go_sem]) rfl ⟨_, rfl, HFS.out, HNW.out, HBW.out⟩
set_option maxRecDepth 100000 in
set_option maxHeartbeats 3200000 in
theorem when_any (b : Bool) (e : Int) (w : World) : Calls Tryz.prog 124 #[.bool b, .int .i64 e] w (Gives (.int .i64 (if b then e else 0)) w) := by
 cases b
 ·go_enter Tryz.func124, Tryz.ntmps124
  go_wp2
  go_ret
  exact ⟨rfl, Below.refl _ _⟩
 ·go_enter Tryz.func124, Tryz.ntmps124
  go_wp2
  go_ret
  exact ⟨rfl, Below.refl _ _⟩
end
section
open Go.RowKit
attribute [local go_sem] run_store_f
set_option maxRecDepth 100000 in
set_option maxHeartbeats 3200000 in
theorem first_any (g t : Nat) (a b x : Int) (w : World) (h : BlkT w g t #[.int .i64 a, .int .i64 b]) (hx : (if a ≠ 0 then a else b) = x) : Calls Tryz.prog 123 #[.slice (some ⟨g, 0, none⟩) 2 2] w (Gives (.int .i64 x) w) := by
 have HC := Lib.hid fun W (hb : Below w.heap.size w W) => h.below hb
 have hE : Hid ((if a ≠ 0 then a else b) = if a = 0 then b else a) := Lib.hid (by by_cases e : a = 0 <;> simp [e])
 rw [hE.out] at hx
 have HX := Lib.hid hx
 clear h hE hx
 go_enter Tryz.func123, Tryz.ntmps123
 go_wp2
 go_loopw [7] (fun i wr => ∃ k : Nat, k ≤ 2 ∧ i = .int .i64 k ∧ Hid (0 < k → a = 0) ∧ Hid (1 < k → b = 0) ∧ Hid (Below w.heap.size w wr)) (fun i _ => 2 - (intOf i).toNat)
 case atStart => exact ⟨0, Nat.zero_le _, rfl, Lib.hid fun h => absurd h (Nat.not_lt_zero _), Lib.hid fun h => absurd h (by omega), Lib.hid (Below.refl _ _)⟩
 case round =>
  obtain ⟨k, hk, rfl, HA, HB, HW⟩ := hrel
  have c0 := (HC.out _ HW.out).cell 0
  have c1 := (HC.out _ HW.out).cell 1
  rcases (by omega : k = 0 ∨ k = 1 ∨ k = 2) with rfl | rfl | rfl
  ·by_cases ha : a = 0
   ·subst ha
    go_wp2
    go_roundw
    case rel => exact ⟨1, by omega, by go_num, Lib.hid fun _ => (by first | rfl | trivial), Lib.hid fun h => absurd h (by omega), HW⟩
    case measure => simp [intOf] <;> omega
   ·have hp := beq_eq_false_iff_ne.2 ha
    obtain rfl : a = x := by rw [← HX.out, if_neg ha]
    clear HA HB HX
    go_wp2
    go_ret
    exact ⟨rfl, HW.out⟩
  ·obtain rfl := HA.out (by omega)
   obtain rfl : b = x := by rw [← HX.out, if_pos rfl]
   clear HX
   by_cases hb : b = 0
   ·subst hb
    go_wp2
    go_roundw
    case rel => exact ⟨2, by omega, by go_num, Lib.hid fun _ => (by first | rfl | trivial), Lib.hid fun _ => (by first | rfl | trivial), HW⟩
    case measure => simp [intOf] <;> omega
   ·have hp := beq_eq_false_iff_ne.2 hb
    clear HA HB
    go_wp2
    go_ret
    exact ⟨rfl, HW.out⟩
  ·obtain rfl := HA.out (by omega)
   obtain rfl := HB.out (by omega)
   obtain rfl : 0 = x := by rw [← HX.out, if_pos rfl]
   clear HX HA HB
   go_wp2
   go_ret
   exact ⟨rfl, HW.out⟩
theorem evn_first (r c : Int) (l : List Nat) : (if chkB r c l ≠ 0 then chkB r c l else (if r != c then 3 else 0)) = evnB r c l := by
 unfold evnB
 by_cases h : r = c
 ·simp [h]
 ·simp [h]
set_option maxRecDepth 100000 in
set_option maxHeartbeats 3200000 in
theorem msquare_any (r c : Int) (sl : Value) (l : List Nat) (w : World) (hl : FSl w sl l) : Calls Tryz.prog 127 #[MatV r c sl] w (Gives (.int .i64 (evnB r c l)) w) := by
 have HM := Lib.hid (MBx.new w r c sl)
 have HCK := Lib.hid (fun W (hb : Below w.heap.size w W) => check_any r c sl l W (hl.below hb))
 rw [← evn_first]
 generalize chkB r c l = e0 at *
 obtain ⟨e2, he⟩ : ∃ x : Int, (if (r != c) then 3 else 0) = x := ⟨_, rfl⟩
 have HWN : Hid (∀ W, Calls Tryz.prog 124 #[.bool (r != c), .int .i64 3] W (Gives (.int .i64 e2) W)) := Lib.hid fun W => by rw [← he]; exact when_any _ _ W
 rw [he]
 obtain ⟨x, hx⟩ : ∃ x, (if e0 ≠ 0 then e0 else e2) = x := ⟨_, rfl⟩
 rw [hx]
 have HX := Lib.hid hx
 clear hl he hx
 obtain ⟨q0, q1, q2⟩ := HM.out.m3
 go_enter Tryz.func127, Tryz.ntmps127
 go_upto_region 1 with fail
 clear q0 q1 q2
 refine wp_region_pl (fun w' : World => w'.cell? ⟨w.heap.size, 0, none⟩ = some (.int .i64 r) ∧ w'.cell? ⟨w.heap.size, 1, none⟩ = some (.int .i64 c) ∧ w'.cell? ⟨w.heap.size, 2, none⟩ = some sl) 9 (.take 0 (.take 2 (.take 3 (.take 4 (.take 5 (.take 6 (.run 1 (.run 7 (.run 8 .nil))))))))) (by kernel_rfl) (by kernel_rfl) ?_
 replace HM := Lib.hid (HM.out.later (drew_below _))
 generalize World.drew _ = W5 at HM ⊢
 repeat (refine tkL (v := ?_) rfl rfl rfl (fun w' hSw => ?_) HM.out.m3 ?_; rotate_left; (focus (go_simp; with_reducible rfl)); simp only [setL])
 refine wpPl_goL rfl rfl fun K' hK => ?_
 go_simp
 refine (HCK.out _ HM.out.b).mono ?_
 rintro e1 W5v1 ⟨rfl, hb1⟩
 replace HM := Lib.hid (HM.out.later hb1)
 refine hK _ _ HM.out.m3 ?_
 clear hK K' hb1
 try simp only [Act.put, setL]
 repeat (refine tkL (v := ?_) rfl rfl rfl (fun w' hSw => ?_) HM.out.m3 ?_; rotate_left; (focus (go_simp; with_reducible rfl)); simp only [setL])
 refine wpPl_goL rfl rfl fun K' hK => ?_
 go_simp
 refine (HWN.out _).mono ?_
 rintro e1 W5v2 ⟨rfl, hb1⟩
 replace HM := Lib.hid (HM.out.later hb1)
 refine hK _ _ HM.out.m3 ?_
 clear hK K' hb1
 try simp only [Act.put, setL]
 repeat (refine tkL (v := ?_) rfl rfl rfl (fun w' hSw => ?_) HM.out.m3 ?_; rotate_left; (focus (go_simp; with_reducible rfl)); simp only [setL])
 refine wpPl_goL rfl rfl fun K' hK => ?_
 go_simp
 have HE := Lib.hid (BlkT.new W5v2 #[.int .i64 e0, .int .i64 e2] 28)
 replace HM := Lib.hid (HM.out.later (Below.alloc_self W5v2 (.cells #[.int .i64 e0, .int .i64 e2] 28)))
 generalize World.alloc W5v2 _ = W5v3 at *
 refine hK _ _ HM.out.m3 ?_
 clear hK K'
 try simp only [Act.put, setL]
 repeat (refine tkL (v := ?_) rfl rfl rfl (fun w' hSw => ?_) HM.out.m3 ?_; rotate_left; (focus (go_simp; with_reducible rfl)); simp only [setL])
 refine wpPl_nil ?_
 simp only [drL]
 go_wp2_with fail
 refine (first_any _ _ _ _ x _ HE.out HX.out).mono ?_
 rintro e3 w3 ⟨rfl, hb1⟩
 replace HM := Lib.hid (HM.out.later hb1)
 clear hb1
 go_wp2
 go_ret
 exact ⟨rfl, HM.out.b⟩
set_option maxRecDepth 100000 in
set_option maxHeartbeats 3200000 in
theorem mCol_any (r c j : Nat) (sl : Value) (l : List Nat) (w : World) (hl : FSl w sl l) (h0 : chkB r c l = 0) (hll : l.length = r * c) (hr : r ≤ 12) (hj : j < c) :
  Calls Tryz.prog 85 #[MatV r c sl, .int .i64 j] w fun e w' => ∃ u, e = .returned (.tuple #[u, .int .i64 0]) ∧ FSl w' u (colL r c l j) ∧ (∀ a c d, u = .slice (some a) c d → w.heap.size ≤ a.block) ∧ Below w.heap.size w w' := by
 have HM := Lib.hid (MBx.new w r c sl)
 have HCK := Lib.hid (fun W (hb : Below w.heap.size w W) => check_any r c sl l W (hl.below hb))
 rw [h0] at HCK
 have HCO := Lib.hid (fun W (hb : Below w.heap.size w W) => mcol_any r c j sl l W (hl.below hb) hll hr hj)
 generalize colL r c l j = x at *
 clear hl h0 hll hr
 obtain ⟨q0, q1, q2⟩ := HM.out.m3
 go_enter Tryz.func85, Tryz.ntmps85
 go_wp2_with fail
 refine (HCK.out _ HM.out.b).mono ?_
 rintro e1 w1 ⟨rfl, hb1⟩
 replace HM := Lib.hid (HM.out.later hb1)
 clear hb1 q0 q1 q2
 obtain ⟨q0, q1, q2⟩ := HM.out.m3
 go_wp2_with fail
 refine (when_any _ 1 _).mono ?_
 rintro e2 w2 ⟨rfl, hb1⟩
 replace HM := Lib.hid (HM.out.later hb1)
 clear hb1 q0 q1 q2
 have hj0 : decide ((j : Int) < 0) = false := by simp
 have hj1 : decide (c ≤ j) = false := by simp; omega
 go_wp2_with fail
 have HE := Lib.hid (BlkT.new w2 #[.int .i64 0, .int .i64 0] 28)
 replace HM := Lib.hid (HM.out.later (Below.alloc_self w2 (.cells #[.int .i64 0, .int .i64 0] 28)))
 generalize World.alloc w2 _ = W2 at *
 refine (first_any _ _ _ _ 0 _ HE.out (by simp)).mono ?_
 rintro e3 w3 ⟨rfl, hb1⟩
 replace HM := Lib.hid (HM.out.later hb1)
 clear hb1 HE hj0 hj1 HCK
 obtain ⟨q0, q1, q2⟩ := HM.out.m3
 go_wp2_with fail
 refine (HCO.out _ HM.out.b).mono ?_
 rintro e4 w4 ⟨u, rfl, hu, hn, hb1⟩
 have HU := Lib.hid hu
 have HN : Hid (∀ a c d, u = .slice (some a) c d → w.heap.size ≤ a.block) := Lib.hid fun a c d e => Nat.le_trans HM.out.b.size (hn a c d e)
 replace HM := Lib.hid (HM.out.later hb1)
 clear hu hn hb1 q0 q1 q2 HCO
 go_wp2
 refine bodyPost_ret (v := .tuple #[u, .int .i64 0]) (by simp [results, Tryz.results85, go_sem]) rfl ⟨u, rfl, HU.out, HN.out, HM.out.b⟩
end
section
open Go
section
variable {P : Program} {ops : Array Oper} {Q : Exit → Act → World → Prop} {S : World → Prop} {md : Region.Mode}
theorem wpAnyT_firstF {n i : Nat} {oi : Oper} {v : Value} (hi : ops[i]? = some oi) (hsel : ∀ (j : Nat) (o : Oper) cs b, ops[j]? = some o → o.op ≠ .select cs b)
  (hQ : ∀ c a w, Q (.panic c) (a.put oi.dst v) w → Q (.panic c) a w) (hn : n = ops.size) (hin : i < n) :
  ∀ (fuel : Nat) (listed : Array Bool) (a : Act) (w : World), HeadInv md ops n listed →
   (∀ j oj, ops[j]? = some oj → j ≠ i → listed.getD j true = false → (∀ e ∈ oj.after, Region.binds md e = true → e.on ≠ i) → oi.apart ops oj = true) →
   i ∈ Region.ready md ops listed → YieldsIf P ops S oi v a → S w →
   wpAnyT P md ops Q S n fuel (listed.setIfInBounds i true) (a.put oi.dst v) w → wpAnyT P md ops Q S n (fuel + 1) listed a w := by
 intro fuel
 induction fuel with
 | zero =>
  intro listed a w _ _ hr hy hS H
  refine ⟨fun h => (by rw [h] at hr; cases hr), fun j hj => ?_⟩
  by_cases hji : j = i
  ·subst hji; exact hy.wpOp hi hS ⟨fun _ => hS, H⟩
  ·have := ready_mono hj hji
   rw [H.1] at this
   cases this
 | succ fuel ih =>
  intro listed a w inv hfree hr hy hS H
  have hun := (mem_ready.1 hr).1
  refine ⟨fun h => (by rw [h] at hr; cases hr), fun j hj => ?_⟩
  by_cases hji : j = i
  ·subst hji; exact hy.wpOp hi hS ⟨fun _ => hS, H⟩
  ·have hjn : j < n := by
    obtain ⟨_, _, h, _⟩ := mem_ready.1 hj
    rw [hn]; exact (Array.getElem?_eq_some_iff.1 h).1
   have h1 := H.2 j (ready_mono hj hji)
   obtain ⟨hjun, oj, hoj, hall⟩ := mem_ready.1 hj
   have hnot : ∀ e ∈ oj.after, Region.binds md e = true → e.on ≠ i := fun e he hb heq => by
    have h1 := hall e he hb
    rw [heq, getD_both hun] at h1
    cases h1
   have h2 := wpOp_putIf hoj (hfree j oj hoj hji hjun hnot) (fun cs b => hsel i oi cs b hi) (fun cs b => hsel j oj cs b hoj) hQ hy h1
   have hfree' : ∀ k ok, ops[k]? = some ok → k ≠ i → (listed.setIfInBounds j true).getD k true = false →
     (∀ e ∈ ok.after, Region.binds md e = true → e.on ≠ i) → oi.apart ops ok = true := fun k ok hk hki hun hno => by
    refine hfree k ok hk hki ?_ hno
    by_cases hjk : j = k
    ·subst hjk; exact hjun
    ·rw [getD_set_ne true hjk] at hun; exact hun
   refine wpOp_mono (fun a' w' h3 => ⟨h3.2.1, ih (listed.setIfInBounds j true) a' w' (inv.set hj hjn) hfree' (ready_mono hr (Ne.symm hji)) h3.1 (h3.2.1 hjn) ?_⟩) h2
   rw [Array.setIfInBounds_comm _ _ hji]
   exact h3.2.2
theorem wpAnyT_plF {n : Nat} {L : List Oper} (hL : ops = L.toArray) (hsel : Region.noSelect ops = true) (hn : n = ops.size) :
  ∀ (pl : Pl) (listed : Array Bool) (a : Act) (w : World), HeadInv md ops n listed → plB md ops n pl listed = true →
   wpPl P ops Q S (wpList P ops Q (L.drop n)) pl a w → wpAnyT P md ops Q S n (pl.depth + (ops.size - n)) listed a w
 | .nil, listed, a, w, _, hB, h => by
  subst hL
  have hlen : (L.drop n).length = L.toArray.size - n := by simp
  have := wpAnyT_seq (P := P) (Q := Q) (S := S) (md := md) (ops := L.toArray) (n := n) (L.drop n) n listed a w (Nat.le_refl _) (fun j => by simp) (by rw [hlen]; exact hB) h
  rw [hlen] at this
  rw [Pl.depth, Nat.zero_add]; exact this
 | .take i pl, listed, a, w, inv, hB, h => by
  simp only [plB, Bool.and_eq_true, decide_eq_true_eq] at hB
  obtain ⟨⟨⟨hin, hr⟩, hf⟩, hB'⟩ := hB
  obtain ⟨o, v, ho, hQ, hy, hS, hK⟩ := h
  have hr' : i ∈ Region.ready md ops listed := by simpa using hr
  rw [Pl.depth, show pl.depth + 1 + (ops.size - n) = pl.depth + (ops.size - n) + 1 from by omega]
  exact wpAnyT_firstF ho (Region.noSelect_spec hsel) hQ hn hin _ listed a w inv (Region.free_spec ho hf) hr' hy hS
   (wpAnyT_plF hL hsel hn pl _ _ _ (inv.set hr' hin) hB' hK)
 | .run i pl, listed, a, w, inv, hB, h => by
  simp only [plB, Bool.and_eq_true, decide_eq_true_eq] at hB
  obtain ⟨⟨hin, hr⟩, hB'⟩ := hB
  obtain ⟨o, ho, hw⟩ := h
  rw [Pl.depth, show pl.depth + 1 + (ops.size - n) = pl.depth + (ops.size - n) + 1 from by omega]
  refine ⟨fun h1 => (by rw [hr] at h1; cases h1), fun j hj => ?_⟩
  have hri : i ∈ Region.ready md ops listed := by rw [hr]; simp
  rw [hr] at hj
  have hji : j = i := by simpa using hj
  subst hji
  exact wpOp_mono (fun a' w' h' => ⟨fun _ => h'.1, wpAnyT_plF hL hsel hn pl _ _ _ (inv.set hri hin) hB' h'.2⟩) hw
 | .fork i p j q, listed, a, w, inv, hB, h => by
  simp only [plB, Bool.and_eq_true, decide_eq_true_eq] at hB
  obtain ⟨⟨⟨⟨⟨hin, hjn⟩, hr⟩, hd⟩, hB1⟩, hB2⟩ := hB
  obtain ⟨⟨o, ho, hw⟩, o2, ho2, hw2⟩ := h
  rw [Pl.depth, show p.depth + 1 + (ops.size - n) = p.depth + (ops.size - n) + 1 from by omega]
  refine ⟨fun h1 => (by rw [hr] at h1; cases h1), fun k hk => ?_⟩
  have hri : i ∈ Region.ready md ops listed := by rw [hr]; simp
  have hrj : j ∈ Region.ready md ops listed := by rw [hr]; simp
  rw [hr] at hk
  have hk' : k = i ∨ k = j := by simpa using hk
  rcases hk' with rfl | rfl
  ·exact wpOp_mono (fun a' w' h' => ⟨fun _ => h'.1, wpAnyT_plF hL hsel hn p _ _ _ (inv.set hri hin) hB1 h'.2⟩) hw
  ·rw [hd]
   exact wpOp_mono (fun a' w' h' => ⟨fun _ => h'.1, wpAnyT_plF hL hsel hn q _ _ _ (inv.set hrj hjn) hB2 h'.2⟩) hw2
def goPlF (ops : Array Oper) (n : Nat) (pl : Pl) : Bool :=
 Region.noSelect ops && decide (n = ops.size) && decide (pl.depth = n) && plB .any ops n pl (Array.replicate ops.size false)
theorem wp_region_plF {id : Nat} {a : Act} {w : World} {L : List Oper} (S : World → Prop) (n : Nat) (pl : Pl) (hm : P.follows .mixedOrders = true) (hB : goPlF L.toArray n pl = true)
  (h : wpPl P L.toArray Q S (wpList P L.toArray Q (L.drop n)) pl a w.drew) : (Code.region id L.toArray true).wp P Q a w := by
 simp only [goPlF, Bool.and_eq_true, decide_eq_true_eq] at hB
 obtain ⟨⟨⟨hsel, hn⟩, hlen⟩, hp⟩ := hB
 have inv0 : HeadInv .any L.toArray n (Array.replicate L.toArray.size false) :=
  ⟨by simp, fun j oj _ hl => (by rw [getD_replicate_false] at hl; cases hl), fun t _ ht => getD_in (by simpa using ht) (getD_replicate_false _ _)⟩
 have := wpAnyT_plF (P := P) (Q := Q) (S := S) rfl hsel hn pl _ a w.drew inv0 hp h
 rw [hlen, show n + (L.toArray.size - n) = L.toArray.size from by omega] at this
 exact wp_region_any hm (wpAny_of_T _ _ _ _ this)
end
end
section
open Go.RowKit
theorem up_flags {L : Nat → Nat → Fo} {b : Nat → Fo} {f : Bool} {n : Nat} : ∀ m, (up L b f n m).2 = false → f = false
 | 0, h => h
 | m + 1, h => up_flags m (up_flag h)
theorem dn_flags {L : Nat → Nat → Fo} {b : Nat → Fo} {f : Bool} : ∀ m, (dn L b f m).2 = false → f = false
 | 0, h => h
 | m + 1, h => dn_flags m (dn_flag h)
def smC (n : Nat) (R b : List Nat) (f : Bool) : (Nat → Fo) × Bool := up (atO n R) (dn (atO n R) (bO b) f n).1 (dn (atO n R) (bO b) f n).2 n n
theorem smC_flag {n : Nat} {R b : List Nat} {f : Bool} (h : (smC n R b f).2 = false) : f = false := dn_flags n (up_flags n h)
theorem smC_fin {n : Nat} {R b : List Nat} {f : Bool} (h : (smC n R b f).2 = false) (i : Nat) (hi : i < n) : finO ((smC n R b f).1 i) = true := up_fin n (Nat.le_refl n) h i (by omega) hi
def putC (X : Nat → Nat → Fo) (x : Nat → Fo) (j i : Nat) : Nat → Nat → Fo := fun a b => if b = j ∧ a < i then x a else X a b
theorem putC_zero (X : Nat → Nat → Fo) (x : Nat → Fo) (j : Nat) : putC X x j 0 = X := by
 funext a b
 exact if_neg (fun h => absurd h.2 (Nat.not_lt_zero a))
theorem putC_succ (X : Nat → Nat → Fo) (x : Nat → Fo) (j i : Nat) : putC X x j (i + 1) = upd2 (putC X x j i) i j (x i) := by
 funext a b
 show (if b = j ∧ a < i + 1 then x a else X a b) = if a = i ∧ b = j then x i else (if b = j ∧ a < i then x a else X a b)
 by_cases h : a = i ∧ b = j
 ·obtain ⟨rfl, rfl⟩ := h
  rw [if_pos ⟨rfl, Nat.lt_succ_self _⟩, if_pos ⟨rfl, rfl⟩]
 ·rw [if_neg h]
  by_cases h2 : b = j ∧ a < i
  ·rw [if_pos h2, if_pos ⟨h2.1, by omega⟩]
  ·rw [if_neg h2, if_neg (fun h3 => by rcases Nat.lt_or_eq_of_le (Nat.lt_succ_iff.1 h3.2) with h4 | h4; exact h2 ⟨h3.1, h4⟩; exact h ⟨h4, h3.1⟩)]
def smS (n : Nat) (R : List Nat) (cl : Nat → List Nat) : Nat → (Nat → Nat → Fo) × Bool
 | 0 => (fun _ _ => some 0, false)
 | j + 1 => (putC (smS n R cl j).1 (smC n R (cl j) (smS n R cl j).2).1 j n, (smC n R (cl j) (smS n R cl j).2).2)
theorem smS_succ (n : Nat) (R : List Nat) (cl : Nat → List Nat) (j : Nat) : smS n R cl (j + 1) = (putC (smS n R cl j).1 (smC n R (cl j) (smS n R cl j).2).1 j n, (smC n R (cl j) (smS n R cl j).2).2) := rfl
theorem smS_fin (n : Nat) (R : List Nat) (cl : Nat → List Nat) : ∀ m, (smS n R cl m).2 = false → ∀ a b, finO ((smS n R cl m).1 a b) = true
 | 0, _, _, _ => rfl
 | m + 1, h, a, b => by
  have h1 : (smC n R (cl m) (smS n R cl m).2).2 = false := h
  show finO (if b = m ∧ a < n then _ else _) = true
  by_cases h2 : b = m ∧ a < n
  ·rw [if_pos h2]; exact smC_fin h1 a h2.2
  ·rw [if_neg h2]; exact smS_fin n R cl m (smC_flag h1) a b
def RecR (r c : Nat) (X : Nat → Nat → Fo) (vs : Nat → Nat) : Prop := ∀ i j, i < r → j < c → Rep (X i j) (vs (i * c + j))
theorem RecR.zero (r c : Nat) : RecR r c (fun _ _ => some 0) (fun _ => 0) := fun _ _ _ _ => ⟨show 0 < 18446744073709551616 by decide, rfl⟩
theorem RecR.set {r c i j v : Nat} {X : Nat → Nat → Fo} {vs : Nat → Nat} {x : Fo} (h : RecR r c X vs) (hj : j < c) (hv : Rep x v) : RecR r c (upd2 X i j x) (updF vs (i * c + j) v) := fun a b ha hb => by
 by_cases e : a = i ∧ b = j
 ·obtain ⟨rfl, rfl⟩ := e
  rw [upd2_self, updF_self]; exact hv
 ·rw [upd2_ne e, updF_ne ?_]
  ·exact h a b ha hb
  ·intro t
   apply e
   have h1 : (a * c + b) / c = a := by rw [Nat.mul_comm, Nat.mul_add_div (by omega), Nat.div_eq_of_lt hb]; rfl
   have h2 : (i * c + j) / c = i := by rw [Nat.mul_comm, Nat.mul_add_div (by omega), Nat.div_eq_of_lt hj]; rfl
   rw [t, h2] at h1
   subst h1
   exact ⟨rfl, by omega⟩
def matR (r c : Nat) (X : Nat → Nat → Fo) : List Nat := (List.range (r * c)).map fun p => bitO (X (p / c) (p % c))
theorem div_ltR {r c p : Nat} (hp : p < r * c) : p / c < r ∧ p % c < c := by
 have hc : 0 < c := by
  rcases Nat.eq_zero_or_pos c with h0 | h0
  ·subst h0; simp at hp
  ·exact h0
 exact ⟨Nat.div_lt_of_lt_mul (by rwa [Nat.mul_comm] at hp), Nat.mod_lt p hc⟩
theorem FMs.recF {W : World} {g r c : Nat} {vs : Nat → Nat} {X : Nat → Nat → Fo} (h : FMs W g (r * c) vs) (hl : RecR r c X vs) (hf : ∀ i j, finO (X i j) = true) (hr : r ≤ 12) (hc : c ≤ 12) : FSl W (.slice (some ⟨g, 0, none⟩) (r * c) (r * c)) (matR r c X) := by
 have e : (List.range (r * c)).map vs = matR r c X := by
  refine List.map_congr_left fun p hp => ?_
  obtain ⟨h1, h2⟩ := div_ltR (List.mem_range.1 hp)
  have h3 := (hl (p / c) (p % c) h1 h2).bits (hf _ _)
  rwa [Nat.mul_comm, Nat.div_add_mod] at h3
 rw [← e]
 refine h.fsl (by have : r * c ≤ 12 * 12 := Nat.mul_le_mul hr hc; omega) fun p hp => ?_
 obtain ⟨h1, h2⟩ := div_ltR hp
 have h3 := (hl (p / c) (p % c) h1 h2).lt
 rwa [Nat.mul_comm, Nat.div_add_mod] at h3
def smR (r c : Int) (l : List Nat) (d : Int) (m : List Nat) : (Nat → Nat → Fo) × Bool := smS r.toNat (cholL r c l) (colL r.toNat d.toNat m) d.toNat
def smE (r c : Int) (l : List Nat) (s d : Int) (m : List Nat) : Int :=
 if evnB r c l ≠ 0 then evnB r c l else if chkB s d m ≠ 0 then chkB s d m else if s ≠ r then 3 else if cholE r c l ≠ 0 then cholE r c l else if (smR r c l d m).2 then 5 else 0
def smP (r c : Int) (l : List Nat) (s d : Int) (m : List Nat) : Nat := if evnB r c l ≠ 0 then 0 else if chkB s d m ≠ 0 then 0 else if s ≠ r then 0 else cholP r c l
def smN (r c : Int) (l : List Nat) (s d : Int) (m : List Nat) : Int := if smE r c l s d m = 0 then s else 0
def smK (r c : Int) (l : List Nat) (s d : Int) (m : List Nat) : Int := if smE r c l s d m = 0 then d else 0
def smL (r c : Int) (l : List Nat) (s d : Int) (m : List Nat) : List Nat := if smE r c l s d m = 0 then matR s.toNat d.toNat (smR r c l d m).1 else []
section
variable {r c s d : Int} {l m : List Nat}
theorem sm_err {e : Int} (h : smE r c l s d m = e) (he : e ≠ 0) : smN r c l s d m = 0 ∧ smK r c l s d m = 0 ∧ smL r c l s d m = [] := by
 unfold smN smK smL
 rw [h, if_neg he, if_neg he, if_neg he]
 exact ⟨rfl, rfl, rfl⟩
theorem sm_e1 (h : evnB r c l ≠ 0) : smE r c l s d m = evnB r c l ∧ smP r c l s d m = 0 := ⟨if_pos h, if_pos h⟩
theorem sm_e2 (h : evnB r c l = 0) (h2 : chkB s d m ≠ 0) : smE r c l s d m = chkB s d m ∧ smP r c l s d m = 0 := by
 unfold smE smP
 rw [if_neg (fun t => t h), if_pos h2, if_neg (fun t => t h), if_pos h2]
 exact ⟨rfl, rfl⟩
theorem sm_e3 (h : evnB r c l = 0) (h2 : chkB s d m = 0) (h3 : s ≠ r) : smE r c l s d m = 3 ∧ smP r c l s d m = 0 := by
 unfold smE smP
 rw [if_neg (fun t => t h), if_neg (fun t => t h2), if_pos h3, if_neg (fun t => t h), if_neg (fun t => t h2), if_pos h3]
 exact ⟨rfl, rfl⟩
theorem sm_e4 (h : evnB r c l = 0) (h2 : chkB s d m = 0) (h3 : s = r) (h4 : cholE r c l ≠ 0) : smE r c l s d m = cholE r c l ∧ smP r c l s d m = cholP r c l := by
 unfold smE smP
 rw [if_neg (fun t => t h), if_neg (fun t => t h2), if_neg (fun t => t h3), if_pos h4, if_neg (fun t => t h), if_neg (fun t => t h2), if_neg (fun t => t h3)]
 exact ⟨rfl, rfl⟩
end
theorem sm_ok {n k : Nat} {l m : List Nat} (h : evnB n n l = 0) (h2 : chkB n k m = 0) (h4 : cholE n n l = 0) (f : Bool) (hf : (smS n (cholL n n l) (colL n k m) k).2 = f) :
  smP n n l n k m = 0 ∧ (f = true → smE n n l n k m = 5 ∧ smN n n l n k m = 0 ∧ smK n n l n k m = 0 ∧ smL n n l n k m = []) ∧
   (f = false → smE n n l n k m = 0 ∧ smN n n l n k m = n ∧ smK n n l n k m = k ∧ smL n n l n k m = matR n k (smS n (cholL n n l) (colL n k m) k).1) := by
 have e : smE n n l n k m = if f then 5 else 0 := by
  subst hf
  unfold smE
  rw [if_neg (fun t => t h), if_neg (fun t => t h2), if_neg (fun t => t rfl), if_neg (fun t => t h4)]
  unfold smR
  simp only [Int.toNat_natCast]
 refine ⟨?_, fun e1 => ?_, fun e1 => ?_⟩
 ·unfold smP; rw [if_neg (fun t => t h), if_neg (fun t => t h2), if_neg (fun t => t rfl)]; exact chol_place h4
 ·subst e1
  have e2 : smE n n l n k m = 5 := e
  exact ⟨e2, sm_err e2 (by decide)⟩
 ·subst e1
  have e2 : smE n n l n k m = 0 := e
  refine ⟨e2, if_pos e2, if_pos e2, ?_⟩
  unfold smL smR
  rw [if_pos e2]
  simp only [Int.toNat_natCast]
def SmA (E : Int) (P : Nat) (N K : Int) (l : List Nat) (w : World) (e : Ending) (w' : World) : Prop :=
 ∃ u, e = .returned (.tuple #[MatV N K u, .int .i64 P, .int .i64 E]) ∧ FSl w' u l ∧ (∀ a c d, u = .slice (some a) c d → w.heap.size ≤ a.block) ∧ Below w.heap.size w w' ∧ (E = 0 → ∃ (g n k : Nat) (vs : Nat → Nat) (X : Nat → Nat → Fo), N = n ∧ K = k ∧ u = .slice (some ⟨g, 0, none⟩) (n * k) (n * k) ∧ FMs w' g (n * k) vs ∧ RecR n k X vs ∧ l = matR n k X ∧ ∀ i j, finO (X i j) = true)
end
end Go.Proofs.YtfmecpembnmnkaaGreatDoor
