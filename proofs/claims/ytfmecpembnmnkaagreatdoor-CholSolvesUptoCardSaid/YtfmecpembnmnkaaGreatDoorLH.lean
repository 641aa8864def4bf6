/- A root triangle times itself, turned: plain; walk of the program's. Printed by wip/gen/ch18.py. -/
import Derived.Test.YtfmecpembnmnkaaGreatDoorLD
namespace Go.Proofs.YtfmecpembnmnkaaGreatDoor
section
open Go.RowKit
attribute [local go_sem] run_store_f
def mirM (M : Nat → Nat → Fo) (a b : Nat) : Fo := if b ≤ a then M a b else M b a
section
variable {t : Nat} {w0 W V : World} {sb g n N : Nat} {lv : Value} {f f' : Bool} {vs : Nat → Nat}
end
theorem LowR.zero (n : Nat) : LowR n (fun _ _ => some 0) (fun _ => 0) := fun _ _ _ _ => rep0
end
section
open Go.RowKit
attribute [local go_sem] run_store_f
set_option maxRecDepth 100000 in
set_option maxHeartbeats 3200000 in
theorem rzero_any (r c : Nat) (hr : r ≤ 12) (hc : c ≤ 12) (w : World) : Calls Tryz.prog 59 #[.int .i64 r, .int .i64 c] w fun e w' => ∃ g, e = .returned (MatV r c (.slice (some ⟨g, 0, none⟩) (r * c) (r * c))) ∧ FMs w' g (r * c) (fun _ => 0) ∧ w.heap.size ≤ g ∧ Below w.heap.size w w' := by
 obtain ⟨N, hN⟩ : ∃ N, r * c = N := ⟨_, rfl⟩
 have hN2 : N ≤ 144 := by rw [← hN]; exact Nat.mul_le_mul hr hc
 have hw : IntKind.i64.wrap ((r : Int) * (c : Int)) = (N : Int) := by rw [← Int.natCast_mul, hN]; exact IntWalk.i64_in _ (by omega)
 have hmk := run_make_row' (P := Tryz.prog) 23 35 (.float .f64 0) 8 Tryz.underlying23 Tryz.finfo64 rfl .i64 .i64 N (by omega) (by omega)
 rw [hN]
 clear hN
 have HG := Lib.hid (FMs.made1 w (.cells #[.int .i64 0, .int .i64 0, .slice none 0 0] 25) N)
 have HR : Hid (BlkT ((w.alloc (.cells #[.int .i64 0, .int .i64 0, .slice none 0 0] 25)).alloc (.cells (madeCells #[.float .f64 0] N) 35)) w.heap.size 25 #[.int .i64 0, .int .i64 0, .slice none 0 0]) := Lib.hid ((BlkT.new w _ _).alloc _)
 have HB := Lib.hid (below2 w (.cells #[.int .i64 0, .int .i64 0, .slice none 0 0] 25) (.cells (madeCells #[.float .f64 0] N) 35))
 clear HG HR HB
 go_enter Tryz.func59, Tryz.ntmps59
 go_wp2
 exact bodyPost_ret (v := MatV r c (.slice (some ⟨w.heap.size + 1, 0, none⟩) N N)) (by simp [results, Tryz.results59, go_sem]) rfl ⟨_, rfl, FMs.made1 w _ N, Nat.le_succ _, below2 w _ _⟩
set_option maxRecDepth 100000 in
set_option maxHeartbeats 3200000 in
theorem r9put_any (g c N i j p v : Nat) (r : Int) (vs : Nat → Nat) (w : World) (hg : FMs w g N vs) (hp : i * c + j = p) (hpN : p < N) (hN : N ≤ 4096) : Calls Tryz.prog 61 #[MatV r c (.slice (some ⟨g, 0, none⟩) N N), .int .i64 i, .int .i64 j, .float .f64 v] w fun e w' => e = .returned (.tuple #[]) ∧ FMs w' g N (updF vs p v) ∧ Upd g w w' := by
 obtain ⟨m, hm⟩ : ∃ m, i * c = m := ⟨_, rfl⟩
 rw [hm] at hp
 have hw1 : IntKind.i64.wrap ((i : Int) * (c : Int)) = (m : Int) := by rw [← Int.natCast_mul, hm]; exact IntWalk.i64_in _ (by omega)
 have hw2 : IntKind.i64.wrap ((m : Int) + (j : Int)) = (p : Int) := by rw [show (m : Int) + (j : Int) = (p : Int) by omega]; exact IntWalk.i64_in _ (by omega)
 have HM := Lib.hid (MBx.new w r c (.slice (some ⟨g, 0, none⟩) N N))
 have HG := Lib.hid (hg.below (Below.alloc_self w (.cells #[.int .i64 r, .int .i64 c, .slice (some ⟨g, 0, none⟩) N N] 25)))
 have HU : Hid (Upd g w (w.alloc (.cells #[.int .i64 r, .int .i64 c, .slice (some ⟨g, 0, none⟩) N N] 25))) := Lib.hid (.of_below (Below.alloc_self w _))
 clear hm hp hg
 obtain ⟨q0, q1, q2⟩ := HM.out.m3
 have x0 := HG.out.cell hpN
 have x1 := HG.out.frozen p
 go_enter Tryz.func61, Tryz.ntmps61
 go_upto_region 1 with fail
 generalize World.alloc w _ = W0 at *
 go_wp2
 exact bodyPost_end (v := .tuple #[]) (by simp [results, Tryz.results61, go_sem]) rfl ⟨rfl, HG.out.set hpN, HU.out.trans (Upd.set _)⟩
theorem FSn.cellU {w : World} {ao : Option Addr} {m ca sb k : Nat} {l : List Nat} (h : FSn w (.slice ao m ca) l sb) (hl : l.length = m) (hk : k < m) : ∃ b off x, ao = some ⟨b, off, none⟩ ∧ (∃ hh : k < l.length, x = l[k]) ∧ ∀ W, Upd sb w W → W.cell? ⟨b, off + k, none⟩ = some (.float .f64 x) := by
 obtain ⟨⟨ao2, cap, h1, h2, h3, h4, h5⟩, h6⟩ := h
 obtain ⟨b, off, e, hlt, hc⟩ := h5 (by omega)
 injection h1 with h1
 subst h1
 have hne : b ≠ sb := h6 (by omega) ⟨b, off, none⟩ _ _ (by rw [e])
 exact ⟨b, off, l[k], e, ⟨by omega, rfl⟩, fun W hu => (World.cell?_of_block (a := ⟨b, off + k, none⟩) (hu.block b hlt hne)).trans (hc k (by omega))⟩
def mrT (M : Nat → Nat → Fo) (i j : Nat) (a b : Nat) : Fo := if (a < i ∧ b < i) ∨ (a = i ∧ b < j) ∨ (b = i ∧ a < j) then mirM M a b else some 0
theorem mrT_step {M : Nat → Nat → Fo} {i j : Nat} (h : j ≤ i) : mrT M i (j + 1) = upd2 (upd2 (mrT M i j) i j (M i j)) j i (M i j) := by
 funext a b
 unfold mrT upd2 mirM
 by_cases h1 : a = j ∧ b = i
 ·obtain ⟨rfl, rfl⟩ := h1
  rw [if_pos (show (a < b ∧ b < b) ∨ (a = b ∧ b < a + 1) ∨ (b = b ∧ a < a + 1) from .inr (.inr ⟨rfl, Nat.lt_succ_self _⟩)), if_pos (show a = a ∧ b = b from ⟨rfl, rfl⟩)]
  split
  ·rw [show a = b by omega]
  ·rfl
 ·by_cases h2 : a = i ∧ b = j
  ·obtain ⟨rfl, rfl⟩ := h2
   rw [if_pos (show (a < a ∧ b < a) ∨ (a = a ∧ b < b + 1) ∨ (b = a ∧ a < b + 1) from .inr (.inl ⟨rfl, Nat.lt_succ_self _⟩)), if_neg h1, if_pos (show a = a ∧ b = b from ⟨rfl, rfl⟩), if_pos h]
  ·rw [if_neg h1, if_neg h2]
   dsimp only
   by_cases h3 : (a < i ∧ b < i) ∨ (a = i ∧ b < j) ∨ (b = i ∧ a < j)
   ·rw [if_pos h3, if_pos (by omega)]
   ·rw [if_neg h3, if_neg (by omega)]
theorem mrT_row {M : Nat → Nat → Fo} {i : Nat} : mrT M i (i + 1) = mrT M (i + 1) 0 := by
 funext a b
 unfold mrT
 by_cases h3 : (a < i ∧ b < i) ∨ (a = i ∧ b < i + 1) ∨ (b = i ∧ a < i + 1)
 ·rw [if_pos h3, if_pos (by omega)]
 ·rw [if_neg h3, if_neg (by omega)]
theorem mrT_zero {M : Nat → Nat → Fo} : mrT M 0 0 = fun _ _ => some 0 := by
 funext a b
 unfold mrT
 rw [if_neg (by omega)]
theorem mrT_all {M : Nat → Nat → Fo} {n a b : Nat} (ha : a < n) (hb : b < n) : mrT M n 0 a b = mirM M a b := by
 unfold mrT
 rw [if_pos (.inl ⟨ha, hb⟩)]
structure MrR (w0 W : World) (g ob n N : Nat) (lv : Value) (vs : Nat → Nat) : Prop where
 B : ChB w0 W n n lv
 gm : FMs W g N vs
 om : BlkT W ob 25 #[.int .i64 n, .int .i64 n, .slice (some ⟨g, 0, none⟩) N N]
 ne : w0.heap.size + 1 < g ∧ g < ob
section
variable {w0 W V : World} {g ob n N : Nat} {lv : Value} {vs vs' : Nat → Nat}
theorem MrR.later (h : MrR w0 W g ob n N lv vs) (hb : Below W.heap.size W V) : MrR w0 V g ob n N lv vs := ⟨h.B.later hb, h.gm.below hb, h.om.below hb, h.ne⟩
theorem MrR.put (h : MrR w0 W g ob n N lv vs) (hu : Upd g W V) (hg : FMs V g N vs') : MrR w0 V g ob n N lv vs' := by
 have hne := h.ne
 have hb : Below g W V := ⟨hu.os, hu.tape, hu.output, hu.size, fun k hk => hu.block k (by have := h.gm.lt; omega) (by omega)⟩
 exact ⟨h.B.of_mod hb hne.1, hg, h.om.upd hu (by omega), hne⟩
theorem MrR.rd (h : MrR w0 W g ob n N lv vs) : (W.cell? ⟨ob, 0, none⟩ = some (.int .i64 n) ∧ W.cell? ⟨ob, 1, none⟩ = some (.int .i64 n) ∧ W.cell? ⟨ob, 2, none⟩ = some (.slice (some ⟨g, 0, none⟩) N N)) ∧ W.cell? ⟨w0.heap.size, 0, none⟩ = some (.int .i64 n) ∧ W.cell? ⟨w0.heap.size, 1, none⟩ = some (.int .i64 n) ∧ W.cell? ⟨w0.heap.size, 2, none⟩ = some lv :=
 ⟨⟨h.om.cell 0, h.om.cell 1, h.om.cell 2⟩, h.B.cells.1⟩
end
theorem mirror_at {n g0 i j : Nat} {vs0 : Nat → Nat} {M : Nat → Nat → Fo} {w W : World} (hn : n ≤ 12) (hg : FMs w g0 (n * n) vs0) (hM : LowR n M vs0) (hi : i < n) (hj : j < n) (hb : Below w.heap.size w W) : Calls Tryz.prog 51 #[MatV n n (.slice (some ⟨g0, 0, none⟩) (n * n) (n * n)), .int .i64 i, .int .i64 j] W (Gives (.float .f64 (vs0 (i * n + j))) W) := by
 have hl : FSl W (.slice (some ⟨g0, 0, none⟩) (n * n) (n * n)) ((List.range (n * n)).map vs0) := (hg.fsl (by have : n * n ≤ 12 * 12 := Nat.mul_le_mul hn hn; omega) fun p hp => by
  have hn0 : 0 < n := by
   rcases Nat.eq_zero_or_pos n with h0 | h0
   ·subst h0; simp at hp
   ·exact h0
  have h3 := (hM (p / n) (p % n) (Nat.div_lt_of_lt_mul hp) (Nat.mod_lt p hn0)).lt
  rwa [Nat.mul_comm, Nat.div_add_mod] at h3).below hb
 have := rAt_any i j n (i * n + j) n _ _ W hl rfl (by simp; exact at_lt hi hj)
 simpa using this
set_option maxRecDepth 100000 in
set_option maxHeartbeats 3200000 in
theorem rmirror_any (n g0 : Nat) (vs0 : Nat → Nat) (M : Nat → Nat → Fo) (w : World) (hn : n ≤ 12) (hg : FMs w g0 (n * n) vs0) (hM : LowR n M vs0) :
  Calls Tryz.prog 80 #[MatV n n (.slice (some ⟨g0, 0, none⟩) (n * n) (n * n))] w fun e w' => ∃ g vs, e = .returned (MatV n n (.slice (some ⟨g, 0, none⟩) (n * n) (n * n))) ∧ FMs w' g (n * n) vs ∧ LowR n (mirM M) vs ∧ w.heap.size ≤ g ∧ Below w.heap.size w w' := by
 obtain ⟨N, hN⟩ : ∃ N, n * n = N := ⟨_, rfl⟩
 have hN2 : N ≤ 144 := by rw [← hN]; exact Nat.mul_le_mul hn hn
 have HAT := Lib.hid fun (i j : Nat) (hi : i < n) (hj : j < n) W (hb : Below w.heap.size w W) => mirror_at hn hg hM hi hj hb
 have HZ := Lib.hid fun W => rzero_any n n hn hn W
 rw [hN] at hg HZ HAT ⊢
 obtain ⟨lv, hlv⟩ : ∃ lv, Value.slice (some ⟨g0, 0, none⟩) N N = lv := ⟨_, rfl⟩
 rw [hlv] at HAT ⊢
 have HLE : Hid (∃ ao c, lv = .slice ao N c) := Lib.hid ⟨_, _, hlv.symm⟩
 have HB := Lib.hid (ChB.new w n n lv)
 have HN := Lib.hid hN
 have HM := Lib.hid hM
 clear hg hlv hN hM
 obtain ⟨lo, lc, rfl⟩ := HLE.out
 obtain ⟨⟨m0, m1, m2⟩, ⟨q0, q1, q2⟩, f0, f1, f2⟩ := HB.out.cells
 go_enter Tryz.func80, Tryz.ntmps80
 go_wp2_with fail
 refine (HZ.out _).mono ?_
 rintro e1 w1 ⟨g, rfl, hg, hgl, hb1⟩
 have HGL : Hid (w.heap.size + 1 < g) := Lib.hid (by simp at hgl; omega)
 replace HB := Lib.hid (HB.out.later hb1)
 have HG := Lib.hid hg
 clear hb1 hg hgl m0 m1 m2 q0 q1 q2 f0 f1 f2 HZ
 go_upto_region 2 with fail
 have HD0 : Hid (MrR w (w1.alloc (.cells #[.int .i64 n, .int .i64 n, .slice (some ⟨g, 0, none⟩) N N] 25)) g w1.heap.size n N (.slice lo N lc) (fun _ => 0)) := Lib.hid ⟨HB.out.later (Below.alloc_self w1 _), HG.out.below (Below.alloc_self w1 _), BlkT.new w1 _ _, HGL.out, HG.out.lt⟩
 obtain ⟨ob, hob⟩ : ∃ b, w1.heap.size = b := ⟨_, rfl⟩
 rw [hob] at HD0 ⊢
 generalize World.alloc w1 _ = W1 at *
 clear hob HB HG
 have HL0 : Hid (LowR n (mrT M 0 0) (fun _ => 0)) := Lib.hid (by rw [mrT_zero]; exact LowR.zero n)
 obtain ⟨m0, m1, m2⟩ := HD0.out.B.cells.1
 go_wp2
 go_loopw [4] (fun i wr => ∃ (i0 : Nat) (vs : Nat → Nat), i0 ≤ n ∧ i = .int .i64 i0 ∧ Hid (LowR n (mrT M i0 0) vs) ∧ Hid (MrR w wr g ob n N (.slice lo N lc) vs)) (fun i _ => n - (intOf i).toNat)
 case atStart => exact ⟨0, _, Nat.zero_le _, rfl, HL0, HD0⟩
 case round =>
  clear HL0 HD0 m0 m1 m2
  obtain ⟨wo, rfl⟩ : ∃ wo : World, wo = wr := ⟨_, rfl⟩
  obtain ⟨i, vs, hi, rfl, HL, HD⟩ := hrel
  obtain ⟨m0, m1, m2⟩ := HD.out.B.cells.1
  by_cases hlt : i < n
  ·go_wp2
   go_loopw [5] (fun j wr => ∃ (j0 : Nat) (vs : Nat → Nat), j0 ≤ i + 1 ∧ j = .int .i64 j0 ∧ Hid (LowR n (mrT M i j0) vs) ∧ Hid (MrR w wr g ob n N (.slice lo N lc) vs)) (fun j _ => (i + 1) - (intOf j).toNat)
   case atStart => exact ⟨0, vs, Nat.zero_le _, rfl, HL, HD⟩
   case round =>
    clear HL HD m0 m1 m2
    obtain ⟨wo2, rfl⟩ : ∃ wo : World, wo = wr := ⟨_, rfl⟩
    obtain ⟨j, vs, hj, rfl, HL, HD⟩ := hrel
    by_cases hlj : j ≤ i
    ·have hjn : j < n := by omega
     have hdj : decide (j ≤ i) = true := decide_eq_true hlj
     have hdi : decide ((j : Int) ≤ (i : Int)) = true := decide_eq_true (by omega)
     have HP : Hid (i * n + j < N ∧ j * n + i < N) := Lib.hid (by rw [← HN.out]; exact ⟨at_lt hlt hjn, at_lt hjn hlt⟩)
     have HRX := Lib.hid (HM.out i j hlt hjn)
     have HATX := Lib.hid fun W (hb : Below w.heap.size w W) => HAT.out i j hlt hjn W hb
     obtain ⟨x, hx⟩ : ∃ x, vs0 (i * n + j) = x := ⟨_, rfl⟩
     have HXE := Lib.hid hx
     rw [hx] at HRX HATX
     clear hx
     have HLS : Hid (LowR n (mrT M i (j + 1)) (updF (updF vs (i * n + j) x) (j * n + i) x)) := Lib.hid (by rw [mrT_step hlj]; exact (HL.out.set hjn HRX.out).set hlt HRX.out)
     go_upto_region 8 with fail
     refine wp_region_pl (fun w' : World => (w'.cell? ⟨ob, 0, none⟩ = some (.int .i64 n) ∧ w'.cell? ⟨ob, 1, none⟩ = some (.int .i64 n) ∧ w'.cell? ⟨ob, 2, none⟩ = some (.slice (some ⟨g, 0, none⟩) N N)) ∧ w'.cell? ⟨w.heap.size, 0, none⟩ = some (.int .i64 n) ∧ w'.cell? ⟨w.heap.size, 1, none⟩ = some (.int .i64 n) ∧ w'.cell? ⟨w.heap.size, 2, none⟩ = some (.slice lo N lc)) 7 (.take 0 (.take 1 (.take 2 (.take 3 (.take 4 (.take 5 (.run 6 .nil))))))) (by kernel_rfl) (by kernel_rfl) ?_
     replace HD := Lib.hid (HD.out.later (drew_below _))
     generalize World.drew _ = W5 at HD ⊢
     repeat (refine tkL (v := ?_) rfl rfl rfl (fun w' hSw => ?_) HD.out.rd ?_; rotate_left; (focus (go_simp; with_reducible rfl)); simp only [setL])
     refine wpPl_goL rfl rfl fun K' hK => ?_
     go_simp
     refine (HATX.out _ HD.out.B.b).mono ?_
     rintro e1 W5v1 ⟨rfl, hb1⟩
     replace HD := Lib.hid (HD.out.later hb1)
     refine hK _ _ HD.out.rd ?_
     clear hK K' hb1
     try simp only [Act.put, setL]
     repeat (refine tkL (v := ?_) rfl rfl rfl (fun w' hSw => ?_) HD.out.rd ?_; rotate_left; (focus (go_simp; with_reducible rfl)); simp only [setL])
     refine wpPl_nil ?_
     simp only [drL]
     go_wp2_with fail
     refine (r9put_any g n N i j _ x n _ _ HD.out.gm rfl HP.out.1 (by omega)).mono ?_
     rintro e7 w7 ⟨rfl, hg7, hu7⟩
     replace HD := Lib.hid (HD.out.put hu7 hg7)
     clear hg7 hu7
     go_upto_region 9 with fail
     refine wp_region_pl (fun w' : World => (w'.cell? ⟨ob, 0, none⟩ = some (.int .i64 n) ∧ w'.cell? ⟨ob, 1, none⟩ = some (.int .i64 n) ∧ w'.cell? ⟨ob, 2, none⟩ = some (.slice (some ⟨g, 0, none⟩) N N)) ∧ w'.cell? ⟨w.heap.size, 0, none⟩ = some (.int .i64 n) ∧ w'.cell? ⟨w.heap.size, 1, none⟩ = some (.int .i64 n) ∧ w'.cell? ⟨w.heap.size, 2, none⟩ = some (.slice lo N lc)) 7 (.take 0 (.take 1 (.take 2 (.take 3 (.take 4 (.take 5 (.run 6 .nil))))))) (by kernel_rfl) (by kernel_rfl) ?_
     replace HD := Lib.hid (HD.out.later (drew_below _))
     generalize World.drew _ = W9 at HD ⊢
     repeat (refine tkL (v := ?_) rfl rfl rfl (fun w' hSw => ?_) HD.out.rd ?_; rotate_left; (focus (go_simp; with_reducible rfl)); simp only [setL])
     refine wpPl_goL rfl rfl fun K' hK => ?_
     go_simp
     refine (HATX.out _ HD.out.B.b).mono ?_
     rintro e1 W9v1 ⟨rfl, hb1⟩
     replace HD := Lib.hid (HD.out.later hb1)
     refine hK _ _ HD.out.rd ?_
     clear hK K' hb1
     try simp only [Act.put, setL]
     repeat (refine tkL (v := ?_) rfl rfl rfl (fun w' hSw => ?_) HD.out.rd ?_; rotate_left; (focus (go_simp; with_reducible rfl)); simp only [setL])
     refine wpPl_nil ?_
     simp only [drL]
     go_wp2_with fail
     refine (r9put_any g n N j i _ x n _ _ HD.out.gm rfl HP.out.2 (by omega)).mono ?_
     rintro e7 w7 ⟨rfl, hg7, hu7⟩
     replace HD := Lib.hid (HD.out.put hu7 hg7)
     clear hg7 hu7
     go_wp2
     go_roundw
     case rel => exact ⟨j + 1, _, by omega, by go_num, HLS, HD⟩
     case measure => simp [intOf] <;> omega
    ·obtain rfl : j = i + 1 := by omega
     have hdj : decide (i + 1 ≤ i) = false := decide_eq_false (by omega)
     have hdi : decide (((i + 1 : Nat) : Int) ≤ (i : Int)) = false := decide_eq_false (by omega)
     go_wp2
     go_roundw
     case rel => exact ⟨i + 1, vs, by omega, by go_num, Lib.hid (by rw [← mrT_row]; exact HL.out), HD⟩
     case measure => simp [intOf] <;> omega
  ·obtain rfl : i = n := by omega
   obtain ⟨x0, x1, x2, -⟩ := HD.out.om.cells3
   obtain ⟨-, ⟨q0, q1, q2⟩, f0, f1, f2⟩ := HD.out.B.cells
   have HFE : Hid (∀ (a b c : Value), FMs (((wo.setCell ⟨w.heap.size + 1, 0, none⟩ a).setCell ⟨w.heap.size + 1, 1, none⟩ b).setCell ⟨w.heap.size + 1, 2, none⟩ c) g N vs ∧ Below w.heap.size w (((wo.setCell ⟨w.heap.size + 1, 0, none⟩ a).setCell ⟨w.heap.size + 1, 1, none⟩ b).setCell ⟨w.heap.size + 1, 2, none⟩ c)) := Lib.hid fun a b c => ⟨((HD.out.gm.upd (Upd.set (b := w.heap.size + 1) _) (by have := HD.out.ne; omega)).upd (Upd.set (b := w.heap.size + 1) _) (by have := HD.out.ne; omega)).upd (Upd.set (b := w.heap.size + 1) _) (by have := HD.out.ne; omega), below_three HD.out.B.b _ (Nat.le_succ _) _ _ _⟩
   have HLF : Hid (LowR i (mirM M) vs) := Lib.hid fun a b ha hb => by rw [← mrT_all ha hb]; exact HL.out a b ha hb
   clear HD HL
   go_wp2
   exact bodyPost_ret (v := MatV i i (.slice (some ⟨g, 0, none⟩) N N)) (by simp [results, Tryz.results80, go_sem, q0, q1, q2]) rfl ⟨g, vs, rfl, (HFE.out _ _ _).1, HLF.out, by have := HGL.out; omega, (HFE.out _ _ _).2⟩
section
variable {w0 W V : World} {sb g ob n N : Nat} {lv : Value} {f f' : Bool} {vs vs' : Nat → Nat}
end
end
end Go.Proofs.YtfmecpembnmnkaaGreatDoor
