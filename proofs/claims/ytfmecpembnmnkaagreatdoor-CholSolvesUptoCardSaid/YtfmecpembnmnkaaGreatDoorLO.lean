/- Walks: the references' Inverse, chol.Inverse. Printed by wip/gen/ch34.py. -/
import Derived.Test.YtfmecpembnmnkaaGreatDoorLN
import Derived.Test.YtfmecpembnmnkaaGreatDoorLK
import Derived.Deep.CutRange
import Derived.Test.YtfmecpembnmnkaaGreatDoorLL
namespace Go.Proofs.YtfmecpembnmnkaaGreatDoor
section
open Go.RowKit
attribute [local go_sem] run_store_f
theorem sm_dim {r c s d : Int} {l m : List Nat} (h : smE r c l s d m = 0) : smN r c l s d m = s ∧ smK r c l s d m = d := ⟨if_pos h, if_pos h⟩
theorem ChB.upd {w0 W V : World} {r c : Int} {sl : Value} {b : Nat} (h : ChB w0 W r c sl) (hu : Upd b W V) (hb : b < W.heap.size) (hn : w0.heap.size + 1 < b) : ChB w0 V r c sl := h.of_mod (SmR.below_of hu hb) hn
def SmZ (E N K : Int) (u : Value) (Q : List Nat) (B : Nat) (Y : List Nat) (W : World) : Prop := E = 0 → ∃ (g n k : Nat) (vs : Nat → Nat) (X : Nat → Nat → Fo), N = n ∧ K = k ∧ u = .slice (some ⟨g, 0, none⟩) (n * k) (n * k) ∧ FMs W g (n * k) vs ∧ B ≤ g ∧ (∀ y ∈ Y, g ≠ y) ∧ RecR n k X vs ∧ Q = matR n k X ∧ ∀ i j, finO (X i j) = true
theorem SmZ.add {E N K : Int} {u : Value} {Q Y : List Nat} {B : Nat} {W : World} (h : SmZ E N K u Q B Y W) (o : _root_.Go.Obj) : SmZ E N K u Q B (W.heap.size :: Y) (W.alloc o) := fun e => by
 obtain ⟨g, n, k, vs, X, a1, a2, a3, a4, a5, a6, a7⟩ := h e
 refine ⟨g, n, k, vs, X, a1, a2, a3, a4.below (Below.alloc_self _ _), a5, fun y hy => ?_, a7⟩
 rcases List.mem_cons.1 hy with rfl | hy
 ·have := a4.lt; omega
 ·exact a6 y hy
theorem SmZ.upd {E N K : Int} {u : Value} {Q Y : List Nat} {B b : Nat} {W V : World} (h : SmZ E N K u Q B Y W) (hu : Upd b W V) (hb : b ∈ Y) : SmZ E N K u Q B Y V := fun e => by
 obtain ⟨g, n, k, vs, X, a1, a2, a3, a4, a5, a6, a7⟩ := h e
 exact ⟨g, n, k, vs, X, a1, a2, a3, a4.upd hu (a6 b hb), a5, a6, a7⟩
theorem SmZ.of {E N K : Int} {u : Value} {Q Y : List Nat} {B : Nat} {w W : World} (hz : E = 0 → ∃ (g n k : Nat) (vs : Nat → Nat) (X : Nat → Nat → Fo), N = n ∧ K = k ∧ u = .slice (some ⟨g, 0, none⟩) (n * k) (n * k) ∧ FMs W g (n * k) vs ∧ RecR n k X vs ∧ Q = matR n k X ∧ ∀ i j, finO (X i j) = true)
  (hf : ∀ a c d, u = .slice (some a) c d → w.heap.size ≤ a.block) (hB : B ≤ w.heap.size) (hY : ∀ y ∈ Y, y < w.heap.size) : SmZ E N K u Q B Y W := fun e => by
 obtain ⟨g, n, k, vs, X, a1, a2, a3, a4, a5⟩ := hz e
 have h := hf _ _ _ a3
 exact ⟨g, n, k, vs, X, a1, a2, a3, a4, Nat.le_trans hB h, fun y hy => by have h2 := hY y hy; have h3 : w.heap.size ≤ g := h; omega, a5⟩
structure IvR9 (w0 W : World) (n ob : Nat) (sl : Value) (E N K : Int) (u : Value) (Q : List Nat) : Prop where
 B : ChB w0 W n n sl
 x : BlkT W ob 25 #[.int .i64 N, .int .i64 K, u]
 z : SmZ E N K u Q (w0.heap.size + 2) [ob] W
 ne : w0.heap.size + 1 < ob
theorem IvR9.of {w0 W : World} {n ob : Nat} {sl : Value} {E N K : Int} {u : Value} {Q : List Nat} (hB : ChB w0 W n n sl) (hx : BlkT W ob 25 #[.int .i64 0, .int .i64 0, .slice none 0 0]) (hz : SmZ E N K u Q (w0.heap.size + 2) [ob] W) (hne : w0.heap.size + 1 < ob) :
  IvR9 w0 (((W.setCell ⟨ob, 0, none⟩ (.int .i64 N)).setCell ⟨ob, 1, none⟩ (.int .i64 K)).setCell ⟨ob, 2, none⟩ u) n ob sl E N K u Q :=
 ⟨hB.upd (Upd.set3 _ _ _) hx.lt hne, BlkT.set3 _ _ _ hx, hz.upd (Upd.set3 _ _ _) (List.mem_singleton.2 rfl), hne⟩
theorem ChB.fin {w0 W : World} {r c : Int} {sl : Value} {g n : Nat} {vs : Nat → Nat} {M : Nat → Nat → Fo} (h : ChB w0 W r c sl) (hg : FMs W g (n * n) vs) (hl : LowR n M vs) (hf : ∀ i j, finO (M i j) = true) (hn : n ≤ 12) (hne : w0.heap.size + 1 < g) :
  ChA 0 0 n (matL n M) w0 (.returned (.tuple #[MatV n n (.slice (some ⟨g, 0, none⟩) (n * n) (n * n)), .int .i64 0, .int .i64 0])) (((W.setCell ⟨w0.heap.size + 1, 0, none⟩ (.int .i64 n)).setCell ⟨w0.heap.size + 1, 1, none⟩ (.int .i64 n)).setCell ⟨w0.heap.size + 1, 2, none⟩ (.slice (some ⟨g, 0, none⟩) (n * n) (n * n))) := by
 have hg : FMs (((W.setCell ⟨w0.heap.size + 1, 0, none⟩ (.int .i64 n)).setCell ⟨w0.heap.size + 1, 1, none⟩ (.int .i64 n)).setCell ⟨w0.heap.size + 1, 2, none⟩ (.slice (some ⟨g, 0, none⟩) (n * n) (n * n))) g (n * n) vs :=
  ((hg.upd (Upd.set (b := w0.heap.size + 1) _) (by omega)).upd (Upd.set (b := w0.heap.size + 1) _) (by omega)).upd (Upd.set (b := w0.heap.size + 1) _) (by omega)
 exact ⟨_, rfl, hg.matF hl hf hn, (by intro a c d e; cases e; show w0.heap.size ≤ g; omega), below_three h.b _ (Nat.le_succ _) _ _ _⟩
theorem sm_place {r c s d : Int} {l m : List Nat} (h : smE r c l s d m = 0) : smP r c l s d m = 0 := by
 unfold smE at h
 unfold smP
 by_cases h0 : evnB r c l = 0
 ·rw [if_neg (fun t => t h0)] at h ⊢
  by_cases h1 : chkB s d m = 0
  ·rw [if_neg (fun t => t h1)] at h ⊢
   by_cases h2 : s = r
   ·rw [if_neg (fun t => t h2)] at h ⊢
    by_cases h3 : cholE r c l = 0
    ·exact chol_place h3
    ·rw [if_pos h3] at h; exact absurd h h3
   ·rw [if_pos h2]
  ·rw [if_pos h1]
 ·rw [if_pos h0]
set_option maxRecDepth 100000 in
set_option maxHeartbeats 6400000 in
theorem rinv_any (r c : Int) (sl : Value) (l : List Nat) (w : World) (hl : FSl w sl l) :
  Calls Tryz.prog 34 #[MatV r c sl] w (ChA (invE r c l) (invP r c l) (invN r c l) (invL r c l) w) := by
 have HB := Lib.hid (ChB.new w r c sl)
 have HSQ := Lib.hid (rsquare_any r c sl l _ (hl.below (below2 w (.cells #[.int .i64 r, .int .i64 c, sl] 25) (.cells #[.int .i64 0, .int .i64 0, .slice none 0 0] 25))))
 by_cases h0 : evnB r c l = 0
 ·obtain ⟨n, rfl, rfl, hq⟩ : ∃ n : Nat, r = n ∧ c = n ∧ Sq n n n l := by
   have hq := evn_zero h0
   obtain ⟨n, hn⟩ : ∃ n : Nat, r = n := ⟨r.toNat, hq.hr⟩
   have hc := hq.hc
   rw [hn, Int.toNat_natCast] at hq hc
   exact ⟨n, hn, hc, ⟨rfl, rfl, hq.hn, hq.len, hq.fin⟩⟩
  obtain ⟨e1, e2, hOK⟩ := inv_ok h0
  have hn := hq.hn
  have HSM := Lib.hid fun tl W (hb : Below w.heap.size w W) (hU : FSl W tl (unitL n)) => rsolveMat_any n n sl l n n tl (unitL n) W (hl.below hb) hU
  have HDM := Lib.hid fun h => sm_dim (r := n) (c := n) (l := l) (s := n) (d := n) (m := unitL n) h
  have HUN := Lib.hid fun W => runit_any n W hn
  have HP0 := Lib.hid fun h => sm_place (r := n) (c := n) (l := l) (s := n) (d := n) (m := unitL n) h
  rw [e1, e2]
  rw [h0] at HSQ
  generalize smE n n l n n (unitL n) = E at *
  generalize smP n n l n n (unitL n) = P at *
  generalize smN n n l n n (unitL n) = Nn at *
  generalize smK n n l n n (unitL n) = Kk at *
  generalize smL n n l n n (unitL n) = Q at *
  have HOK := Lib.hid hOK
  generalize invN n n l = iN at *
  generalize invL n n l = iL at *
  have HUF := Lib.hid fun g vs W (hg : FMs W g (n * n) vs) (hlo : LowR n (unitM n) vs) => (show FSl W _ (unitL n) from hg.matF hlo (unit_fin n) hn)
  generalize unitL n = U at *
  generalize unitM n = UM at *
  obtain ⟨N, hN⟩ : ∃ N, n * n = N := ⟨_, rfl⟩
  rw [hN] at HUF HUN
  have HN := Lib.hid hN
  clear e1 e2 hOK h0 hq hl hN
  obtain ⟨⟨m0, m1, m2⟩, ⟨q0, q1, q2⟩, f0, f1, f2⟩ := HB.out.cells
  go_enter Tryz.func34, Tryz.ntmps34
  go_wp2_with fail
  refine HSQ.out.mono ?_
  rintro e1 w1 ⟨rfl, hb1⟩
  replace HB := Lib.hid (HB.out.later hb1)
  clear hb1 HSQ
  clear m0 m1 m2 q0 q1 q2 f0 f1 f2
  obtain ⟨⟨m0, m1, m2⟩, ⟨q0, q1, q2⟩, f0, f1, f2⟩ := HB.out.cells
  go_upto_region 4 with fail
  clear m0 m1 m2 q0 q1 q2 f0 f1 f2
  go_cut [6, 7, 8] from 6 to 6 (fun xv pv ev wx => ∃ (ob : Nat) (uo : Option Addr) (un uc : Nat), xv = .pointer (some ⟨ob, 0, none⟩) ∧ pv = .int .i64 P ∧ ev = .int .i64 E ∧ Hid (IvR9 w wx n ob sl E Nn Kk (.slice uo un uc) Q))
  case first =>
   refine wp_region_pl (fun w' : World => w'.cell? ⟨w.heap.size, 0, none⟩ = some (.int .i64 n) ∧ w'.cell? ⟨w.heap.size, 1, none⟩ = some (.int .i64 n) ∧ w'.cell? ⟨w.heap.size, 2, none⟩ = some sl) 12 (.take 0 (.take 1 (.take 2 (.fork 3 (.fork 4 (.take 5 (.take 6 (.take 7 (.take 8 (.run 9 (.run 10 (.take 11 .nil))))))) 9 (.run 4 (.take 5 (.take 6 (.take 7 (.take 8 (.run 10 (.take 11 .nil)))))))) 9 (.run 3 (.run 4 (.take 5 (.take 6 (.take 7 (.take 8 (.run 10 (.take 11 .nil)))))))))))) (by kernel_rfl) (by kernel_rfl) ?_
   replace HB := Lib.hid (HB.out.later (drew_below _))
   generalize World.drew _ = W5 at HB ⊢
   repeat (refine tkL (v := ?_) rfl rfl rfl (fun w' hSw => ?_) HB.out.cells.1 ?_; rotate_left; (focus (go_simp; with_reducible rfl)); simp only [setL])
   refine wpPl_fork ?_ ?_
   ·refine wpPl_goL rfl rfl fun K' hK => ?_
    go_simp
    refine (HUN.out _).mono ?_
    rintro e1 W6 ⟨g, vs, rfl, hg, hlo, -, hb1⟩
    replace HB := Lib.hid (HB.out.later hb1)
    have HUL := Lib.hid (HUF.out g vs _ hg hlo)
    clear hg hlo hb1
    refine hK _ _ HB.out.cells.1 ?_
    clear hK K'
    try simp only [Act.put, setL]
    repeat (refine tkL (v := ?_) rfl rfl rfl (fun w' hSw => ?_) HB.out.cells.1 ?_; rotate_left; (focus (go_simp; with_reducible rfl)); simp only [setL])
    refine wpPl_fork ?_ ?_
    ·refine wpPl_goL rfl rfl fun K' hK => ?_
     go_simp
     refine (HSM.out _ _ HB.out.b HUL.out).mono ?_
     rintro e1 W7 ⟨u, rfl, hu, hfr, hb1, hz⟩
     obtain ⟨uo, uc, rfl, -⟩ := id hu
     generalize List.length _ = un at *
     have HZ := Lib.hid (SmZ.of (B := w.heap.size + 2) (Y := []) hz hfr HB.out.q.lt (fun y hy => by cases hy))
     replace HB := Lib.hid (HB.out.later hb1)
     clear hu hfr hz HUL hb1
     refine hK _ _ HB.out.cells.1 ?_
     clear hK K'
     try simp only [Act.put, setL]
     repeat (refine tkL (v := ?_) rfl rfl rfl (fun w' hSw => ?_) HB.out.cells.1 ?_; rotate_left; (focus (go_simp; with_reducible rfl)); simp only [setL])
     refine wpPl_goL rfl rfl fun K' hK => ?_
     go_simp
     obtain ⟨ob, hob⟩ : ∃ b, W7.heap.size = b := ⟨_, rfl⟩
     have HO : Hid (BlkT (W7.alloc (.cells #[.int .i64 0, .int .i64 0, .slice none 0 0] 25)) ob 25 #[.int .i64 0, .int .i64 0, .slice none 0 0]) := Lib.hid (hob ▸ BlkT.new W7 _ _)
     have HOE : Hid (w.heap.size + 1 < ob) := Lib.hid (by have := HB.out.q.lt; omega)
     have HZ2 := Lib.hid (HZ.out.add (.cells #[.int .i64 0, .int .i64 0, .slice none 0 0] 25))
     rw [hob] at HZ2
     clear HZ
     replace HB := Lib.hid (HB.out.later (Below.alloc_self W7 (.cells #[.int .i64 0, .int .i64 0, .slice none 0 0] 25)))
     rw [hob]
     generalize World.alloc W7 _ = W8 at *
     clear hob
     refine hK _ _ HB.out.cells.1 ?_
     clear hK K'
     try simp only [Act.put, setL]
     repeat (refine tkL (v := ?_) rfl rfl rfl (fun w' hSw => ?_) HB.out.cells.1 ?_; rotate_left; (focus (go_simp; with_reducible rfl)); simp only [setL])
     have z0 := HO.out.frozen 0
     have z1 := HO.out.frozen 1
     have z2 := HO.out.frozen 2
     obtain ⟨y0, y1, y2, -⟩ := HO.out.cells3
     refine wpPl_goL rfl rfl fun K' hK => ?_
     go_simp
     have HQ := Lib.hid (IvR9.of HB.out HO.out HZ2.out HOE.out)
     refine hK _ _ HQ.out.B.cells.1 ?_
     clear hK K' HB HO HOE HZ2
     try simp only [Act.put, setL]
     repeat (refine tkL (v := ?_) rfl rfl rfl (fun w' hSw => ?_) HQ.out.B.cells.1 ?_; rotate_left; (focus (go_simp; with_reducible rfl)); simp only [setL])
     refine wpPl_nil ?_
     simp only [drL]
     generalize World.setCell (World.setCell (World.setCell W8 _ _) _ _) _ _ = W9 at *
     go_wp2
     go_meet
     exact ⟨ob, _, _, _, rfl, rfl, rfl, HQ⟩
    ·refine wpPl_goL rfl rfl fun K' hK => ?_
     go_simp
     obtain ⟨ob, hob⟩ : ∃ b, W6.heap.size = b := ⟨_, rfl⟩
     have HO : Hid (BlkT (W6.alloc (.cells #[.int .i64 0, .int .i64 0, .slice none 0 0] 25)) ob 25 #[.int .i64 0, .int .i64 0, .slice none 0 0]) := Lib.hid (hob ▸ BlkT.new W6 _ _)
     have HOE : Hid (w.heap.size + 1 < ob) := Lib.hid (by have := HB.out.q.lt; omega)
     replace HUL := Lib.hid (HUL.out.below (Below.alloc_self W6 (.cells #[.int .i64 0, .int .i64 0, .slice none 0 0] 25)))
     replace HB := Lib.hid (HB.out.later (Below.alloc_self W6 (.cells #[.int .i64 0, .int .i64 0, .slice none 0 0] 25)))
     rw [hob]
     generalize World.alloc W6 _ = W7 at *
     clear hob
     refine hK _ _ HB.out.cells.1 ?_
     clear hK K'
     try simp only [Act.put, setL]
     repeat (refine tkL (v := ?_) rfl rfl rfl (fun w' hSw => ?_) HB.out.cells.1 ?_; rotate_left; (focus (go_simp; with_reducible rfl)); simp only [setL])
     refine wpPl_goL rfl rfl fun K' hK => ?_
     go_simp
     refine (HSM.out _ _ HB.out.b HUL.out).mono ?_
     rintro e1 W8 ⟨u, rfl, hu, hfr, hb1, hz⟩
     obtain ⟨uo, uc, rfl, -⟩ := id hu
     generalize List.length _ = un at *
     have HZ := Lib.hid (SmZ.of (B := w.heap.size + 2) (Y := [ob]) hz hfr HB.out.q.lt (fun y hy => by rw [List.mem_singleton.1 hy]; exact HO.out.lt))
     replace HB := Lib.hid (HB.out.later hb1)
     replace HO := Lib.hid (HO.out.below hb1)
     clear hu hfr hz HUL hb1
     refine hK _ _ HB.out.cells.1 ?_
     clear hK K'
     try simp only [Act.put, setL]
     repeat (refine tkL (v := ?_) rfl rfl rfl (fun w' hSw => ?_) HB.out.cells.1 ?_; rotate_left; (focus (go_simp; with_reducible rfl)); simp only [setL])
     have z0 := HO.out.frozen 0
     have z1 := HO.out.frozen 1
     have z2 := HO.out.frozen 2
     obtain ⟨y0, y1, y2, -⟩ := HO.out.cells3
     refine wpPl_goL rfl rfl fun K' hK => ?_
     go_simp
     have HQ := Lib.hid (IvR9.of HB.out HO.out HZ.out HOE.out)
     refine hK _ _ HQ.out.B.cells.1 ?_
     clear hK K' HB HO HOE HZ
     try simp only [Act.put, setL]
     repeat (refine tkL (v := ?_) rfl rfl rfl (fun w' hSw => ?_) HQ.out.B.cells.1 ?_; rotate_left; (focus (go_simp; with_reducible rfl)); simp only [setL])
     refine wpPl_nil ?_
     simp only [drL]
     generalize World.setCell (World.setCell (World.setCell W8 _ _) _ _) _ _ = W9 at *
     go_wp2
     go_meet
     exact ⟨ob, _, _, _, rfl, rfl, rfl, HQ⟩
   ·refine wpPl_goL rfl rfl fun K' hK => ?_
    go_simp
    obtain ⟨ob, hob⟩ : ∃ b, W5.heap.size = b := ⟨_, rfl⟩
    have HO : Hid (BlkT (W5.alloc (.cells #[.int .i64 0, .int .i64 0, .slice none 0 0] 25)) ob 25 #[.int .i64 0, .int .i64 0, .slice none 0 0]) := Lib.hid (hob ▸ BlkT.new W5 _ _)
    have HOE : Hid (w.heap.size + 1 < ob) := Lib.hid (by have := HB.out.q.lt; omega)
    replace HB := Lib.hid (HB.out.later (Below.alloc_self W5 (.cells #[.int .i64 0, .int .i64 0, .slice none 0 0] 25)))
    rw [hob]
    generalize World.alloc W5 _ = W6 at *
    clear hob
    refine hK _ _ HB.out.cells.1 ?_
    clear hK K'
    try simp only [Act.put, setL]
    repeat (refine tkL (v := ?_) rfl rfl rfl (fun w' hSw => ?_) HB.out.cells.1 ?_; rotate_left; (focus (go_simp; with_reducible rfl)); simp only [setL])
    refine wpPl_goL rfl rfl fun K' hK => ?_
    go_simp
    refine (HUN.out _).mono ?_
    rintro e1 W7 ⟨g, vs, rfl, hg, hlo, -, hb1⟩
    replace HB := Lib.hid (HB.out.later hb1)
    replace HO := Lib.hid (HO.out.below hb1)
    have HUL := Lib.hid (HUF.out g vs _ hg hlo)
    clear hg hlo hb1
    refine hK _ _ HB.out.cells.1 ?_
    clear hK K'
    try simp only [Act.put, setL]
    repeat (refine tkL (v := ?_) rfl rfl rfl (fun w' hSw => ?_) HB.out.cells.1 ?_; rotate_left; (focus (go_simp; with_reducible rfl)); simp only [setL])
    refine wpPl_goL rfl rfl fun K' hK => ?_
    go_simp
    refine (HSM.out _ _ HB.out.b HUL.out).mono ?_
    rintro e1 W8 ⟨u, rfl, hu, hfr, hb1, hz⟩
    obtain ⟨uo, uc, rfl, -⟩ := id hu
    generalize List.length _ = un at *
    have HZ := Lib.hid (SmZ.of (B := w.heap.size + 2) (Y := [ob]) hz hfr HB.out.q.lt (fun y hy => by rw [List.mem_singleton.1 hy]; exact HO.out.lt))
    replace HB := Lib.hid (HB.out.later hb1)
    replace HO := Lib.hid (HO.out.below hb1)
    clear hu hfr hz HUL hb1
    refine hK _ _ HB.out.cells.1 ?_
    clear hK K'
    try simp only [Act.put, setL]
    repeat (refine tkL (v := ?_) rfl rfl rfl (fun w' hSw => ?_) HB.out.cells.1 ?_; rotate_left; (focus (go_simp; with_reducible rfl)); simp only [setL])
    have z0 := HO.out.frozen 0
    have z1 := HO.out.frozen 1
    have z2 := HO.out.frozen 2
    obtain ⟨y0, y1, y2, -⟩ := HO.out.cells3
    refine wpPl_goL rfl rfl fun K' hK => ?_
    go_simp
    have HQ := Lib.hid (IvR9.of HB.out HO.out HZ.out HOE.out)
    refine hK _ _ HQ.out.B.cells.1 ?_
    clear hK K' HB HO HOE HZ
    try simp only [Act.put, setL]
    repeat (refine tkL (v := ?_) rfl rfl rfl (fun w' hSw => ?_) HQ.out.B.cells.1 ?_; rotate_left; (focus (go_simp; with_reducible rfl)); simp only [setL])
    refine wpPl_nil ?_
    simp only [drL]
    generalize World.setCell (World.setCell (World.setCell W8 _ _) _ _) _ _ = W9 at *
    go_wp2
    go_meet
    exact ⟨ob, _, _, _, rfl, rfl, rfl, HQ⟩
  case rest =>
   obtain ⟨ob, uo, un, uc, rfl, rfl, rfl, HD⟩ := hcut
   have HB := Lib.hid HD.out.B
   have HX := Lib.hid HD.out.x
   have HZ3 := Lib.hid HD.out.z
   clear HD
   obtain ⟨⟨m0, m1, m2⟩, ⟨q0, q1, q2⟩, f0, f1, f2⟩ := HB.out.cells
   by_cases hE : E = 0
   ·obtain ⟨g, n2, k2, vs, X, a1, a2, a3, hg, -, -, hX, rfl, hXf⟩ := HZ3.out hE
    obtain ⟨b1, b2⟩ := HDM.out hE
    obtain ⟨rfl, rfl⟩ := HOK.out.2 hE
    obtain rfl : n2 = n := by omega
    obtain rfl : k2 = n2 := by omega
    cases a3
    subst b1
    subst b2
    subst hE
    have HMI := Lib.hid (rmirror_any k2 g vs X _ hn hg hX)
    have HXF := Lib.hid hXf
    clear hg hX hXf a1 a2 HZ3 HOK HDM HSM HUN HUF
    have hP : P = 0 := HP0.out rfl
    subst hP
    obtain ⟨x0, x1, x2, -⟩ := HX.out.cells3
    go_wp2_with fail
    refine HMI.out.mono ?_
    rintro e8 w8 ⟨g2, vs2, rfl, hg2, hl2, hge, hb8⟩
    have HGE2 : Hid (w.heap.size + 1 < g2) := Lib.hid (by have := HB.out.q.lt; omega)
    replace HB := Lib.hid (HB.out.later hb8)
    have HFI := Lib.hid (HB.out.fin hg2 hl2 (fun i j => by unfold mirM; split <;> exact HXF.out _ _) hn HGE2.out)
    rw [mirL_mat] at HFI
    clear hg2 hl2 hge hb8 x0 x1 x2 HMI
    clear m0 m1 m2 q0 q1 q2 f0 f1 f2
    obtain ⟨⟨m0, m1, m2⟩, ⟨q0, q1, q2⟩, f0, f1, f2⟩ := HB.out.cells
    go_wp2
    exact bodyPost_ret (v := .tuple #[MatV k2 k2 (.slice (some ⟨g2, 0, none⟩) (k2 * k2) (k2 * k2)), .int .i64 0, .int .i64 0]) (by simp [results, Tryz.results34, go_sem, q0, q1, q2]) rfl HFI.out
   ·obtain ⟨rfl, rfl⟩ := HOK.out.1 hE
    have hp : (E == 0) = false := beq_eq_false_iff_ne.2 hE
    clear HZ3 HOK HDM HSM HUN HUF HX
    go_wp2
    exact bodyPost_ret (v := .tuple #[MatV 0 0 (.slice none 0 0), .int .i64 P, .int .i64 E]) (by simp [results, Tryz.results34, go_sem, q0, q1, q2]) rfl HB.out.err
 ·obtain ⟨e1, e2, e3, e4⟩ := inv_e1 h0
  rw [e1, e2, e3, e4]
  have hp := beq_eq_false_iff_ne.2 h0
  generalize evnB r c l = k at *
  clear hl h0 e1 e2 e3 e4
  obtain ⟨⟨m0, m1, m2⟩, ⟨q0, q1, q2⟩, f0, f1, f2⟩ := HB.out.cells
  go_enter Tryz.func34, Tryz.ntmps34
  go_wp2_with fail
  refine HSQ.out.mono ?_
  rintro e1 w1 ⟨rfl, hb1⟩
  replace HB := Lib.hid (HB.out.later hb1)
  clear hb1 HSQ
  clear m0 m1 m2 q0 q1 q2 f0 f1 f2
  obtain ⟨⟨m0, m1, m2⟩, ⟨q0, q1, q2⟩, f0, f1, f2⟩ := HB.out.cells
  go_wp2
  exact bodyPost_ret (v := .tuple #[MatV 0 0 (.slice none 0 0), .int .i64 ((0 : Nat) : Int), .int .i64 k]) (by simp [results, Tryz.results34, go_sem, q0, q1, q2]) rfl HB.out.err
theorem matR_good {n : Nat} (hn : n ≤ 12) {X : Nat → Nat → Fo} (hX : ∀ i j, finO (X i j) = true) : evnB n n (matR n n X) = 0 := by
 have h1 : chkB n n (matR n n X) = 0 := by
  unfold chkB
  rw [if_pos (by omega), if_pos (by rw [show (matR n n X).length = n * n by simp [matR], Int.natCast_mul]), if_pos]
  rw [List.all_eq_true]
  intro x hx
  unfold matR at hx
  simp only [List.mem_map, List.mem_range] at hx
  obtain ⟨p, -, rfl⟩ := hx
  have h := hX (p / n) (p % n)
  cases e : X (p / n) (p % n) with
  | none => rw [e] at h; cases h
  | some v => rw [e] at h; exact h
 unfold evnB
 rw [if_neg (fun t => t h1), if_pos rfl]
set_option maxRecDepth 100000 in
set_option maxHeartbeats 6400000 in
theorem cinv_any (r c : Int) (sl : Value) (l : List Nat) (w : World) (hl : FSl w sl l) :
  Calls Tryz.prog 35 #[MatV r c sl] w (ChA (invE r c l) (invP r c l) (invN r c l) (invL r c l) w) := by
 have HB := Lib.hid (ChB.new w r c sl)
 have HSQ := Lib.hid (csquare_any r c sl l _ (hl.below (below2 w (.cells #[.int .i64 r, .int .i64 c, sl] 25) (.cells #[.int .i64 0, .int .i64 0, .slice none 0 0] 25))))
 by_cases h0 : sqrB r c l = 0
 ·obtain ⟨n, rfl, rfl, hq, -⟩ := sqr_zero h0
  have hev := hq.evn
  obtain ⟨e1, e2, hOK⟩ := inv_ok hev
  have hn := hq.hn
  have HSM := Lib.hid fun tl W (hb : Below w.heap.size w W) (hU : FSl W tl (unitL n)) => csolveMat_any n n sl l n n tl (unitL n) W (hl.below hb) hU
  have HDM := Lib.hid fun h => sm_dim (r := n) (c := n) (l := l) (s := n) (d := n) (m := unitL n) h
  have HP0 := Lib.hid fun h => sm_place (r := n) (c := n) (l := l) (s := n) (d := n) (m := unitL n) h
  have HEY := Lib.hid fun W => Eye_any n hn W
  have HMR := Lib.hid fun u (X : Nat → Nat → Fo) W (h1 : FSl W u (matR n n X)) (hX : ∀ i j, finO (X i j) = true) => Mirror_any n u (matR n n X) W h1 (matR_good hn hX) hn (by simp [matR]) X rfl hX
  rw [e1, e2]
  rw [h0] at HSQ
  generalize smE n n l n n (unitL n) = E at *
  generalize smP n n l n n (unitL n) = P at *
  generalize smN n n l n n (unitL n) = Nn at *
  generalize smK n n l n n (unitL n) = Kk at *
  generalize smL n n l n n (unitL n) = Q at *
  have HOK := Lib.hid hOK
  generalize invN n n l = iN at *
  generalize invL n n l = iL at *
  generalize unitL n = U at *
  clear e1 e2 hOK h0 hev hq hl
  obtain ⟨⟨m0, m1, m2⟩, ⟨q0, q1, q2⟩, f0, f1, f2⟩ := HB.out.cells
  go_enter Tryz.func35, Tryz.ntmps35
  go_wp2_with fail
  refine HSQ.out.mono ?_
  rintro e1 w1 ⟨rfl, hb1⟩
  replace HB := Lib.hid (HB.out.later hb1)
  clear hb1 HSQ
  clear m0 m1 m2 q0 q1 q2 f0 f1 f2
  obtain ⟨⟨m0, m1, m2⟩, ⟨q0, q1, q2⟩, f0, f1, f2⟩ := HB.out.cells
  go_wp2_with fail
  refine (HEY.out _).mono ?_
  rintro e2 w2 ⟨u, rfl, hu, hb1⟩
  obtain ⟨ul, hul⟩ : ∃ ul, ul = u := ⟨_, rfl⟩
  obtain ⟨uo, uc, hue, -⟩ := id hu
  generalize List.length _ = un at hue
  subst hul
  subst hue
  replace HB := Lib.hid (HB.out.later hb1)
  have HU := Lib.hid hu
  clear hb1 hu HEY
  clear m0 m1 m2 q0 q1 q2 f0 f1 f2
  go_upto_region 5 with fail
  have HOB : Hid (BlkT (w2.alloc (.cells #[.int .i64 n, .int .i64 n, .slice uo un uc] 25)) w2.heap.size 25 #[.int .i64 n, .int .i64 n, .slice uo un uc]) := Lib.hid (BlkT.new w2 _ _)
  have HB2 := Below.alloc_self w2 (.cells #[.int .i64 n, .int .i64 n, .slice uo un uc] 25)
  replace HB := Lib.hid (HB.out.later HB2)
  replace HU := Lib.hid (HU.out.below HB2)
  clear HB2
  obtain ⟨ob, hob⟩ : ∃ b, w2.heap.size = b := ⟨_, rfl⟩
  rw [hob] at HOB ⊢
  generalize World.alloc w2 _ = W2 at *
  clear hob
  obtain ⟨⟨m0, m1, m2⟩, ⟨q0, q1, q2⟩, f0, f1, f2⟩ := HB.out.cells
  obtain ⟨o0, o1, o2, -⟩ := HOB.out.cells3
  go_wp2_with fail
  refine (HSM.out _ _ HB.out.b HU.out).mono ?_
  rintro e3 w3 ⟨x, rfl, hx, hfr, hb1, hz⟩
  obtain ⟨xl, hxl⟩ : ∃ xl, xl = x := ⟨_, rfl⟩
  obtain ⟨xo, xc, hxe, -⟩ := id hx
  generalize List.length _ = xn at hxe
  subst hxl
  subst hxe
  have HSZ := Lib.hid HB.out.q.lt
  replace HB := Lib.hid (HB.out.later hb1)
  have HX := Lib.hid hx
  have HZ : Hid (E = 0 → ∃ X : Nat → Nat → Fo, Q = matR n n X ∧ ∀ i j, finO (X i j) = true) := Lib.hid fun h => by
   obtain ⟨g, n2, k2, vs, X, a1, a2, -, -, -, a6, a7⟩ := hz h
   obtain ⟨b1, b2⟩ := HDM.out h
   obtain rfl : n2 = n := by omega
   obtain rfl : k2 = n2 := by omega
   exact ⟨X, a6, a7⟩
  clear hb1 hx hz hfr o0 o1 o2 HOB HU HSM
  clear m0 m1 m2 q0 q1 q2 f0 f1 f2
  go_upto_region 6 with fail
  have HXB : Hid (BlkT (w3.alloc (.cells #[.int .i64 Nn, .int .i64 Kk, .slice xo xn xc] 25)) w3.heap.size 25 #[.int .i64 Nn, .int .i64 Kk, .slice xo xn xc]) := Lib.hid (BlkT.new w3 _ _)
  have HB2 := Below.alloc_self w3 (.cells #[.int .i64 Nn, .int .i64 Kk, .slice xo xn xc] 25)
  have HXL : Hid (w.heap.size + 1 < w3.heap.size) := Lib.hid HB.out.q.lt
  replace HB := Lib.hid (HB.out.later HB2)
  replace HX := Lib.hid (HX.out.below HB2)
  clear HB2
  obtain ⟨xb, hxb⟩ : ∃ b, w3.heap.size = b := ⟨_, rfl⟩
  rw [hxb] at HXB HXL ⊢
  generalize World.alloc w3 _ = W3 at *
  clear hxb
  obtain ⟨⟨m0, m1, m2⟩, ⟨q0, q1, q2⟩, f0, f1, f2⟩ := HB.out.cells
  by_cases hE : E = 0
  ·obtain ⟨X, rfl, hXf⟩ := HZ.out hE
   obtain ⟨b1, b2⟩ := HDM.out hE
   obtain ⟨rfl, rfl⟩ := HOK.out.2 hE
   have hP : P = 0 := HP0.out hE
   subst hP
   subst b1
   subst b2
   subst hE
   have HMI := Lib.hid fun W (h : FSl W (.slice xo xn xc) (matR n n X)) => HMR.out _ X W h hXf
   generalize mirL n (matR n n X) = R at *
   clear HMR HZ HOK HDM hXf HP0
   obtain ⟨x0, x1, x2, -⟩ := HXB.out.cells3
   have z0 := HXB.out.frozen 0
   have z1 := HXB.out.frozen 1
   have z2 := HXB.out.frozen 2
   go_wp2_with fail
   refine (HMI.out _ HX.out).mono ?_
   rintro e8 w8 ⟨v, rfl, hv, hvn, hb8⟩
   obtain ⟨vl, hvl⟩ : ∃ vl, vl = v := ⟨_, rfl⟩
   obtain ⟨vo, vc, hve, -⟩ := id hv
   generalize List.length _ = vn at hve
   subst hvl
   subst hve
   have HVB : Hid (∀ a c d, (Value.slice vo vn vc) = .slice (some a) c d → xb < a.block ∧ w.heap.size + 1 < a.block) := Lib.hid fun a c d e => by have h1 := hvn a c d e; have h2 := HXB.out.lt; have h3 := HB.out.q.lt; omega
   replace HB := Lib.hid (HB.out.later hb8)
   replace HXB := Lib.hid (HXB.out.below hb8)
   have HV := Lib.hid hv
   clear hv hvn hb8 x0 x1 x2 z0 z1 z2 HX HMI
   clear m0 m1 m2 q0 q1 q2 f0 f1 f2
   obtain ⟨x0, x1, x2, -⟩ := HXB.out.cells3
   have z0 := HXB.out.frozen 0
   have z1 := HXB.out.frozen 1
   have z2 := HXB.out.frozen 2
   go_upto_region 9 with fail
   clear x0 x1 x2 z0 z1 z2
   have HUP : Hid (Upd xb w8 (((w8.setCell ⟨xb, 0, none⟩ (.int .i64 n)).setCell ⟨xb, 1, none⟩ (.int .i64 n)).setCell ⟨xb, 2, none⟩ (.slice vo vn vc))) := Lib.hid (Upd.set3 _ _ _)
   replace HB := Lib.hid (HB.out.upd HUP.out HXB.out.lt HXL.out)
   replace HXB := Lib.hid (BlkT.set3 (.int .i64 n) (.int .i64 n) (.slice vo vn vc) HXB.out)
   replace HV := Lib.hid (HV.out.upd_lt (fun a c d e => (HVB.out a c d e).1) HUP.out)
   clear HUP
   generalize World.setCell (World.setCell (World.setCell w8 _ _) _ _) _ _ = W8 at *
   obtain ⟨x0, x1, x2, -⟩ := HXB.out.cells3
   obtain ⟨⟨m0, m1, m2⟩, ⟨q0, q1, q2⟩, f0, f1, f2⟩ := HB.out.cells
   have HFI : Hid (∀ a b c, FSl (((W8.setCell ⟨w.heap.size + 1, 0, none⟩ a).setCell ⟨w.heap.size + 1, 1, none⟩ b).setCell ⟨w.heap.size + 1, 2, none⟩ c) (.slice vo vn vc) R ∧ Below w.heap.size w (((W8.setCell ⟨w.heap.size + 1, 0, none⟩ a).setCell ⟨w.heap.size + 1, 1, none⟩ b).setCell ⟨w.heap.size + 1, 2, none⟩ c)) := Lib.hid fun a b c => ⟨HV.out.upd_lt (fun a c d e => (HVB.out a c d e).2) (Upd.set3 _ _ _), below_three HB.out.b _ (Nat.le_succ _) _ _ _⟩
   clear HXB HV HB
   go_wp2
   exact bodyPost_ret (v := .tuple #[MatV n n (.slice vo vn vc), .int .i64 0, .int .i64 0]) (by simp [results, Tryz.results35, go_sem, q0, q1, q2]) rfl ⟨_, rfl, (HFI.out _ _ _).1, (fun a c d e => by have := (HVB.out a c d e).2; omega), (HFI.out _ _ _).2⟩
  ·obtain ⟨rfl, rfl⟩ := HOK.out.1 hE
   have hp : (E == 0) = false := beq_eq_false_iff_ne.2 hE
   clear HZ HOK HDM HX HXB HMR
   go_wp2
   exact bodyPost_ret (v := .tuple #[MatV 0 0 (.slice none 0 0), .int .i64 P, .int .i64 E]) (by simp [results, Tryz.results35, go_sem, q0, q1, q2]) rfl HB.out.err
 ·obtain ⟨e1, e2, e3, e4⟩ := inv_sq h0
  rw [e1, e2, e3, e4]
  have hp := beq_eq_false_iff_ne.2 h0
  generalize sqrB r c l = k at *
  clear hl h0 e1 e2 e3 e4
  obtain ⟨⟨m0, m1, m2⟩, ⟨q0, q1, q2⟩, f0, f1, f2⟩ := HB.out.cells
  go_enter Tryz.func35, Tryz.ntmps35
  go_wp2_with fail
  refine HSQ.out.mono ?_
  rintro e1 w1 ⟨rfl, hb1⟩
  replace HB := Lib.hid (HB.out.later hb1)
  clear hb1 HSQ
  clear m0 m1 m2 q0 q1 q2 f0 f1 f2
  obtain ⟨⟨m0, m1, m2⟩, ⟨q0, q1, q2⟩, f0, f1, f2⟩ := HB.out.cells
  go_wp2
  exact bodyPost_ret (v := .tuple #[MatV 0 0 (.slice none 0 0), .int .i64 ((0 : Nat) : Int), .int .i64 k]) (by simp [results, Tryz.results35, go_sem, q0, q1, q2]) rfl HB.out.err
end
section
open Go.RowKit
attribute [local go_sem] run_store_f
theorem owf_of {W : World} {B : Nat} {v : Value} {l : List Nat} (h : W.ownsRow B 35 1 v l.length (fls64 l)) : OwF W B v l.length (fun i => l.getD i 0) := by
 unfold OwF
 have e : ((List.range l.length).map fun i => Value.float .f64 (l.getD i 0)) = fls64 l := by
  apply List.ext_getElem?
  intro i
  unfold fls64
  rw [List.getElem?_map, List.getElem?_map]
  by_cases hi : i < l.length
  ·rw [List.getElem?_range hi, List.getElem?_eq_getElem hi]
   simp [List.getD_eq_getElem?_getD, List.getElem?_eq_getElem hi]
  ·rw [List.getElem?_eq_none (by simpa using hi), List.getElem?_eq_none (by simpa using hi)]; rfl
 rw [e]; exact h
set_option maxRecDepth 100000 in
set_option maxHeartbeats 800000 in
theorem rOf64_ownF (v : Value) (l : List Nat) (w : World) (hl : USl w v l) :
  Calls Tryz.prog 23 #[v] w fun en w' => ∃ u, en = .returned u ∧ FSl w' u l ∧ (∀ a c d, u = .slice (some a) c d → w.heap.size ≤ a.block) ∧ OwF w' w.heap.size u l.length (fun i => l.getD i 0) ∧ Below w.heap.size w w' := by
 obtain ⟨i0, hi, hz0, hz1, hz2⟩ := info_parts Tryz.info35
 obtain ⟨ao, cap, rfl, hcap, hn, hx, hc⟩ := hl
 have HC := Lib.hid hc
 have HX := Lib.hid hx
 clear hc hx
 go_enter Tryz.func23, Tryz.ntmps23
 go_wp2
 go_loopw [3, 8] (fun u i wr => ∃ k : Nat, k ≤ l.length ∧ i = .int .i64 k ∧ Hid (wr.ownsRow w.heap.size 35 1 u k (fls64 (l.take k)) ∧ Below w.heap.size w wr)) (fun _ i _ => l.length - (intOf i).toNat)
 case atStart => exact ⟨0, Nat.zero_le _, rfl, Lib.hid ⟨World.ownsRow_nil _ _ _ _, Below.refl _ _⟩⟩
 case round =>
  obtain ⟨k, hk, rfl, HR⟩ := hrel
  obtain ⟨ao2, cap2, rfl⟩ := owns_shape HR.out.1
  by_cases hlt : k < l.length
  ·obtain ⟨b, off, rfl, hb, hcc⟩ := HC.out (by omega)
   have hck := (HR.out.2.cell (p := ⟨b, off + k, none⟩) hb).trans (hcc k hlt)
   have HSU := Lib.hid (fls_succ hlt)
   have hfr := ffrom_eq l[k]
   clear hcc
   generalize l[k] = x at *
   have HOW := Lib.hid fun o => HR.out.1.kept (grown_of_below (Below.alloc_self wr o)) (by cases (Value.slice ao2 k cap2).ownBlock <;> simp)
   have HNW := Lib.hid fun W => cell_one_new W (.float .f64 x) 35
   go_wp2_with (at_builtin; refine wpList_append_own _ rfl _ _ 23 rfl w.heap.size 35 i0 (.float .f64 0) 1 8 Tryz.underlying23 hi hz0 hz1 hz2 rfl (by decide) _ _ _ rfl (HOW.out _) ⟨_, 0, none⟩ 1 1 [.float .f64 x] rfl rfl (HNW.out _) ?c2 ?c3 ?c4 ?c5 ?_)
   case c2 => intro u hu; simp only [List.mem_singleton] at hu; subst hu; rfl
   case c3 => unfold maxLen; omega
   case c4 => omega
   case c5 => exact Nat.le_trans HR.out.2.size (by simp)
   intro v' U4 hown hgrow _
   rw [← HSU.out] at hown
   have HR2 := Lib.hid hown
   have HB2 := Lib.hid ((HR.out.2.trans ((Below.alloc_self wr _).mono HR.out.2.size)).grown hgrow (Nat.le_trans HR.out.2.size (by simp)) (fun j hj => (HR.out.1.lt j hj).1))
   obtain ⟨ao', cap', hv'⟩ := owns_shape hown
   rw [hv'] at HR2 ⊢
   clear hown hgrow hv' HNW HOW hck hfr
   go_wp2
   go_roundw
   case rel => exact ⟨k + 1, by omega, by go_num, Lib.hid ⟨HR2.out, HB2.out⟩⟩
   case measure => simp [intOf]; omega
  ·obtain rfl : k = l.length := by omega
   have HT : Hid (l.take l.length = l) := Lib.hid List.take_length
   rw [HT.out] at HR
   go_wp2
   go_ret
   exact ⟨_, rfl, FSl.of_owns HR.out.1 hn HX.out, fun a c d e => (HR.out.1.lt a.block (by have e2 : Value.slice ao2 l.length cap2 = .slice (some a) c d := e; rw [e2]; rfl)).1, owf_of HR.out.1, HR.out.2⟩
set_option maxRecDepth 100000 in
set_option maxHeartbeats 3200000 in
theorem in9_ownF (r c : Int) (v : Value) (l : List Nat) (w : World) (hl : USl w v l) : Calls Tryz.prog 8 #[.int .i64 r, .int .i64 c, v] w fun e w' => ∃ u, e = .returned (MatV r c u) ∧ FSl w' u l ∧ OwF w' w.heap.size u l.length (fun i => l.getD i 0) ∧ Below w.heap.size w w' := by
 have HO := Lib.hid (rOf64_ownF v l _ (hl.below (Below.alloc_self w (.cells #[.int .i64 0, .int .i64 0, .slice none 0 0] 25))))
 have HR : Hid (MBx w (w.alloc (.cells #[.int .i64 0, .int .i64 0, .slice none 0 0] 25)) w.heap.size 0 0 (.slice none 0 0)) := Lib.hid (MBx.new w _ _ _)
 clear hl
 go_enter Tryz.func8, Tryz.ntmps8
 go_wp2_with fail
 have HSZ : Hid (w.heap.size < (w.alloc (.cells #[.int .i64 0, .int .i64 0, .slice none 0 0] 25)).heap.size) := Lib.hid (by simp)
 have HSE : Hid ((w.alloc (.cells #[.int .i64 0, .int .i64 0, .slice none 0 0] 25)).heap.size = w.heap.size + 1) := Lib.hid (size_alloc _ _)
 generalize World.alloc w _ = W0 at *
 refine HO.out.mono ?_
 rintro e1 w1 ⟨u, rfl, hu, hun, how, hb1⟩
 obtain ⟨uo, uc, rfl, -⟩ := id hu
 have HFU : Hid (∀ (a b c : Value), FSl (((w1.setCell ⟨w.heap.size, 0, none⟩ a).setCell ⟨w.heap.size, 1, none⟩ b).setCell ⟨w.heap.size, 2, none⟩ c) (.slice uo l.length uc) l) := Lib.hid fun a b c => (FSn.upd ⟨hu, fun _ x p q e => by have := hun x p q e; have h2 := HSZ.out; omega⟩ (((Upd.set (b := w.heap.size) a).trans (Upd.set (b := w.heap.size) b)).trans (Upd.set (b := w.heap.size) c))).1
 replace HR := Lib.hid (HR.out.later hb1)
 have HQ := Lib.hid fun a b d => OwF.three (w0 := w) how HSE.out HR.out.b a b d
 clear hu hun how hb1 HO HSZ HSE
 obtain ⟨r0, r1, r2⟩ := HR.out.m3
 have f0 := HR.out.m.frozen 0
 have f1 := HR.out.m.frozen 1
 have f2 := HR.out.m.frozen 2
 go_wp2
 refine bodyPost_ret (v := MatV r c (.slice uo l.length uc)) (by simp [results, Tryz.results8, go_sem, r0, r1, r2]) rfl ⟨_, rfl, HFU.out _ _ _, (HQ.out _ _ _).1, below_three HR.out.b _ (Nat.le_refl _) _ _ _⟩
structure LwO (w0 W : World) (N mb : Nat) (r c : Int) (sl : Value) (l : List Nat) (n : Nat) (vs : Nat → Nat) : Prop where
 f : LwF w0 W N mb r c sl l
 o : OwF W w0.heap.size sl n vs
 lt : ∀ g, sl.ownBlock = some g → g < mb
section
variable {w0 W V : World} {N mb sb n : Nat} {r c : Int} {sl : Value} {l : List Nat} {vs : Nat → Nat}
theorem LwO.later (h : LwO w0 W N mb r c sl l n vs) (hb : Below W.heap.size W V) : LwO w0 V N mb r c sl l n vs := ⟨h.f.later hb, h.o.later hb, h.lt⟩
theorem LwO.upd (h : LwO w0 W N mb r c sl l n vs) (hu : Upd sb W V) (hs : N ≤ sb) : LwO w0 V N mb r c sl l n vs :=
 ⟨h.f.upd hu hs, h.o.of_blocks fun g hg => hu.block g (h.o.lt g hg).2 (by have := h.lt g hg; have := h.f.ne; omega), h.lt⟩
theorem LwO.fl (h : LwO w0 W N mb r c sl l n vs) : FSl W sl l := h.f.fl
structure LwS (w0 W : World) (mb xb yb : Nat) (r c N : Int) (sl u v : Value) (l : List Nat) (n : Nat) (vs : Nat → Nat) : Prop where
 m : BlkT W mb 25 #[.int .i64 r, .int .i64 c, sl]
 x : BlkT W xb 25 #[.int .i64 N, .int .i64 N, u]
 y : BlkT W yb 25 #[.int .i64 N, .int .i64 N, v]
 o : OwF W w0.heap.size sl n vs
 fu : FSl W u l
 fv : FSl W v l
 uf : ∀ a c d, u = .slice (some a) c d → mb < a.block
 vf : ∀ a c d, v = .slice (some a) c d → mb < a.block
 lt : ∀ g, sl.ownBlock = some g → g < mb
 ne : mb < xb ∧ mb < yb
 b : Below w0.heap.size w0 W
theorem LwS.set {g cap p z xb yb : Nat} {M : Int} {u v : Value} (h : LwS w0 W mb xb yb r c M (.slice (some ⟨g, 0, none⟩) n cap) u v l n vs) : LwS w0 (W.setCell ⟨g, p, none⟩ (.float .f64 z)) mb xb yb r c M (.slice (some ⟨g, 0, none⟩) n cap) u v l n (updF vs p z) := by
 have hlt := h.lt g rfl
 have hne := h.ne
 have hg := h.o.lt g rfl
 have hu : Upd g W (W.setCell ⟨g, p, none⟩ (.float .f64 z)) := Upd.set _
 exact ⟨h.m.upd hu (by omega), h.x.upd hu (by omega), h.y.upd hu (by omega), h.o.set, h.fu.upd_lt (fun a c d e => by have := h.uf a c d e; omega) hu, h.fv.upd_lt (fun a c d e => by have := h.vf a c d e; omega) hu, h.uf, h.vf, h.lt, hne, hu.below h.b (by omega) h.b.size⟩
theorem LwS.cell {cap p xb yb : Nat} {xo : Option Addr} {M : Int} {u v : Value} (h : LwS w0 W mb xb yb r c M (.slice xo n cap) u v l n vs) (hp : p < n) : ∃ g, xo = some ⟨g, 0, none⟩ ∧ W.cell? ⟨g, p, none⟩ = some (.float .f64 (vs p)) ∧ W.frozen? ⟨g, p, none⟩ = false := by
 obtain ⟨g, h1, h2, -⟩ := h.o.cell hp
 subst h1
 exact ⟨g, rfl, h2, h.o.frozen p⟩
end
set_option maxRecDepth 100000 in
set_option maxHeartbeats 6400000 in
theorem cholSolves_any (r c m : Int) (vm vb : Value) (lm lb : List Nat) (w : World) (hm : USl w vm lm) (hvb : USl w vb lb) (hT : TabB w) : Calls Tryz.prog 6 #[.int .i64 r, .int .i64 c, vm, vb, .int .i64 m] w (Gives (.bool true) w) := by
 have HI := Lib.hid fun W (h : Below w.heap.size w W) => in9_ownF r c vm lm W (hm.below h)
 have HI2 := Lib.hid fun W (h : Below w.heap.size w W) => in9_any r c vm lm W (hm.below h)
 have HOF := Lib.hid fun W (h : Below w.heap.size w W) => rOf64_own vb lb W (hvb.below h)
 have HT := Lib.hid fun W (h : Below w.heap.size w W) => hT.below h
 have hE1 : ∀ E : Int, (E == E) = true := fun E => by simp
 have hE2 : ∀ E : Int, (E != E) = false := fun E => by simp
 clear hm hvb hT
 go_enter Tryz.func6, Tryz.ntmps6
 go_wp2_with fail
 refine (HI.out _ (Below.refl _ _)).mono ?_
 rintro e0 w0 ⟨u, rfl, hu, hou, hb0⟩
 obtain ⟨ul, hul⟩ : ∃ ul, ul = u := ⟨_, rfl⟩
 obtain ⟨uo, uc, hue, -⟩ := id hu
 generalize hun : List.length lm = un at *
 subst hul
 subst hue
 go_upto_region 2 with fail
 have HM : Hid (LwO w (w0.alloc (.cells #[.int .i64 r, .int .i64 c, .slice uo un uc] 25)) (w0.heap.size + 1) w0.heap.size r c (.slice uo un uc) lm un (fun i => lm.getD i 0)) := Lib.hid ⟨⟨BlkT.new w0 _ _, fun sb hs => (FSn.of hu (by omega)).below (Below.alloc_self _ _), hb0.alloc hb0.size _, by have := hb0.size; rw [size_alloc]; omega⟩, hou.later (Below.alloc_self _ _), fun g hg => (hou.lt g hg).2⟩
 have HUN := Lib.hid hun
 obtain ⟨mb, hmb⟩ : ∃ b, w0.heap.size = b := ⟨_, rfl⟩
 rw [hmb] at HM ⊢
 generalize World.alloc w0 _ = W0 at *
 clear hmb hb0 hu hou HI hun
 obtain ⟨N0, hN0⟩ : ∃ b, mb + 1 = b := ⟨_, rfl⟩
 have HN0 : Hid (mb < N0) := Lib.hid (by omega)
 rw [hN0] at HM
 clear hN0
 go_wp2_with fail
 refine (HOF.out _ HM.out.f.b).mono ?_
 rintro e1 w1 ⟨v, rfl, hv, -, hb1⟩
 obtain ⟨vl, hvl⟩ : ∃ vl, vl = v := ⟨_, rfl⟩
 obtain ⟨vo, vc, hve, -⟩ := id hv
 generalize List.length _ = vn at hve
 subst hvl
 subst hve
 have HV := Lib.hid hv
 replace HM := Lib.hid (HM.out.later hb1)
 clear hb1 hv HOF
 obtain ⟨m0, m1, m2, -⟩ := HM.out.f.m.cells3
 go_wp2_with fail
 refine (solve_any r c _ lm _ lb _ HM.out.fl HV.out).mono ?_
 rintro e2 w2 ⟨x, rfl, hx, -, hb1⟩
 obtain ⟨xl, hxl⟩ : ∃ xl, xl = x := ⟨_, rfl⟩
 obtain ⟨xo, xc, hxe, -⟩ := id hx
 generalize List.length _ = xn at hxe
 subst hxl
 subst hxe
 replace HM := Lib.hid (HM.out.later hb1)
 replace HV := Lib.hid (HV.out.below hb1)
 have HX := Lib.hid hx
 clear hb1 hx m0 m1 m2
 have HRS := Lib.hid fun W (h1 : FSl W (.slice uo un uc) lm) (h2 : FSl W (.slice vo vn vc) lb) => rsolve_any r c _ lm _ lb W h1 h2
 generalize slvE r c lm lb = E at *
 generalize slvP r c lm lb = P at *
 generalize slvL r c lm lb = R at *
 obtain ⟨m0, m1, m2, -⟩ := HM.out.f.m.cells3
 go_wp2_with fail
 refine (HRS.out _ HM.out.fl HV.out).mono ?_
 rintro e3 w3 ⟨y, rfl, hy, -, hb1⟩
 obtain ⟨yl, hyl⟩ : ∃ yl, yl = y := ⟨_, rfl⟩
 obtain ⟨yo, yc, hye, -⟩ := id hy
 generalize List.length _ = yn at hye
 subst hyl
 subst hye
 replace HM := Lib.hid (HM.out.later hb1)
 replace HV := Lib.hid (HV.out.below hb1)
 replace HX := Lib.hid (HX.out.below hb1)
 have HY := Lib.hid hy
 clear hb1 hy m0 m1 m2 HRS
 go_wp2_with fail
 refine (list9_same _ _ _ _ HX.out HY.out).mono ?_
 rintro e4 w4 ⟨rfl, hb1⟩
 replace HM := Lib.hid (HM.out.later hb1)
 replace HV := Lib.hid (HV.out.below hb1)
 clear hb1 HX HY
 go_upto_region 8 with fail
 have HoN : Hid (mb < w4.heap.size ∧ N0 ≤ w4.heap.size) := Lib.hid ⟨by have := HM.out.f.ne; omega, by have := HM.out.f.ne; omega⟩
 have HoB : Hid (BlkT (w4.alloc (.cells #[.int .i64 r, .int .i64 m, .slice vo vn vc] 25)) w4.heap.size 25 #[.int .i64 r, .int .i64 m, .slice vo vn vc]) := Lib.hid (BlkT.new w4 _ _)
 have HB2 := Below.alloc_self w4 (.cells #[.int .i64 r, .int .i64 m, .slice vo vn vc] 25)
 replace HM := Lib.hid (HM.out.later HB2)
 replace HV := Lib.hid (HV.out.below HB2)
 clear HB2
 obtain ⟨ob, hob⟩ : ∃ b, w4.heap.size = b := ⟨_, rfl⟩
 rw [hob] at HoB HoN ⊢
 generalize World.alloc w4 _ = W4 at *
 clear hob
 clear HoN
 obtain ⟨m0, m1, m2, -⟩ := HM.out.f.m.cells3
 obtain ⟨o0, o1, o2, -⟩ := HoB.out.cells3
 go_wp2_with fail
 refine (csolveMat_any r c _ lm r m _ lb _ HM.out.fl HV.out).mono ?_
 rintro e5 w5 ⟨x, rfl, hx, -, hb1, -⟩
 obtain ⟨xl, hxl⟩ : ∃ xl, xl = x := ⟨_, rfl⟩
 obtain ⟨xo, xc, hxe, -⟩ := id hx
 generalize List.length _ = xn at hxe
 subst hxl
 subst hxe
 replace HM := Lib.hid (HM.out.later hb1)
 replace HV := Lib.hid (HV.out.below hb1)
 replace HoB := Lib.hid (HoB.out.below hb1)
 have HX := Lib.hid hx
 clear hb1 hx m0 m1 m2 o0 o1 o2
 have HRS := Lib.hid fun W (h1 : FSl W (.slice uo un uc) lm) (h2 : FSl W (.slice vo vn vc) lb) => rsolveMat_any r c _ lm r m _ lb W h1 h2
 generalize smE r c lm r m lb = E2 at *
 generalize smP r c lm r m lb = P2 at *
 generalize smN r c lm r m lb = N2 at *
 generalize smK r c lm r m lb = K2 at *
 generalize smL r c lm r m lb = R2 at *
 go_upto_region 9 with fail
 have HxN : Hid (mb < w5.heap.size ∧ N0 ≤ w5.heap.size) := Lib.hid ⟨by have := HM.out.f.ne; omega, by have := HM.out.f.ne; omega⟩
 have HxB : Hid (BlkT (w5.alloc (.cells #[.int .i64 N2, .int .i64 K2, .slice xo xn xc] 25)) w5.heap.size 25 #[.int .i64 N2, .int .i64 K2, .slice xo xn xc]) := Lib.hid (BlkT.new w5 _ _)
 have HB2 := Below.alloc_self w5 (.cells #[.int .i64 N2, .int .i64 K2, .slice xo xn xc] 25)
 replace HM := Lib.hid (HM.out.later HB2)
 replace HV := Lib.hid (HV.out.below HB2)
 replace HoB := Lib.hid (HoB.out.below HB2)
 replace HX := Lib.hid (HX.out.below HB2)
 clear HB2
 obtain ⟨xb, hxb⟩ : ∃ b, w5.heap.size = b := ⟨_, rfl⟩
 rw [hxb] at HxB HxN ⊢
 generalize World.alloc w5 _ = W5 at *
 clear hxb
 obtain ⟨m0, m1, m2, -⟩ := HM.out.f.m.cells3
 obtain ⟨o0, o1, o2, -⟩ := HoB.out.cells3
 go_wp2_with fail
 refine (HRS.out _ HM.out.fl HV.out).mono ?_
 rintro e6 w6 ⟨y, rfl, hy, -, hb1, -⟩
 obtain ⟨yl, hyl⟩ : ∃ yl, yl = y := ⟨_, rfl⟩
 obtain ⟨yo, yc, hye, -⟩ := id hy
 generalize List.length _ = yn at hye
 subst hyl
 subst hye
 have HXL := Lib.hid (Nat.lt_of_lt_of_le HxB.out.lt hb1.size)
 replace HM := Lib.hid (HM.out.later hb1)
 replace HX := Lib.hid (HX.out.below hb1)
 replace HxB := Lib.hid (HxB.out.below hb1)
 have HY := Lib.hid hy
 clear hb1 hy m0 m1 m2 o0 o1 o2 HRS HV HoB
 go_upto_region 10 with fail
 have HyN : Hid (mb < w6.heap.size ∧ N0 ≤ w6.heap.size) := Lib.hid ⟨by have := HM.out.f.ne; omega, by have := HM.out.f.ne; omega⟩
 have HyB : Hid (BlkT (w6.alloc (.cells #[.int .i64 N2, .int .i64 K2, .slice yo yn yc] 25)) w6.heap.size 25 #[.int .i64 N2, .int .i64 K2, .slice yo yn yc]) := Lib.hid (BlkT.new w6 _ _)
 have HB2 := Below.alloc_self w6 (.cells #[.int .i64 N2, .int .i64 K2, .slice yo yn yc] 25)
 replace HM := Lib.hid (HM.out.later HB2)
 replace HX := Lib.hid (HX.out.below HB2)
 replace HxB := Lib.hid (HxB.out.below HB2)
 replace HY := Lib.hid (HY.out.below HB2)
 clear HB2
 obtain ⟨yb, hyb⟩ : ∃ b, w6.heap.size = b := ⟨_, rfl⟩
 rw [hyb] at HyB HyN HXL ⊢
 generalize World.alloc w6 _ = W6 at *
 clear hyb
 have HXY : Hid (xb ≠ yb) := Lib.hid (Nat.ne_of_lt HXL.out)
 obtain ⟨x0, x1, x2, -⟩ := HxB.out.cells3
 obtain ⟨y0, y1, y2, -⟩ := HyB.out.cells3
 go_wp2_with fail
 refine (mat9_same N2 K2 _ _ _ _ HX.out HY.out).mono ?_
 rintro e7 w7 ⟨rfl, hb1⟩
 replace HM := Lib.hid (HM.out.later hb1)
 replace HxB := Lib.hid (HxB.out.below hb1)
 replace HyB := Lib.hid (HyB.out.below hb1)
 clear hb1 HX HY x0 x1 x2 y0 y1 y2
 go_wp2_with fail
 refine (HI2.out _ HM.out.f.b).mono ?_
 rintro e8 w8 ⟨u2, rfl, hu2, hb1⟩
 replace HM := Lib.hid (HM.out.later hb1)
 replace HxB := Lib.hid (HxB.out.below hb1)
 replace HyB := Lib.hid (HyB.out.below hb1)
 have HU2 := Lib.hid hu2
 clear hb1 hu2 HI2
 go_wp2_with fail
 refine (rinv_any r c _ lm _ HU2.out).mono ?_
 rintro e9 w9 ⟨p, rfl, hp, hpn, hb1⟩
 have HXM : Hid (xb < w8.heap.size ∧ yb < w8.heap.size ∧ mb < w8.heap.size) := Lib.hid ⟨HxB.out.lt, HyB.out.lt, HM.out.f.m.lt⟩
 replace HM := Lib.hid (HM.out.later hb1)
 replace HxB := Lib.hid (HxB.out.below hb1)
 replace HyB := Lib.hid (HyB.out.below hb1)
 have HPF : Hid (∀ a c d, p = .slice (some a) c d → xb < a.block ∧ yb < a.block ∧ mb < a.block) := Lib.hid fun a c d e => by have := hpn a c d e; have := HXM.out; omega
 obtain ⟨pl, hpl⟩ : ∃ pl, pl = p := ⟨_, rfl⟩
 obtain ⟨po, pc, hpe, -⟩ := id hp
 generalize List.length _ = pn at hpe
 subst hpl
 subst hpe
 have HP := Lib.hid hp
 clear hb1 hp hpn HXM HU2
 have HCI := Lib.hid fun W (h1 : FSl W (.slice uo un uc) lm) => cinv_any r c _ lm W h1
 generalize invE r c lm = E3 at *
 generalize invP r c lm = P3 at *
 generalize invN r c lm = N3 at *
 generalize invL r c lm = R3 at *
 obtain ⟨y0, y1, y2, -⟩ := HyB.out.cells3
 have z0 := HyB.out.frozen 0
 have z1 := HyB.out.frozen 1
 have z2 := HyB.out.frozen 2
 go_upto_region 13 with fail
 clear y0 y1 y2 z0 z1 z2
 have HUP : Hid (Upd yb w9 (((w9.setCell ⟨yb, 0, none⟩ (.int .i64 N3)).setCell ⟨yb, 1, none⟩ (.int .i64 N3)).setCell ⟨yb, 2, none⟩ (.slice po pn pc))) := Lib.hid (Upd.set3 _ _ _)
 replace HyB := Lib.hid (BlkT.set3 (.int .i64 N3) (.int .i64 N3) (.slice po pn pc) HyB.out)
 replace HxB := Lib.hid (HxB.out.upd HUP.out HXY.out)
 replace HM := Lib.hid (HM.out.upd HUP.out HyN.out.2)
 replace HP := Lib.hid (HP.out.upd_lt (fun a c d e => (HPF.out a c d e).2.1) HUP.out)
 clear HUP
 generalize World.setCell (World.setCell (World.setCell w9 _ _) _ _) _ _ = W9 at *
 obtain ⟨m0, m1, m2, -⟩ := HM.out.f.m.cells3
 go_wp2_with fail
 refine (HCI.out _ HM.out.fl).mono ?_
 rintro e10 w10 ⟨q, rfl, hq, hqn, hb1⟩
 have HXM : Hid (xb < W9.heap.size ∧ mb < W9.heap.size) := Lib.hid ⟨HxB.out.lt, HM.out.f.m.lt⟩
 replace HM := Lib.hid (HM.out.later hb1)
 replace HxB := Lib.hid (HxB.out.below hb1)
 replace HyB := Lib.hid (HyB.out.below hb1)
 replace HP := Lib.hid (HP.out.below hb1)
 have HQF : Hid (∀ a c d, q = .slice (some a) c d → xb < a.block ∧ mb < a.block) := Lib.hid fun a c d e => by have := hqn a c d e; have := HXM.out; omega
 obtain ⟨ql, hql⟩ : ∃ ql, ql = q := ⟨_, rfl⟩
 obtain ⟨qo, qc, hqe, -⟩ := id hq
 generalize List.length _ = qn at hqe
 subst hql
 subst hqe
 have HQ := Lib.hid hq
 clear hb1 hq hqn HXM HCI m0 m1 m2
 obtain ⟨x0, x1, x2, -⟩ := HxB.out.cells3
 have z0 := HxB.out.frozen 0
 have z1 := HxB.out.frozen 1
 have z2 := HxB.out.frozen 2
 go_upto_region 14 with fail
 clear x0 x1 x2 z0 z1 z2
 have HUP : Hid (Upd xb w10 (((w10.setCell ⟨xb, 0, none⟩ (.int .i64 N3)).setCell ⟨xb, 1, none⟩ (.int .i64 N3)).setCell ⟨xb, 2, none⟩ (.slice qo qn qc))) := Lib.hid (Upd.set3 _ _ _)
 replace HxB := Lib.hid (BlkT.set3 (.int .i64 N3) (.int .i64 N3) (.slice qo qn qc) HxB.out)
 replace HyB := Lib.hid (HyB.out.upd HUP.out HXY.out.symm)
 replace HM := Lib.hid (HM.out.upd HUP.out HxN.out.2)
 replace HP := Lib.hid (HP.out.upd_lt (fun a c d e => (HPF.out a c d e).1) HUP.out)
 replace HQ := Lib.hid (HQ.out.upd_lt (fun a c d e => (HQF.out a c d e).1) HUP.out)
 clear HUP
 generalize World.setCell (World.setCell (World.setCell w10 _ _) _ _) _ _ = W10 at *
 have HD0 : Hid (LwS w W10 mb xb yb r c N3 (.slice uo un uc) (.slice qo qn qc) (.slice po pn pc) R3 un (fun i => lm.getD i 0)) := Lib.hid ⟨HM.out.f.m, HxB.out, HyB.out, HM.out.o, HQ.out, HP.out, fun a c d e => (HQF.out a c d e).2, fun a c d e => (HPF.out a c d e).2.2, HM.out.lt, by have := HxN.out; have := HyN.out; omega, HM.out.f.b⟩
 have HUL : Hid (un ≤ 4611686018427387904) := Lib.hid (by obtain ⟨_, _, e1, _, hn, _⟩ := HM.out.fl; rw [← HUN.out]; omega)
 clear HM HxB HyB HP HQ HPF HQF HXY HxN HyN HN0 HXL
 obtain ⟨m0, m1, m2, -⟩ := HD0.out.m.cells3
 go_wp2
 clear m0 m1 m2
 go_loopw [107] (fun iv wr => ∃ (i : Nat) (vs : Nat → Nat), i ≤ un ∧ iv = .int .i64 i ∧ Hid (LwS w wr mb xb yb r c N3 (.slice uo un uc) (.slice qo qn qc) (.slice po pn pc) R3 un vs)) (fun iv _ => un - (intOf iv).toNat)
 case atStart => exact ⟨0, _, Nat.zero_le _, rfl, HD0⟩
 case round =>
  clear HD0
  obtain ⟨i, vs, hi, rfl, HD⟩ := hrel
  have hul := HUL.out
  by_cases hin : i < un
  ·obtain ⟨g, rfl, x0, x1⟩ := HD.out.cell hin
   obtain ⟨m0, m1, m2, -⟩ := HD.out.m.cells3
   have HD2 := Lib.hid (HD.out.set (p := i) (z := 4635118810238550016))
   clear HD
   go_wp2
   go_roundw
   case rel => exact ⟨i + 1, _, by omega, by go_num, HD2⟩
   case measure => simp [intOf] <;> omega
  ·obtain rfl : i = un := by omega
   obtain ⟨x0, x1, x2, -⟩ := HD.out.x.cells3
   obtain ⟨y0, y1, y2, -⟩ := HD.out.y.cells3
   have HU := Lib.hid HD.out.fu
   have HV := Lib.hid HD.out.fv
   have HB := Lib.hid HD.out.b
   clear HD
   go_wp2_with fail
   refine (mat9_same N3 N3 _ _ _ _ HU.out HV.out).mono ?_
   rintro e11 w11 ⟨rfl, hb1⟩
   replace HB := Lib.hid (HB.out.trans (hb1.mono HB.out.size))
   clear hb1 HU HV x0 x1 x2 y0 y1 y2
   go_wp2_with fail
   refine (awake9_any _ (HT.out _ HB.out)).mono ?_
   rintro e12 w12 ⟨rfl, hb1⟩
   replace HB := Lib.hid (HB.out.trans (hb1.mono HB.out.size))
   clear hb1
   go_wp2
   go_ret
   exact ⟨rfl, HB.out⟩
end
end Go.Proofs.YtfmecpembnmnkaaGreatDoor
