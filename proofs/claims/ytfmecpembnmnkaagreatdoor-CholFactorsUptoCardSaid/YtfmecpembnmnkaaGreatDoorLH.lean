/- A root triangle times itself, turned: plain; walk of the program's. Printed by wip/gen/ch18.py. -/
import Derived.Test.YtfmecpembnmnkaaGreatDoorLD
namespace Go.Proofs.YtfmecpembnmnkaaGreatDoor
section
open Go.RowKit
attribute [local go_sem] run_store_f
section
variable {t : Nat} {w0 W V : World} {sb g n N : Nat} {lv : Value} {f f' : Bool} {vs : Nat → Nat}
end
theorem LowR.zero (n : Nat) : LowR n (fun _ _ => some 0) (fun _ => 0) := fun _ _ _ _ => rep0
end
section
open Go.RowKit
attribute [local go_sem] run_store_f
set_option maxRecDepth 100000 in
set_option maxHeartbeats 3200000 in
theorem rzero_any (r c : Nat) (hr : r ≤ 12) (hc : c ≤ 12) (w : World) : Calls Tryz.prog 59 #[.int .i64 r, .int .i64 c] w fun e w' => ∃ g, e = .returned (MatV r c (.slice (some ⟨g, 0, none⟩) (r * c) (r * c))) ∧ FMs w' g (r * c) (fun _ => 0) ∧ w.heap.size ≤ g ∧ Below w.heap.size w w' := by
 obtain ⟨N, hN⟩ : ∃ N, r * c = N := ⟨_, rfl⟩
 have hN2 : N ≤ 144 := by rw [← hN]; exact Nat.mul_le_mul hr hc
 have hw : IntKind.i64.wrap ((r : Int) * (c : Int)) = (N : Int) := by rw [← Int.natCast_mul, hN]; exact IntWalk.i64_in _ (by omega)
 have hmk := run_make_row' (P := Tryz.prog) 23 35 (.float .f64 0) 8 Tryz.underlying23 Tryz.finfo64 rfl .i64 .i64 N (by omega) (by omega)
 rw [hN]
 clear hN
 have HG := Lib.hid (FMs.made1 w (.cells #[.int .i64 0, .int .i64 0, .slice none 0 0] 25) N)
 have HR : Hid (BlkT ((w.alloc (.cells #[.int .i64 0, .int .i64 0, .slice none 0 0] 25)).alloc (.cells (madeCells #[.float .f64 0] N) 35)) w.heap.size 25 #[.int .i64 0, .int .i64 0, .slice none 0 0]) := Lib.hid ((BlkT.new w _ _).alloc _)
 have HB := Lib.hid (below2 w (.cells #[.int .i64 0, .int .i64 0, .slice none 0 0] 25) (.cells (madeCells #[.float .f64 0] N) 35))
 clear HG HR HB
 go_enter Tryz.func59, Tryz.ntmps59
 go_wp2
 exact bodyPost_ret (v := MatV r c (.slice (some ⟨w.heap.size + 1, 0, none⟩) N N)) (by simp [results, Tryz.results59, go_sem]) rfl ⟨_, rfl, FMs.made1 w _ N, Nat.le_succ _, below2 w _ _⟩
set_option maxRecDepth 100000 in
set_option maxHeartbeats 3200000 in
theorem r9put_any (g c N i j p v : Nat) (r : Int) (vs : Nat → Nat) (w : World) (hg : FMs w g N vs) (hp : i * c + j = p) (hpN : p < N) (hN : N ≤ 4096) : Calls Tryz.prog 61 #[MatV r c (.slice (some ⟨g, 0, none⟩) N N), .int .i64 i, .int .i64 j, .float .f64 v] w fun e w' => e = .returned (.tuple #[]) ∧ FMs w' g N (updF vs p v) ∧ Upd g w w' := by
 obtain ⟨m, hm⟩ : ∃ m, i * c = m := ⟨_, rfl⟩
 rw [hm] at hp
 have hw1 : IntKind.i64.wrap ((i : Int) * (c : Int)) = (m : Int) := by rw [← Int.natCast_mul, hm]; exact IntWalk.i64_in _ (by omega)
 have hw2 : IntKind.i64.wrap ((m : Int) + (j : Int)) = (p : Int) := by rw [show (m : Int) + (j : Int) = (p : Int) by omega]; exact IntWalk.i64_in _ (by omega)
 have HM := Lib.hid (MBx.new w r c (.slice (some ⟨g, 0, none⟩) N N))
 have HG := Lib.hid (hg.below (Below.alloc_self w (.cells #[.int .i64 r, .int .i64 c, .slice (some ⟨g, 0, none⟩) N N] 25)))
 have HU : Hid (Upd g w (w.alloc (.cells #[.int .i64 r, .int .i64 c, .slice (some ⟨g, 0, none⟩) N N] 25))) := Lib.hid (.of_below (Below.alloc_self w _))
 clear hm hp hg
 obtain ⟨q0, q1, q2⟩ := HM.out.m3
 have x0 := HG.out.cell hpN
 have x1 := HG.out.frozen p
 go_enter Tryz.func61, Tryz.ntmps61
 go_upto_region 1 with fail
 generalize World.alloc w _ = W0 at *
 go_wp2
 exact bodyPost_end (v := .tuple #[]) (by simp [results, Tryz.results61, go_sem]) rfl ⟨rfl, HG.out.set hpN, HU.out.trans (Upd.set _)⟩
structure MrR (w0 W : World) (g ob n N : Nat) (lv : Value) (vs : Nat → Nat) : Prop where
 B : ChB w0 W n n lv
 gm : FMs W g N vs
 om : BlkT W ob 25 #[.int .i64 n, .int .i64 n, .slice (some ⟨g, 0, none⟩) N N]
 ne : w0.heap.size + 1 < g ∧ g < ob
section
variable {w0 W V : World} {g ob n N : Nat} {lv : Value} {vs vs' : Nat → Nat}
theorem MrR.later (h : MrR w0 W g ob n N lv vs) (hb : Below W.heap.size W V) : MrR w0 V g ob n N lv vs := ⟨h.B.later hb, h.gm.below hb, h.om.below hb, h.ne⟩
theorem MrR.put (h : MrR w0 W g ob n N lv vs) (hu : Upd g W V) (hg : FMs V g N vs') : MrR w0 V g ob n N lv vs' := by
 have hne := h.ne
 have hb : Below g W V := ⟨hu.os, hu.tape, hu.output, hu.size, fun k hk => hu.block k (by have := h.gm.lt; omega) (by omega)⟩
 exact ⟨h.B.of_mod hb hne.1, hg, h.om.upd hu (by omega), hne⟩
theorem MrR.rd (h : MrR w0 W g ob n N lv vs) : (W.cell? ⟨ob, 0, none⟩ = some (.int .i64 n) ∧ W.cell? ⟨ob, 1, none⟩ = some (.int .i64 n) ∧ W.cell? ⟨ob, 2, none⟩ = some (.slice (some ⟨g, 0, none⟩) N N)) ∧ W.cell? ⟨w0.heap.size, 0, none⟩ = some (.int .i64 n) ∧ W.cell? ⟨w0.heap.size, 1, none⟩ = some (.int .i64 n) ∧ W.cell? ⟨w0.heap.size, 2, none⟩ = some lv :=
 ⟨⟨h.om.cell 0, h.om.cell 1, h.om.cell 2⟩, h.B.cells.1⟩
end
theorem mirror_at {n g0 i j : Nat} {vs0 : Nat → Nat} {M : Nat → Nat → Fo} {w W : World} (hn : n ≤ 12) (hg : FMs w g0 (n * n) vs0) (hM : LowR n M vs0) (hi : i < n) (hj : j < n) (hb : Below w.heap.size w W) : Calls Tryz.prog 51 #[MatV n n (.slice (some ⟨g0, 0, none⟩) (n * n) (n * n)), .int .i64 i, .int .i64 j] W (Gives (.float .f64 (vs0 (i * n + j))) W) := by
 have hl : FSl W (.slice (some ⟨g0, 0, none⟩) (n * n) (n * n)) ((List.range (n * n)).map vs0) := (hg.fsl (by have : n * n ≤ 12 * 12 := Nat.mul_le_mul hn hn; omega) fun p hp => by
  have hn0 : 0 < n := by
   rcases Nat.eq_zero_or_pos n with h0 | h0
   ·subst h0; simp at hp
   ·exact h0
  have h3 := (hM (p / n) (p % n) (Nat.div_lt_of_lt_mul hp) (Nat.mod_lt p hn0)).lt
  rwa [Nat.mul_comm, Nat.div_add_mod] at h3).below hb
 have := rAt_any i j n (i * n + j) n _ _ W hl rfl (by simp; exact at_lt hi hj)
 simpa using this
section
variable {w0 W V : World} {sb g ob n N : Nat} {lv : Value} {f f' : Bool} {vs vs' : Nat → Nat}
end
end
end Go.Proofs.YtfmecpembnmnkaaGreatDoor
