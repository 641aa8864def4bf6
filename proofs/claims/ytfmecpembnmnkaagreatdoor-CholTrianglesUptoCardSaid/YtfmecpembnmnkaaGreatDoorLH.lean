/- A root triangle times itself, turned: plain; walk of the program's. Printed by wip/gen/ch18.py. -/
import Derived.Test.YtfmecpembnmnkaaGreatDoorLD
namespace Go.Proofs.YtfmecpembnmnkaaGreatDoor
section
open Go.RowKit
attribute [local go_sem] run_store_f
def addT (L : Nat → Nat → Fo) (i j : Nat) (f : Bool) (k : Nat) : Sp := itr (fun k s => addS s (L i k) (L j k)) k (some 0, f)
def sqS (L : Nat → Nat → Fo) (i j : Nat) (s : (Nat → Nat → Fo) × Bool) : (Nat → Nat → Fo) × Bool := (upd2 s.1 i j (addT L i j s.2 (j + 1)).1, (addT L i j s.2 (j + 1)).2)
def sqI (L : Nat → Nat → Fo) (i : Nat) (s : (Nat → Nat → Fo) × Bool) (m : Nat) : (Nat → Nat → Fo) × Bool := itr (sqS L i) m s
def sqA (L : Nat → Nat → Fo) (m : Nat) : (Nat → Nat → Fo) × Bool := itr (fun i s => sqI L i s (i + 1)) m (fun _ _ => some 0, false)
def mirM (M : Nat → Nat → Fo) (a b : Nat) : Fo := if b ≤ a then M a b else M b a
theorem mirM_upd {M : Nat → Nat → Fo} {i j : Nat} {v : Fo} (h : j ≤ i) : mirM (upd2 M i j v) = upd2 (upd2 (mirM M) i j v) j i v := by
 funext a b
 show (if b ≤ a then upd2 M i j v a b else upd2 M i j v b a) = if a = j ∧ b = i then v else if a = i ∧ b = j then v else (if b ≤ a then M a b else M b a)
 unfold upd2
 by_cases h1 : b ≤ a
 ·rw [if_pos h1, if_pos h1]
  by_cases h2 : a = i ∧ b = j
  ·rw [if_pos h2]; split <;> rfl
  ·rw [if_neg h2]
   by_cases h3 : a = j ∧ b = i
   ·exact absurd (show a = i ∧ b = j by omega) h2
   ·rw [if_neg h3]
 ·rw [if_neg h1, if_neg h1]
  by_cases h2 : a = j ∧ b = i
  ·rw [if_pos h2, if_pos ⟨h2.2, h2.1⟩]
  ·rw [if_neg h2, if_neg (fun t => h2 ⟨t.2, t.1⟩)]
   by_cases h3 : a = i ∧ b = j
   ·omega
   ·rw [if_neg h3]
theorem add_flag {s : Sp} {a b : Fo} (h : (addS s a b).2 = false) : s.2 = false ∧ finO (addS s a b).1 = true := ⟨(ovr_false (ovr_false h).1).1, (ovr_false h).2⟩
theorem addT_fin {L : Nat → Nat → Fo} {i j : Nat} {f : Bool} : ∀ k, (addT L i j f k).2 = false → f = false ∧ finO (addT L i j f k).1 = true
 | 0, h => ⟨h, rfl⟩
 | k + 1, h => ⟨(addT_fin k (add_flag h).1).1, (add_flag h).2⟩
theorem sqI_fin {L : Nat → Nat → Fo} {i : Nat} {s : (Nat → Nat → Fo) × Bool} : ∀ m, (sqI L i s m).2 = false → s.2 = false ∧ ((∀ a b, finO (s.1 a b) = true) → ∀ a b, finO ((sqI L i s m).1 a b) = true)
 | 0, h => ⟨h, fun h => h⟩
 | m + 1, h => by
  obtain ⟨h1, h2⟩ := addT_fin (L := L) (i := i) (j := m) (f := (sqI L i s m).2) (m + 1) h
  obtain ⟨h3, h4⟩ := sqI_fin m h1
  refine ⟨h3, fun hs a b => ?_⟩
  show finO (upd2 (sqI L i s m).1 i m _ a b) = true
  by_cases e : a = i ∧ b = m
  ·obtain ⟨rfl, rfl⟩ := e; rw [upd2_self]; exact h2
  ·rw [upd2_ne e]; exact h4 hs a b
theorem sqA_fin {L : Nat → Nat → Fo} : ∀ m, (sqA L m).2 = false → ∀ a b, finO ((sqA L m).1 a b) = true
 | 0, _, _, _ => rfl
 | m + 1, h, a, b => by
  obtain ⟨h1, h2⟩ := sqI_fin (L := L) (i := m) (s := sqA L m) (m + 1) h
  exact h2 (sqA_fin m h1) a b
def sqrE (r c : Int) (l : List Nat) : Int := if triB r c l ≠ 0 then triB r c l else if (sqA (atO r.toNat l) r.toNat).2 then 5 else 0
def sqrN (r c : Int) (l : List Nat) : Int := if sqrE r c l = 0 then r else 0
def sqrL (r c : Int) (l : List Nat) : List Nat := if sqrE r c l = 0 then matL r.toNat (mirM (sqA (atO r.toNat l) r.toNat).1) else []
theorem sqr_err {r c : Int} {l : List Nat} (h : triB r c l ≠ 0) : sqrE r c l = triB r c l ∧ sqrN r c l = 0 ∧ sqrL r c l = [] := by
 have e : sqrE r c l = triB r c l := if_pos h
 exact ⟨e, by unfold sqrN; rw [e, if_neg h], by unfold sqrL; rw [e, if_neg h]⟩
theorem sqr_ok {n : Nat} {l : List Nat} (h : triB n n l = 0) (f : Bool) (hf : (sqA (atO n l) n).2 = f) : (f = true → sqrE n n l = 5 ∧ sqrN n n l = 0 ∧ sqrL n n l = []) ∧ (f = false → sqrE n n l = 0 ∧ sqrN n n l = n ∧ sqrL n n l = matL n (mirM (sqA (atO n l) n).1)) := by
 have e : sqrE n n l = if f then 5 else 0 := by subst hf; unfold sqrE; rw [if_neg (fun t => t h)]; simp only [Int.toNat_natCast]
 refine ⟨fun e1 => ?_, fun e1 => ?_⟩ <;> rw [e1] at e
 ·exact ⟨e, by unfold sqrN; rw [e]; rfl, by unfold sqrL; rw [e]; rfl⟩
 ·exact ⟨e, by unfold sqrN; rw [e]; rfl, by unfold sqrL; rw [e]; rfl⟩
def MeA (E : Int) (N : Int) (l : List Nat) (w : World) (e : Ending) (w' : World) : Prop :=
 ∃ u, e = .returned (.tuple #[MatV N N u, .int .i64 E]) ∧ FSl w' u l ∧ Below w.heap.size w w'
structure SqR (t : Nat) (w0 W : World) (sb g n N : Nat) (lv : Value) (f : Bool) (vs : Nat → Nat) : Prop where
 B : ChB w0 W n n lv
 s : BlkT W sb t #[.bool f]
 gm : FMs W g N vs
 ob : BlkT W (g + 1) 25 #[.int .i64 n, .int .i64 n, .slice (some ⟨g, 0, none⟩) N N]
 ne : w0.heap.size + 1 < sb ∧ sb < g
section
variable {t : Nat} {w0 W V : World} {sb g n N : Nat} {lv : Value} {f f' : Bool} {vs : Nat → Nat}
theorem SqR.step (h : SqR t w0 W sb g n N lv f vs) (hu : Upd sb W V) (hs : BlkT V sb t #[.bool f']) : SqR t w0 V sb g n N lv f' vs := by
 have hne := h.ne
 have hb : Below sb W V := ⟨hu.os, hu.tape, hu.output, hu.size, fun k hk => hu.block k (by have := h.s.lt; omega) (by omega)⟩
 exact ⟨h.B.of_mod hb hne.1, hs, h.gm.upd hu (by omega), h.ob.upd hu (by omega), hne⟩
theorem SqR.later (h : SqR t w0 W sb g n N lv f vs) (hb : Below W.heap.size W V) : SqR t w0 V sb g n N lv f vs := ⟨h.B.later hb, h.s.below hb, h.gm.below hb, h.ob.below hb, h.ne⟩
theorem SqR.set (h : SqR t w0 W sb g n N lv f vs) {i v : Nat} (hi : i < N) : SqR t w0 (W.setCell ⟨g, i, none⟩ (.float .f64 v)) sb g n N lv f (updF vs i v) := by
 have hne := h.ne
 exact ⟨h.B.of_mod (upd_keep (Nat.le_refl g)) (by omega), h.s.setOther (by omega) _, h.gm.set hi, h.ob.setOther (by omega) _, hne⟩
theorem SqR.mm (h : SqR t w0 W sb g n N lv f vs) : W.cell? ⟨w0.heap.size, 0, none⟩ = some (.int .i64 n) ∧ W.cell? ⟨w0.heap.size, 1, none⟩ = some (.int .i64 n) ∧ W.cell? ⟨w0.heap.size, 2, none⟩ = some lv := h.B.cells.1
end
theorem MeA.err {w0 W : World} {r c E : Int} {sl : Value} (h : ChB w0 W r c sl) : MeA E 0 [] w0 (.returned (.tuple #[MatV 0 0 (.slice none 0 0), .int .i64 E])) (((W.setCell ⟨w0.heap.size + 1, 0, none⟩ (.int .i64 0)).setCell ⟨w0.heap.size + 1, 1, none⟩ (.int .i64 0)).setCell ⟨w0.heap.size + 1, 2, none⟩ (.slice none 0 0)) :=
 ⟨_, rfl, FSl.none _, below_three h.b _ (Nat.le_succ _) _ _ _⟩
theorem SqR.done {t : Nat} {w0 W : World} {sb g n : Nat} {lv : Value} {f : Bool} {vs : Nat → Nat} {L : Nat → Nat → Fo} (h : SqR t w0 W sb g n (n * n) lv f vs) (hl : LowR n L vs) (hf : ∀ i j, finO (L i j) = true) (hn : n ≤ 12) :
  MeA 0 n (matL n L) w0 (.returned (.tuple #[MatV n n (.slice (some ⟨g, 0, none⟩) (n * n) (n * n)), .int .i64 0])) (((W.setCell ⟨w0.heap.size + 1, 0, none⟩ (.int .i64 n)).setCell ⟨w0.heap.size + 1, 1, none⟩ (.int .i64 n)).setCell ⟨w0.heap.size + 1, 2, none⟩ (.slice (some ⟨g, 0, none⟩) (n * n) (n * n))) := by
 have hne := h.ne
 have hg : FMs (((W.setCell ⟨w0.heap.size + 1, 0, none⟩ (.int .i64 n)).setCell ⟨w0.heap.size + 1, 1, none⟩ (.int .i64 n)).setCell ⟨w0.heap.size + 1, 2, none⟩ (.slice (some ⟨g, 0, none⟩) (n * n) (n * n))) g (n * n) vs :=
  ((h.gm.upd (Upd.set (b := w0.heap.size + 1) _) (by omega)).upd (Upd.set (b := w0.heap.size + 1) _) (by omega)).upd (Upd.set (b := w0.heap.size + 1) _) (by omega)
 exact ⟨_, rfl, hg.matF hl hf hn, below_three h.B.b _ (Nat.le_succ _) _ _ _⟩
theorem SqR.start {t : Nat} {w0 W : World} {n N : Nat} {lv : Value} (h : ChB w0 W n n lv) : SqR t w0 (((W.alloc (.cells #[.bool false] t)).alloc (.cells (madeCells #[.float .f64 0] N) 35)).alloc (.cells #[.int .i64 n, .int .i64 n, .slice (some ⟨W.heap.size + 1, 0, none⟩) N N] 25)) W.heap.size (W.heap.size + 1) n N lv false (fun _ => 0) := by
 refine ⟨h.later (below3 W _ _ _), ((BlkT.new W _ _).alloc _).alloc _, ?_, BlkT.new2 W _ _ _ _, h.q.lt, Nat.lt_succ_self _⟩
 exact (FMs.made1 W _ N).below (Below.alloc_self _ _)
theorem LowR.zero (n : Nat) : LowR n (fun _ _ => some 0) (fun _ => 0) := fun _ _ _ _ => rep0
set_option maxRecDepth 100000 in
set_option maxHeartbeats 3200000 in
theorem csq_any (r c : Int) (sl : Value) (l : List Nat) (w : World) (hl : FSl w sl l) :
  Calls Tryz.prog 28 #[MatV r c sl] w (MeA (sqrE r c l) (sqrN r c l) (sqrL r c l) w) := by
 have HB := Lib.hid (ChB.new w r c sl)
 have HTR := Lib.hid (ctri_any r c sl l _ (hl.below (below2 w (.cells #[.int .i64 r, .int .i64 c, sl] 25) (.cells #[.int .i64 0, .int .i64 0, .slice none 0 0] 25))))
 by_cases h0 : triB r c l = 0
 ·obtain ⟨n, rfl, rfl, hq, -⟩ := tri_zero h0
  have HCS := Lib.hid fun f hf => sqr_ok h0 f hf
  rw [h0] at HTR
  have HAT := Lib.hid (atG_of hl hq.len cAt_any)
  have HRA := Lib.hid fun (i j : Nat) (hi : i < n) (hj : j < n) => (show Rep (atO n l i j) (atN n l i j) from ⟨hl.at_lt hq hi hj, rfl⟩)
  have hn := hq.hn
  have HFN := Lib.hid (sqA_fin (L := atO n l) n)
  clear h0 hq hl
  generalize sqrE n n l = E at *
  generalize sqrN n n l = Nn at *
  generalize sqrL n n l = R at *
  obtain ⟨N, hN⟩ : ∃ N, n * n = N := ⟨_, rfl⟩
  have hN2 : N ≤ 144 := by rw [← hN]; exact Nat.mul_le_mul hn hn
  have hw : IntKind.i64.wrap ((n : Int) * (n : Int)) = (N : Int) := by rw [← Int.natCast_mul, hN]; exact IntWalk.i64_in _ (by omega)
  have hmk := run_make_row' (P := Tryz.prog) 23 35 (.float .f64 0) 8 Tryz.underlying23 Tryz.finfo64 rfl .i64 .i64 N (by omega) (by omega)
  have HN := Lib.hid hN
  clear hN
  obtain ⟨⟨m0, m1, m2⟩, ⟨q0, q1, q2⟩, f0, f1, f2⟩ := HB.out.cells
  go_enter Tryz.func28, Tryz.ntmps28
  go_wp2_with fail
  refine HTR.out.mono ?_
  rintro e1 w1 ⟨rfl, hb1⟩
  replace HB := Lib.hid (HB.out.later hb1)
  clear hb1 m0 m1 m2 q0 q1 q2 f0 f1 f2 HTR
  obtain ⟨⟨m0, m1, m2⟩, ⟨q0, q1, q2⟩, f0, f1, f2⟩ := HB.out.cells
  have HS0 := Lib.hid (SqR.start (t := 94) (N := N) HB.out)
  obtain ⟨sb, hsb⟩ : ∃ b, w1.heap.size = b := ⟨_, rfl⟩
  obtain ⟨g, hg⟩ : ∃ b, sb + 1 = b := ⟨_, rfl⟩
  obtain ⟨ob, hob⟩ : ∃ b, g + 1 = b := ⟨_, rfl⟩
  rw [hsb, hg] at HS0
  clear HB
  go_upto_region 7 with fail
  clear hmk hw m0 m1 m2 q0 q1 q2 f0 f1 f2
  generalize World.alloc (World.alloc (World.alloc w1 _) _) _ = W1 at *
  obtain rfl : ob = g + 1 := hob.symm
  clear hsb hg hob
  have HL0 : Hid (LowR n (mirM (sqA (atO n l) 0).1) (fun _ => 0)) := Lib.hid (by show LowR n (mirM fun _ _ => some 0) _; rw [show mirM (fun _ _ => some 0) = fun _ _ => some 0 by funext a b; unfold mirM; split <;> rfl]; exact LowR.zero n)
  have HF0 : Hid (SqR 94 w W1 sb g n N sl (sqA (atO n l) 0).2 (fun _ => 0)) := HS0
  clear HS0
  have HAN := Lib.hid fun (i j : Nat) => (rfl : atO n l i j = some (atN n l i j))
  generalize atO n l = L at *
  go_wp2
  go_loopw [30] (fun i wr => ∃ (i0 : Nat) (vs : Nat → Nat), i0 ≤ n ∧ i = .int .i64 i0 ∧ Hid (LowR n (mirM (sqA L i0).1) vs) ∧ Hid (SqR 94 w wr sb g n N sl (sqA L i0).2 vs)) (fun i _ => n - (intOf i).toNat)
  case atStart => exact ⟨0, _, Nat.zero_le _, rfl, HL0, HF0⟩
  case round =>
   clear HL0 HF0
   obtain ⟨wo, rfl⟩ : ∃ wo : World, wo = wr := ⟨_, rfl⟩
   obtain ⟨i, vs, hi, rfl, HL, HD⟩ := hrel
   by_cases hlt : i < n
   ·have HST : Hid (sqA L (i + 1) = sqI L i (sqA L i) (i + 1)) := Lib.hid rfl
    generalize sqA L i = s0 at *
    have HL1 : Hid (LowR n (mirM (sqI L i s0 0).1) vs) := HL
    have HD1 : Hid (SqR 94 w wo sb g n N sl (sqI L i s0 0).2 vs) := HD
    clear HL HD
    go_wp2
    go_loopw [35] (fun j wr => ∃ (j0 : Nat) (vs : Nat → Nat), j0 ≤ i + 1 ∧ j = .int .i64 j0 ∧ Hid (LowR n (mirM (sqI L i s0 j0).1) vs) ∧ Hid (SqR 94 w wr sb g n N sl (sqI L i s0 j0).2 vs)) (fun j _ => (i + 1) - (intOf j).toNat)
    case atStart => exact ⟨0, vs, Nat.zero_le _, rfl, HL1, HD1⟩
    case round =>
     clear HL1 HD1
     obtain ⟨wo2, rfl⟩ : ∃ wo : World, wo = wr := ⟨_, rfl⟩
     obtain ⟨j, vs, hj, rfl, HL, HD⟩ := hrel
     by_cases hlj : j < i + 1
     ·have hjn : j < n := by omega
      have hdj : decide ((j : Int) < (i : Int) + 1) = true := decide_eq_true (by omega)
      have HSJ : Hid (sqI L i s0 (j + 1) = sqS L i j (sqI L i s0 j)) := Lib.hid rfl
      generalize sqI L i s0 j = s1 at *
      have HT0 : Hid (Rep (addT L i j s1.2 0).1 0) := Lib.hid rep0
      have HD1 : Hid (SqR 94 w wo2 sb g n N sl (addT L i j s1.2 0).2 vs) := HD
      clear HD
      go_wp2
      go_loopw [10, 40] (fun tv k wr => ∃ (k0 u : Nat), k0 ≤ j + 1 ∧ k = .int .i64 k0 ∧ tv = .float .f64 u ∧ Hid (Rep (addT L i j s1.2 k0).1 u) ∧ Hid (SqR 94 w wr sb g n N sl (addT L i j s1.2 k0).2 vs)) (fun _ k _ => (j + 1) - (intOf k).toNat)
      case atStart => exact ⟨0, 0, Nat.zero_le _, rfl, rfl, HT0, HD1⟩
      case round =>
       clear HT0 HD1
       obtain ⟨k, u, hk, rfl, rfl, HU, HD⟩ := hrel
       by_cases hlk : k < j + 1
       ·have hkn : k < n := by omega
        have hdk : decide ((k : Int) < (j : Int) + 1) = true := decide_eq_true (by omega)
        have HSK : Hid (addT L i j s1.2 (k + 1) = addS (addT L i j s1.2 k) (L i k) (L j k)) := Lib.hid rfl
        generalize addT L i j s1.2 k = t0 at *
        have HRI := Lib.hid (HRA.out i k hlt hkn)
        have HRJ := Lib.hid (HRA.out j k hjn hkn)
        have hadd : ∀ ty u v w, (binOp .add ty (.float .f64 u) (.float .f64 v)).run Tryz.prog w = .ok (.float .f64 (fV .add u v w)) (fN .add u v w) := fun ty u v w => run_float_any .add (.inl rfl) ty u v w
        go_upto_region 17 with fail
        refine wp_region_pl (fun w' : World => w'.cell? ⟨w.heap.size, 0, none⟩ = some (.int .i64 n) ∧ w'.cell? ⟨w.heap.size, 1, none⟩ = some (.int .i64 n) ∧ w'.cell? ⟨w.heap.size, 2, none⟩ = some sl) 13 (.take 0 (.take 1 (.take 2 (.take 3 (.take 4 (.take 5 (.take 7 (.take 8 (.take 9 (.run 6 (.run 10 (.run 11 (.run 12 .nil))))))))))))) (by kernel_rfl) (by kernel_rfl) ?_
        replace HD := Lib.hid (HD.out.later (drew_below _))
        generalize World.drew _ = W5 at HD ⊢
        repeat (refine tkL (v := ?_) rfl rfl rfl (fun w' hSw => ?_) HD.out.mm ?_; rotate_left; (focus (go_simp; with_reducible rfl)); simp only [setL])
        refine wpPl_goL rfl rfl fun K' hK => ?_
        go_simp
        refine (HAT.out i k _ hlt hkn HD.out.B.b).mono ?_
        rintro e1 W5v1 ⟨rfl, hb1⟩
        replace HD := Lib.hid (HD.out.later hb1)
        refine hK _ _ HD.out.mm ?_
        clear hK K' hb1
        try simp only [Act.put, setL]
        repeat (refine tkL (v := ?_) rfl rfl rfl (fun w' hSw => ?_) HD.out.mm ?_; rotate_left; (focus (go_simp; with_reducible rfl)); simp only [setL])
        refine wpPl_goL rfl rfl fun K' hK => ?_
        go_simp
        refine (HAT.out j k _ hjn hkn HD.out.B.b).mono ?_
        rintro e1 W5v2 ⟨rfl, hb1⟩
        replace HD := Lib.hid (HD.out.later hb1)
        refine hK _ _ HD.out.mm ?_
        clear hK K' hb1
        try simp only [Act.put, setL]
        repeat (refine tkL (v := ?_) rfl rfl rfl (fun w' hSw => ?_) HD.out.mm ?_; rotate_left; (focus (go_simp; with_reducible rfl)); simp only [setL])
        refine wpPl_goL rfl rfl fun K' hK => ?_
        go_simp
        refine (stTimes_any sb _ (L i k) (L j k) (atN n l i k) (atN n l j k) _ HD.out.s HRI.out HRJ.out).mono ?_
        rintro e1 W5v3 ⟨p, rfl, hp, hs1, hu1⟩
        replace HD := Lib.hid (HD.out.step hu1 hs1)
        have HP := Lib.hid hp
        clear hp hs1 hu1
        refine hK _ _ HD.out.mm ?_
        clear hK K'
        try simp only [Act.put, setL]
        repeat (refine tkL (v := ?_) rfl rfl rfl (fun w' hSw => ?_) HD.out.mm ?_; rotate_left; (focus (go_simp; with_reducible rfl)); simp only [setL])
        refine wpPl_goL rfl rfl fun K' hK => ?_
        go_simp
        replace HD := Lib.hid (HD.out.later (fN_below .add u p W5v3))
        have HT := Lib.hid (HU.out.op (op := .add) HP.out W5v3)
        generalize fN .add u p W5v3 = W5v4 at *
        generalize fV .add u p _ = t1 at *
        refine hK _ _ HD.out.mm ?_
        clear hK K'
        try simp only [Act.put, setL]
        repeat (refine tkL (v := ?_) rfl rfl rfl (fun w' hSw => ?_) HD.out.mm ?_; rotate_left; (focus (go_simp; with_reducible rfl)); simp only [setL])
        refine wpPl_nil ?_
        simp only [drL]
        go_wp2_with fail
        refine (stOf_any sb _ _ t1 _ HD.out.s HT.out).mono ?_
        rintro e7 w7 ⟨u2, rfl, hr, hs1, hu1⟩
        replace HD := Lib.hid (HD.out.step hu1 hs1)
        have HU2 := Lib.hid hr
        clear hr hs1 hu1 HU HP HT hadd hdk
        go_wp2
        go_roundw
        case rel => exact ⟨k + 1, u2, by omega, by go_num, rfl, Lib.hid (by rw [HSK.out]; exact HU2.out), Lib.hid (by rw [HSK.out]; exact HD.out)⟩
        case measure => simp [intOf] <;> omega
       ·obtain rfl : k = j + 1 := by omega
        have hdk : decide (((j + 1 : Nat) : Int) < (j : Int) + 1) = false := decide_eq_false (by omega)
        have HS1 : Hid ((sqI L i s0 (j + 1)).1 = upd2 s1.1 i j (addT L i j s1.2 (j + 1)).1 ∧ (sqI L i s0 (j + 1)).2 = (addT L i j s1.2 (j + 1)).2) := Lib.hid (by rw [HSJ.out]; exact ⟨rfl, rfl⟩)
        generalize addT L i j s1.2 (j + 1) = t0 at *
        obtain ⟨e1, e2⟩ := at_eq hn hlt hjn
        obtain ⟨e3, e4⟩ := at_eq hn hjn hlt
        have HP : Hid (i * n + j < N ∧ j * n + i < N) := Lib.hid (by rw [← HN.out]; exact ⟨at_lt hlt hjn, at_lt hjn hlt⟩)
        have HLS : Hid (LowR n (mirM (upd2 s1.1 i j t0.1)) (updF (updF vs (i * n + j) u) (j * n + i) u)) := Lib.hid (by rw [mirM_upd (by omega)]; exact (HL.out.set hjn HU.out).set hlt HU.out)
        generalize i * n + j = p at *
        generalize j * n + i = s at *
        generalize ((i * n : Nat) : Int) = pi at *
        generalize ((j * n : Nat) : Int) = si at *
        obtain ⟨hp1, hs1⟩ := HP.out
        go_upto_region 19 with fail
        refine wp_region_pl (fun w' : World => w'.cell? ⟨g + 1, 0, none⟩ = some (.int .i64 n) ∧ w'.cell? ⟨g + 1, 1, none⟩ = some (.int .i64 n) ∧ w'.cell? ⟨g + 1, 2, none⟩ = some (.slice (some ⟨g, 0, none⟩) N N)) 18 (.take 0 (.take 1 (.take 2 (.take 3 (.take 4 (.take 5 (.take 6 (.take 7 (.take 8 (.take 9 (.take 10 (.take 11 (.take 12 (.take 13 (.take 14 (.take 15 (.take 16 (.run 17 .nil)))))))))))))))))) (by kernel_rfl) (by kernel_rfl) ?_
        replace HD := Lib.hid (HD.out.later (drew_below _))
        generalize World.drew _ = W9 at HD ⊢
        repeat (refine tkL (v := ?_) rfl rfl rfl (fun w' hSw => ?_) (And.intro (HD.out.ob.cell 0) (And.intro (HD.out.ob.cell 1) (HD.out.ob.cell 2))) ?_; rotate_left; (focus (go_simp; with_reducible rfl)); simp only [setL])
        have x0 := HD.out.gm.cell hp1
        have x1 := HD.out.gm.frozen p
        refine wpPl_goL rfl rfl fun K' hK => ?_
        go_simp
        clear x0 x1
        replace HD := Lib.hid (HD.out.set (v := u) hp1)
        generalize World.setCell W9 _ _ = W9v1 at *
        refine hK _ _ (And.intro (HD.out.ob.cell 0) (And.intro (HD.out.ob.cell 1) (HD.out.ob.cell 2))) ?_
        clear hK K'
        try simp only [Act.put, setL]
        repeat (refine tkL (v := ?_) rfl rfl rfl (fun w' hSw => ?_) (And.intro (HD.out.ob.cell 0) (And.intro (HD.out.ob.cell 1) (HD.out.ob.cell 2))) ?_; rotate_left; (focus (go_simp; with_reducible rfl)); simp only [setL])
        refine wpPl_nil ?_
        simp only [drL]
        have x0 := HD.out.gm.cell hs1
        have x1 := HD.out.gm.frozen s
        have x2 := HD.out.ob.cell 2
        go_wp2
        go_roundw
        case rel => exact ⟨j + 1, _, by omega, by go_num, Lib.hid (by rw [HS1.out.1]; exact HLS.out), Lib.hid (by rw [HS1.out.2]; exact HD.out.set (v := u) hs1)⟩
        case measure => simp [intOf] <;> omega
     ·obtain rfl : j = i + 1 := by omega
      have hdj : decide (((i + 1 : Nat) : Int) < (i : Int) + 1) = false := decide_eq_false (by omega)
      go_wp2
      go_roundw
      case rel => exact ⟨i + 1, vs, by omega, by go_num, Lib.hid (by rw [HST.out]; exact HL.out), Lib.hid (by rw [HST.out]; exact HD.out)⟩
      case measure => simp [intOf] <;> omega
   ·obtain rfl : i = n := by omega
    have s0 := HD.out.s.cell 0
    obtain ⟨⟨m0, m1, m2⟩, ⟨q0, q1, q2⟩, f0, f1, f2⟩ := HD.out.B.cells
    obtain ⟨x0, x1, x2, -⟩ := HD.out.ob.cells3
    obtain ⟨b, hb⟩ : ∃ b, (sqA L i).2 = b := ⟨_, rfl⟩
    rw [hb] at s0
    cases b
    ·obtain ⟨-, hE⟩ := HCS.out false hb
     obtain ⟨rfl, rfl, rfl⟩ := hE rfl
     have hN := HN.out
     subst hN
     have HDN := Lib.hid (HD.out.done HL.out (fun a b => by unfold mirM; split <;> exact HFN.out hb _ _) hn)
     clear HCS HFN HD
     go_wp2
     exact bodyPost_ret (v := .tuple #[MatV i i (.slice (some ⟨g, 0, none⟩) (i * i) (i * i)), .int .i64 0]) (by simp [results, Tryz.results28, go_sem, q0, q1, q2]) rfl HDN.out
    ·obtain ⟨hE, -⟩ := HCS.out true hb
     obtain ⟨rfl, rfl, rfl⟩ := hE rfl
     have HBB := Lib.hid HD.out.B
     clear HCS HFN HD
     go_wp2
     exact bodyPost_ret (v := .tuple #[MatV 0 0 (.slice none 0 0), .int .i64 5]) (by simp [results, Tryz.results28, go_sem, q0, q1, q2]) rfl (MeA.err HBB.out)
 ·obtain ⟨e1, e2, e3⟩ := sqr_err h0
  rw [e1, e2, e3]
  have hp := beq_eq_false_iff_ne.2 h0
  generalize triB r c l = k at *
  clear hl h0 e1 e2 e3
  obtain ⟨⟨m0, m1, m2⟩, ⟨q0, q1, q2⟩, f0, f1, f2⟩ := HB.out.cells
  go_enter Tryz.func28, Tryz.ntmps28
  go_wp2_with fail
  refine HTR.out.mono ?_
  rintro e1 w1 ⟨rfl, hb1⟩
  replace HB := Lib.hid (HB.out.later hb1)
  clear hb1 m0 m1 m2 q0 q1 q2 f0 f1 f2 HTR
  obtain ⟨⟨m0, m1, m2⟩, ⟨q0, q1, q2⟩, f0, f1, f2⟩ := HB.out.cells
  go_wp2
  exact bodyPost_ret (v := .tuple #[MatV 0 0 (.slice none 0 0), .int .i64 k]) (by simp [results, Tryz.results28, go_sem, q0, q1, q2]) rfl (MeA.err HB.out)
end
section
open Go.RowKit
attribute [local go_sem] run_store_f
set_option maxRecDepth 100000 in
set_option maxHeartbeats 3200000 in
theorem rzero_any (r c : Nat) (hr : r ≤ 12) (hc : c ≤ 12) (w : World) : Calls Tryz.prog 59 #[.int .i64 r, .int .i64 c] w fun e w' => ∃ g, e = .returned (MatV r c (.slice (some ⟨g, 0, none⟩) (r * c) (r * c))) ∧ FMs w' g (r * c) (fun _ => 0) ∧ w.heap.size ≤ g ∧ Below w.heap.size w w' := by
 obtain ⟨N, hN⟩ : ∃ N, r * c = N := ⟨_, rfl⟩
 have hN2 : N ≤ 144 := by rw [← hN]; exact Nat.mul_le_mul hr hc
 have hw : IntKind.i64.wrap ((r : Int) * (c : Int)) = (N : Int) := by rw [← Int.natCast_mul, hN]; exact IntWalk.i64_in _ (by omega)
 have hmk := run_make_row' (P := Tryz.prog) 23 35 (.float .f64 0) 8 Tryz.underlying23 Tryz.finfo64 rfl .i64 .i64 N (by omega) (by omega)
 rw [hN]
 clear hN
 have HG := Lib.hid (FMs.made1 w (.cells #[.int .i64 0, .int .i64 0, .slice none 0 0] 25) N)
 have HR : Hid (BlkT ((w.alloc (.cells #[.int .i64 0, .int .i64 0, .slice none 0 0] 25)).alloc (.cells (madeCells #[.float .f64 0] N) 35)) w.heap.size 25 #[.int .i64 0, .int .i64 0, .slice none 0 0]) := Lib.hid ((BlkT.new w _ _).alloc _)
 have HB := Lib.hid (below2 w (.cells #[.int .i64 0, .int .i64 0, .slice none 0 0] 25) (.cells (madeCells #[.float .f64 0] N) 35))
 clear HG HR HB
 go_enter Tryz.func59, Tryz.ntmps59
 go_wp2
 exact bodyPost_ret (v := MatV r c (.slice (some ⟨w.heap.size + 1, 0, none⟩) N N)) (by simp [results, Tryz.results59, go_sem]) rfl ⟨_, rfl, FMs.made1 w _ N, Nat.le_succ _, below2 w _ _⟩
set_option maxRecDepth 100000 in
set_option maxHeartbeats 3200000 in
theorem rrow_any (n i N cap b off : Nat) (hn : n ≤ 12) (hi : i < n) (hN : N = n * n) (hc : N ≤ cap) (w : World) : Calls Tryz.prog 79 #[MatV n n (.slice (some ⟨b, off, none⟩) N cap), .int .i64 i] w (Gives (.slice (some ⟨b, off + i * n, none⟩) n (cap - i * n)) w) := by
 have HM := Lib.hid (MBx.new w n n (.slice (some ⟨b, off, none⟩) N cap))
 have h1 : i * n + n ≤ N := by rw [hN]; have := Nat.mul_le_mul_right n (show i + 1 ≤ n from hi); rw [Nat.add_mul, Nat.one_mul] at this; exact this
 have hN2 : N ≤ 144 := by rw [hN]; exact Nat.mul_le_mul hn hn
 obtain ⟨p, hp⟩ : ∃ p, i * n = p := ⟨_, rfl⟩
 rw [hp] at h1 ⊢
 have e1 : IntKind.i64.wrap ((i : Int) * (n : Int)) = (p : Int) := by rw [← Int.natCast_mul, hp]; exact IntWalk.i64_in _ (by omega)
 have e2 : IntKind.i64.wrap (((i : Int) + 1) * (n : Int)) = ((p + n : Nat) : Int) := by rw [show ((i : Int) + 1) * (n : Int) = ((p + n : Nat) : Int) by rw [Int.add_mul, Int.one_mul, ← Int.natCast_mul, hp]; omega]; exact IntWalk.i64_in _ (by omega)
 clear hN hp
 obtain ⟨q0, q1, q2⟩ := HM.out.m3
 go_enter Tryz.func79, Tryz.ntmps79
 go_wp2
 refine bodyPost_ret (v := .slice (some ⟨b, off + p, none⟩) (p + n - p) (cap - p)) (by simp [results, Tryz.results79, go_sem]) rfl ⟨by rw [Nat.add_sub_cancel_left], HM.out.b⟩
set_option maxRecDepth 100000 in
set_option maxHeartbeats 3200000 in
theorem r9put_any (g c N i j p v : Nat) (r : Int) (vs : Nat → Nat) (w : World) (hg : FMs w g N vs) (hp : i * c + j = p) (hpN : p < N) (hN : N ≤ 4096) : Calls Tryz.prog 61 #[MatV r c (.slice (some ⟨g, 0, none⟩) N N), .int .i64 i, .int .i64 j, .float .f64 v] w fun e w' => e = .returned (.tuple #[]) ∧ FMs w' g N (updF vs p v) ∧ Upd g w w' := by
 obtain ⟨m, hm⟩ : ∃ m, i * c = m := ⟨_, rfl⟩
 rw [hm] at hp
 have hw1 : IntKind.i64.wrap ((i : Int) * (c : Int)) = (m : Int) := by rw [← Int.natCast_mul, hm]; exact IntWalk.i64_in _ (by omega)
 have hw2 : IntKind.i64.wrap ((m : Int) + (j : Int)) = (p : Int) := by rw [show (m : Int) + (j : Int) = (p : Int) by omega]; exact IntWalk.i64_in _ (by omega)
 have HM := Lib.hid (MBx.new w r c (.slice (some ⟨g, 0, none⟩) N N))
 have HG := Lib.hid (hg.below (Below.alloc_self w (.cells #[.int .i64 r, .int .i64 c, .slice (some ⟨g, 0, none⟩) N N] 25)))
 have HU : Hid (Upd g w (w.alloc (.cells #[.int .i64 r, .int .i64 c, .slice (some ⟨g, 0, none⟩) N N] 25))) := Lib.hid (.of_below (Below.alloc_self w _))
 clear hm hp hg
 obtain ⟨q0, q1, q2⟩ := HM.out.m3
 have x0 := HG.out.cell hpN
 have x1 := HG.out.frozen p
 go_enter Tryz.func61, Tryz.ntmps61
 go_upto_region 1 with fail
 generalize World.alloc w _ = W0 at *
 go_wp2
 exact bodyPost_end (v := .tuple #[]) (by simp [results, Tryz.results61, go_sem]) rfl ⟨rfl, HG.out.set hpN, HU.out.trans (Upd.set _)⟩
theorem fsl_row {w : World} {b off N cap n i m : Nat} {l : List Nat} (h : FSl w (.slice (some ⟨b, off, none⟩) N cap) l) (hl : l.length = n * n) (hi : i < n) (hm : m ≤ n) (hn : n ≤ 12) : FSl w (.slice (some ⟨b, off + i * n, none⟩) m (cap - i * n)) ((List.range m).map fun k => atN n l i k) := by
 obtain ⟨ao, cp, e, h1, h2, hx, hc⟩ := h
 have h3 : i * n + n ≤ l.length := by rw [hl]; have := Nat.mul_le_mul_right n (show i + 1 ≤ n from hi); rw [Nat.add_mul, Nat.one_mul] at this; exact this
 injection e with e1 e2 e3
 subst e1 e3
 obtain ⟨b2, o2, e4, hb, hcc⟩ := hc (by omega)
 cases e4
 have hlen : ((List.range m).map fun k => atN n l i k).length = m := by simp
 refine ⟨_, cap - i * n, by rw [hlen], by rw [hlen]; omega, by rw [hlen]; omega, fun x hx2 => ?_, fun _ => ⟨b, off + i * n, rfl, hb, fun k hk => ?_⟩⟩
 ·simp only [List.mem_map, List.mem_range] at hx2
  obtain ⟨k, hk, rfl⟩ := hx2
  rw [← atN_get (by omega)]
  exact hx _ (List.getElem_mem (by omega))
 ·have hk2 : k < m := by rw [hlen] at hk; exact hk
  rw [Nat.add_assoc, hcc (i * n + k) (by omega), atN_get (by omega)]
  simp
theorem FSn.cellU {w : World} {ao : Option Addr} {m ca sb k : Nat} {l : List Nat} (h : FSn w (.slice ao m ca) l sb) (hl : l.length = m) (hk : k < m) : ∃ b off x, ao = some ⟨b, off, none⟩ ∧ (∃ hh : k < l.length, x = l[k]) ∧ ∀ W, Upd sb w W → W.cell? ⟨b, off + k, none⟩ = some (.float .f64 x) := by
 obtain ⟨⟨ao2, cap, h1, h2, h3, h4, h5⟩, h6⟩ := h
 obtain ⟨b, off, e, hlt, hc⟩ := h5 (by omega)
 injection h1 with h1
 subst h1
 have hne : b ≠ sb := h6 (by omega) ⟨b, off, none⟩ _ _ (by rw [e])
 exact ⟨b, off, l[k], e, ⟨by omega, rfl⟩, fun W hu => (World.cell?_of_block (a := ⟨b, off + k, none⟩) (hu.block b hlt hne)).trans (hc k (by omega))⟩
set_option maxRecDepth 100000 in
set_option maxHeartbeats 3200000 in
theorem rdot_any (sb : Nat) (f : Bool) (m : Nat) (va vb : Value) (la lb : List Nat) (X Y : Nat → Fo) (w : World) (hm : m ≤ 4096) (ha : FSn w va la sb) (hb : FSn w vb lb sb) (hla : la.length = m) (hlb : lb.length = m) (hX : ∀ k (h : k < la.length), Rep (X k) la[k]) (hY : ∀ k (h : k < lb.length), Rep (Y k) lb[k]) (hs : BlkT w sb 109 #[.bool f]) :
  Calls Tryz.prog 78 #[.pointer (some ⟨sb, 0, none⟩), va, vb] w (StepW 109 sb (itr (fun k s => addS s (X k) (Y k)) m (some 0, f)).2 (itr (fun k s => addS s (X k) (Y k)) m (some 0, f)).1 w) := by
 obtain ⟨ao, ca, rfl, -⟩ := id ha.1
 obtain ⟨bo, cb, rfl, -⟩ := id hb.1
 rw [hla] at ha ⊢
 rw [hlb] at hb ⊢
 have HA := Lib.hid fun k (h : k < m) => ha.cellU hla h
 have HBB := Lib.hid fun k (h : k < m) => hb.cellU hlb h
 have HXX := Lib.hid hX
 have HYY := Lib.hid hY
 have HS0 : Hid (BlkT w sb 109 #[.bool f] ∧ Upd sb w w) := Lib.hid ⟨hs, Upd.refl _ _⟩
 have HR0 : Hid (Rep (itr (fun k s => addS s (X k) (Y k)) 0 (some 0, f)).1 0) := Lib.hid rep0
 clear ha hb hla hlb hX hY hs
 go_enter Tryz.func78, Tryz.ntmps78
 go_wp2
 go_loopw [7, 11] (fun tv i wr => ∃ (k u : Nat), k ≤ m ∧ i = .int .i64 k ∧ tv = .float .f64 u ∧ Hid (Rep (itr (fun k s => addS s (X k) (Y k)) k (some 0, f)).1 u) ∧ Hid (BlkT wr sb 109 #[.bool (itr (fun k s => addS s (X k) (Y k)) k (some 0, f)).2] ∧ Upd sb w wr)) (fun _ i _ => m - (intOf i).toNat)
 case atStart => exact ⟨0, 0, Nat.zero_le _, rfl, rfl, HR0, HS0⟩
 case round =>
  clear HR0 HS0
  obtain ⟨wo, rfl⟩ : ∃ wo : World, wo = wr := ⟨_, rfl⟩
  obtain ⟨k, u, hk, rfl, rfl, HU, HD⟩ := hrel
  by_cases hlt : k < m
  ·have HSQ : Hid ((itr (fun k s => addS s (X k) (Y k)) (k + 1) (some 0, f)) = addS (itr (fun k s => addS s (X k) (Y k)) k (some 0, f)) (X k) (Y k)) := Lib.hid rfl
   generalize (itr (fun k s => addS s (X k) (Y k)) k (some 0, f)) = t0 at *
   obtain ⟨b, off, x, rfl, ⟨hxl, hx⟩, hca⟩ := HA.out k hlt
   obtain ⟨d, of2, y, rfl, ⟨hyl, hy⟩, hcb⟩ := HBB.out k hlt
   have HXC := Lib.hid fun W (hW : Upd sb w W) => And.intro (hca W hW) (hcb W hW)
   have HX : Hid (Rep (X k) x) := Lib.hid (by rw [hx]; exact HXX.out k hxl)
   have HY : Hid (Rep (Y k) y) := Lib.hid (by rw [hy]; exact HYY.out k hyl)
   clear hca hcb hx hy hxl hyl
   have hmul : ∀ ty u v w, (binOp .mul ty (.float .f64 u) (.float .f64 v)).run Tryz.prog w = .ok (.float .f64 (fV .mul u v w)) (fN .mul u v w) := fun ty u v w => run_float_any .mul (.inr (.inr (.inl rfl))) ty u v w
   have hadd : ∀ ty u v w, (binOp .add ty (.float .f64 u) (.float .f64 v)).run Tryz.prog w = .ok (.float .f64 (fV .add u v w)) (fN .add u v w) := fun ty u v w => run_float_any .add (.inl rfl) ty u v w
   go_upto_region 5 with fail
   refine wp_region_pl (fun w' : World => w'.cell? ⟨b, off + k, none⟩ = some (.float .f64 x) ∧ w'.cell? ⟨d, of2 + k, none⟩ = some (.float .f64 y)) 14 (.take 0 (.take 1 (.take 2 (.take 3 (.take 4 (.take 5 (.take 6 (.take 7 (.take 8 (.take 9 (.take 10 (.run 11 (.run 12 (.run 13 .nil)))))))))))))) (by kernel_rfl) (by kernel_rfl) ?_
   replace HD := Lib.hid (And.intro (HD.out.1.below (drew_below wo)) (HD.out.2.trans (Upd.of_below (drew_below wo))))
   generalize World.drew wo = W5 at HD ⊢
   repeat (refine tkL (v := ?_) rfl rfl rfl (fun w' hSw => ?_) (HXC.out _ HD.out.2) ?_; rotate_left; (focus (go_simp; with_reducible rfl)); simp only [setL])
   refine wpPl_goL rfl rfl fun K' hK => ?_
   go_simp
   replace HD := Lib.hid (And.intro (HD.out.1.below (fN_below .mul x y W5)) (HD.out.2.trans (Upd.of_below (fN_below .mul x y W5))))
   have HP := Lib.hid (HX.out.op (op := .mul) HY.out W5)
   generalize fN .mul x y W5 = W5v1 at *
   generalize fV .mul x y _ = p0 at *
   refine hK _ _ (HXC.out _ HD.out.2) ?_
   clear hK K'
   try simp only [Act.put, setL]
   repeat (refine tkL (v := ?_) rfl rfl rfl (fun w' hSw => ?_) (HXC.out _ HD.out.2) ?_; rotate_left; (focus (go_simp; with_reducible rfl)); simp only [setL])
   refine wpPl_goL rfl rfl fun K' hK => ?_
   go_simp
   refine (rS_any sb _ _ p0 _ HD.out.1 HP.out).mono ?_
   rintro e1 W5v2 ⟨p, rfl, hp, hs1, hu1⟩
   replace HD := Lib.hid (And.intro hs1 (HD.out.2.trans hu1))
   have HP2 := Lib.hid hp
   clear hp hs1 hu1 HP
   refine hK _ _ (HXC.out _ HD.out.2) ?_
   clear hK K'
   try simp only [Act.put, setL]
   repeat (refine tkL (v := ?_) rfl rfl rfl (fun w' hSw => ?_) (HXC.out _ HD.out.2) ?_; rotate_left; (focus (go_simp; with_reducible rfl)); simp only [setL])
   refine wpPl_goL rfl rfl fun K' hK => ?_
   go_simp
   replace HD := Lib.hid (And.intro (HD.out.1.below (fN_below .add u p W5v2)) (HD.out.2.trans (Upd.of_below (fN_below .add u p W5v2))))
   have HT := Lib.hid (HU.out.op (op := .add) HP2.out W5v2)
   generalize fN .add u p W5v2 = W5v3 at *
   generalize fV .add u p _ = t1 at *
   refine hK _ _ (HXC.out _ HD.out.2) ?_
   clear hK K'
   try simp only [Act.put, setL]
   repeat (refine tkL (v := ?_) rfl rfl rfl (fun w' hSw => ?_) (HXC.out _ HD.out.2) ?_; rotate_left; (focus (go_simp; with_reducible rfl)); simp only [setL])
   refine wpPl_nil ?_
   simp only [drL]
   go_wp2_with fail
   refine (rS_any sb _ _ t1 _ HD.out.1 HT.out).mono ?_
   rintro e7 w7 ⟨u2, rfl, hr, hs1, hu1⟩
   replace HD := Lib.hid (And.intro hs1 (HD.out.2.trans hu1))
   have HU2 := Lib.hid hr
   clear hr hs1 hu1 HU HP2 HT hmul hadd
   go_wp2
   go_roundw
   case rel => exact ⟨k + 1, u2, by omega, by go_num, rfl, Lib.hid (by rw [HSQ.out]; exact HU2.out), Lib.hid (by rw [HSQ.out]; exact HD.out)⟩
   case measure => simp [intOf] <;> omega
  ·obtain rfl : k = m := by omega
   go_wp2
   exact bodyPost_ret (v := .float .f64 u) (by simp [results, Tryz.results78, go_sem]) rfl ⟨u, rfl, HU.out, HD.out.1, HD.out.2⟩
def mrT (M : Nat → Nat → Fo) (i j : Nat) (a b : Nat) : Fo := if (a < i ∧ b < i) ∨ (a = i ∧ b < j) ∨ (b = i ∧ a < j) then mirM M a b else some 0
theorem mrT_step {M : Nat → Nat → Fo} {i j : Nat} (h : j ≤ i) : mrT M i (j + 1) = upd2 (upd2 (mrT M i j) i j (M i j)) j i (M i j) := by
 funext a b
 unfold mrT upd2 mirM
 by_cases h1 : a = j ∧ b = i
 ·obtain ⟨rfl, rfl⟩ := h1
  rw [if_pos (show (a < b ∧ b < b) ∨ (a = b ∧ b < a + 1) ∨ (b = b ∧ a < a + 1) from .inr (.inr ⟨rfl, Nat.lt_succ_self _⟩)), if_pos (show a = a ∧ b = b from ⟨rfl, rfl⟩)]
  split
  ·rw [show a = b by omega]
  ·rfl
 ·by_cases h2 : a = i ∧ b = j
  ·obtain ⟨rfl, rfl⟩ := h2
   rw [if_pos (show (a < a ∧ b < a) ∨ (a = a ∧ b < b + 1) ∨ (b = a ∧ a < b + 1) from .inr (.inl ⟨rfl, Nat.lt_succ_self _⟩)), if_neg h1, if_pos (show a = a ∧ b = b from ⟨rfl, rfl⟩), if_pos h]
  ·rw [if_neg h1, if_neg h2]
   dsimp only
   by_cases h3 : (a < i ∧ b < i) ∨ (a = i ∧ b < j) ∨ (b = i ∧ a < j)
   ·rw [if_pos h3, if_pos (by omega)]
   ·rw [if_neg h3, if_neg (by omega)]
theorem mrT_row {M : Nat → Nat → Fo} {i : Nat} : mrT M i (i + 1) = mrT M (i + 1) 0 := by
 funext a b
 unfold mrT
 by_cases h3 : (a < i ∧ b < i) ∨ (a = i ∧ b < i + 1) ∨ (b = i ∧ a < i + 1)
 ·rw [if_pos h3, if_pos (by omega)]
 ·rw [if_neg h3, if_neg (by omega)]
theorem mrT_zero {M : Nat → Nat → Fo} : mrT M 0 0 = fun _ _ => some 0 := by
 funext a b
 unfold mrT
 rw [if_neg (by omega)]
theorem mrT_all {M : Nat → Nat → Fo} {n a b : Nat} (ha : a < n) (hb : b < n) : mrT M n 0 a b = mirM M a b := by
 unfold mrT
 rw [if_pos (.inl ⟨ha, hb⟩)]
structure MrR (w0 W : World) (g ob n N : Nat) (lv : Value) (vs : Nat → Nat) : Prop where
 B : ChB w0 W n n lv
 gm : FMs W g N vs
 om : BlkT W ob 25 #[.int .i64 n, .int .i64 n, .slice (some ⟨g, 0, none⟩) N N]
 ne : w0.heap.size + 1 < g ∧ g < ob
section
variable {w0 W V : World} {g ob n N : Nat} {lv : Value} {vs vs' : Nat → Nat}
theorem MrR.later (h : MrR w0 W g ob n N lv vs) (hb : Below W.heap.size W V) : MrR w0 V g ob n N lv vs := ⟨h.B.later hb, h.gm.below hb, h.om.below hb, h.ne⟩
theorem MrR.put (h : MrR w0 W g ob n N lv vs) (hu : Upd g W V) (hg : FMs V g N vs') : MrR w0 V g ob n N lv vs' := by
 have hne := h.ne
 have hb : Below g W V := ⟨hu.os, hu.tape, hu.output, hu.size, fun k hk => hu.block k (by have := h.gm.lt; omega) (by omega)⟩
 exact ⟨h.B.of_mod hb hne.1, hg, h.om.upd hu (by omega), hne⟩
theorem MrR.rd (h : MrR w0 W g ob n N lv vs) : (W.cell? ⟨ob, 0, none⟩ = some (.int .i64 n) ∧ W.cell? ⟨ob, 1, none⟩ = some (.int .i64 n) ∧ W.cell? ⟨ob, 2, none⟩ = some (.slice (some ⟨g, 0, none⟩) N N)) ∧ W.cell? ⟨w0.heap.size, 0, none⟩ = some (.int .i64 n) ∧ W.cell? ⟨w0.heap.size, 1, none⟩ = some (.int .i64 n) ∧ W.cell? ⟨w0.heap.size, 2, none⟩ = some lv :=
 ⟨⟨h.om.cell 0, h.om.cell 1, h.om.cell 2⟩, h.B.cells.1⟩
end
theorem mirror_at {n g0 i j : Nat} {vs0 : Nat → Nat} {M : Nat → Nat → Fo} {w W : World} (hn : n ≤ 12) (hg : FMs w g0 (n * n) vs0) (hM : LowR n M vs0) (hi : i < n) (hj : j < n) (hb : Below w.heap.size w W) : Calls Tryz.prog 51 #[MatV n n (.slice (some ⟨g0, 0, none⟩) (n * n) (n * n)), .int .i64 i, .int .i64 j] W (Gives (.float .f64 (vs0 (i * n + j))) W) := by
 have hl : FSl W (.slice (some ⟨g0, 0, none⟩) (n * n) (n * n)) ((List.range (n * n)).map vs0) := (hg.fsl (by have : n * n ≤ 12 * 12 := Nat.mul_le_mul hn hn; omega) fun p hp => by
  have hn0 : 0 < n := by
   rcases Nat.eq_zero_or_pos n with h0 | h0
   ·subst h0; simp at hp
   ·exact h0
  have h3 := (hM (p / n) (p % n) (Nat.div_lt_of_lt_mul hp) (Nat.mod_lt p hn0)).lt
  rwa [Nat.mul_comm, Nat.div_add_mod] at h3).below hb
 have := rAt_any i j n (i * n + j) n _ _ W hl rfl (by simp; exact at_lt hi hj)
 simpa using this
set_option maxRecDepth 100000 in
set_option maxHeartbeats 3200000 in
theorem rmirror_any (n g0 : Nat) (vs0 : Nat → Nat) (M : Nat → Nat → Fo) (w : World) (hn : n ≤ 12) (hg : FMs w g0 (n * n) vs0) (hM : LowR n M vs0) :
  Calls Tryz.prog 80 #[MatV n n (.slice (some ⟨g0, 0, none⟩) (n * n) (n * n))] w fun e w' => ∃ g vs, e = .returned (MatV n n (.slice (some ⟨g, 0, none⟩) (n * n) (n * n))) ∧ FMs w' g (n * n) vs ∧ LowR n (mirM M) vs ∧ w.heap.size ≤ g ∧ Below w.heap.size w w' := by
 obtain ⟨N, hN⟩ : ∃ N, n * n = N := ⟨_, rfl⟩
 have hN2 : N ≤ 144 := by rw [← hN]; exact Nat.mul_le_mul hn hn
 have HAT := Lib.hid fun (i j : Nat) (hi : i < n) (hj : j < n) W (hb : Below w.heap.size w W) => mirror_at hn hg hM hi hj hb
 have HZ := Lib.hid fun W => rzero_any n n hn hn W
 rw [hN] at hg HZ HAT ⊢
 obtain ⟨lv, hlv⟩ : ∃ lv, Value.slice (some ⟨g0, 0, none⟩) N N = lv := ⟨_, rfl⟩
 rw [hlv] at HAT ⊢
 have HLE : Hid (∃ ao c, lv = .slice ao N c) := Lib.hid ⟨_, _, hlv.symm⟩
 have HB := Lib.hid (ChB.new w n n lv)
 have HN := Lib.hid hN
 have HM := Lib.hid hM
 clear hg hlv hN hM
 obtain ⟨lo, lc, rfl⟩ := HLE.out
 obtain ⟨⟨m0, m1, m2⟩, ⟨q0, q1, q2⟩, f0, f1, f2⟩ := HB.out.cells
 go_enter Tryz.func80, Tryz.ntmps80
 go_wp2_with fail
 refine (HZ.out _).mono ?_
 rintro e1 w1 ⟨g, rfl, hg, hgl, hb1⟩
 have HGL : Hid (w.heap.size + 1 < g) := Lib.hid (by simp at hgl; omega)
 replace HB := Lib.hid (HB.out.later hb1)
 have HG := Lib.hid hg
 clear hb1 hg hgl m0 m1 m2 q0 q1 q2 f0 f1 f2 HZ
 go_upto_region 2 with fail
 have HD0 : Hid (MrR w (w1.alloc (.cells #[.int .i64 n, .int .i64 n, .slice (some ⟨g, 0, none⟩) N N] 25)) g w1.heap.size n N (.slice lo N lc) (fun _ => 0)) := Lib.hid ⟨HB.out.later (Below.alloc_self w1 _), HG.out.below (Below.alloc_self w1 _), BlkT.new w1 _ _, HGL.out, HG.out.lt⟩
 obtain ⟨ob, hob⟩ : ∃ b, w1.heap.size = b := ⟨_, rfl⟩
 rw [hob] at HD0 ⊢
 generalize World.alloc w1 _ = W1 at *
 clear hob HB HG
 have HL0 : Hid (LowR n (mrT M 0 0) (fun _ => 0)) := Lib.hid (by rw [mrT_zero]; exact LowR.zero n)
 obtain ⟨m0, m1, m2⟩ := HD0.out.B.cells.1
 go_wp2
 go_loopw [4] (fun i wr => ∃ (i0 : Nat) (vs : Nat → Nat), i0 ≤ n ∧ i = .int .i64 i0 ∧ Hid (LowR n (mrT M i0 0) vs) ∧ Hid (MrR w wr g ob n N (.slice lo N lc) vs)) (fun i _ => n - (intOf i).toNat)
 case atStart => exact ⟨0, _, Nat.zero_le _, rfl, HL0, HD0⟩
 case round =>
  clear HL0 HD0 m0 m1 m2
  obtain ⟨wo, rfl⟩ : ∃ wo : World, wo = wr := ⟨_, rfl⟩
  obtain ⟨i, vs, hi, rfl, HL, HD⟩ := hrel
  obtain ⟨m0, m1, m2⟩ := HD.out.B.cells.1
  by_cases hlt : i < n
  ·go_wp2
   go_loopw [5] (fun j wr => ∃ (j0 : Nat) (vs : Nat → Nat), j0 ≤ i + 1 ∧ j = .int .i64 j0 ∧ Hid (LowR n (mrT M i j0) vs) ∧ Hid (MrR w wr g ob n N (.slice lo N lc) vs)) (fun j _ => (i + 1) - (intOf j).toNat)
   case atStart => exact ⟨0, vs, Nat.zero_le _, rfl, HL, HD⟩
   case round =>
    clear HL HD m0 m1 m2
    obtain ⟨wo2, rfl⟩ : ∃ wo : World, wo = wr := ⟨_, rfl⟩
    obtain ⟨j, vs, hj, rfl, HL, HD⟩ := hrel
    by_cases hlj : j ≤ i
    ·have hjn : j < n := by omega
     have hdj : decide (j ≤ i) = true := decide_eq_true hlj
     have hdi : decide ((j : Int) ≤ (i : Int)) = true := decide_eq_true (by omega)
     have HP : Hid (i * n + j < N ∧ j * n + i < N) := Lib.hid (by rw [← HN.out]; exact ⟨at_lt hlt hjn, at_lt hjn hlt⟩)
     have HRX := Lib.hid (HM.out i j hlt hjn)
     have HATX := Lib.hid fun W (hb : Below w.heap.size w W) => HAT.out i j hlt hjn W hb
     obtain ⟨x, hx⟩ : ∃ x, vs0 (i * n + j) = x := ⟨_, rfl⟩
     have HXE := Lib.hid hx
     rw [hx] at HRX HATX
     clear hx
     have HLS : Hid (LowR n (mrT M i (j + 1)) (updF (updF vs (i * n + j) x) (j * n + i) x)) := Lib.hid (by rw [mrT_step hlj]; exact (HL.out.set hjn HRX.out).set hlt HRX.out)
     go_upto_region 8 with fail
     refine wp_region_pl (fun w' : World => (w'.cell? ⟨ob, 0, none⟩ = some (.int .i64 n) ∧ w'.cell? ⟨ob, 1, none⟩ = some (.int .i64 n) ∧ w'.cell? ⟨ob, 2, none⟩ = some (.slice (some ⟨g, 0, none⟩) N N)) ∧ w'.cell? ⟨w.heap.size, 0, none⟩ = some (.int .i64 n) ∧ w'.cell? ⟨w.heap.size, 1, none⟩ = some (.int .i64 n) ∧ w'.cell? ⟨w.heap.size, 2, none⟩ = some (.slice lo N lc)) 7 (.take 0 (.take 1 (.take 2 (.take 3 (.take 4 (.take 5 (.run 6 .nil))))))) (by kernel_rfl) (by kernel_rfl) ?_
     replace HD := Lib.hid (HD.out.later (drew_below _))
     generalize World.drew _ = W5 at HD ⊢
     repeat (refine tkL (v := ?_) rfl rfl rfl (fun w' hSw => ?_) HD.out.rd ?_; rotate_left; (focus (go_simp; with_reducible rfl)); simp only [setL])
     refine wpPl_goL rfl rfl fun K' hK => ?_
     go_simp
     refine (HATX.out _ HD.out.B.b).mono ?_
     rintro e1 W5v1 ⟨rfl, hb1⟩
     replace HD := Lib.hid (HD.out.later hb1)
     refine hK _ _ HD.out.rd ?_
     clear hK K' hb1
     try simp only [Act.put, setL]
     repeat (refine tkL (v := ?_) rfl rfl rfl (fun w' hSw => ?_) HD.out.rd ?_; rotate_left; (focus (go_simp; with_reducible rfl)); simp only [setL])
     refine wpPl_nil ?_
     simp only [drL]
     go_wp2_with fail
     refine (r9put_any g n N i j _ x n _ _ HD.out.gm rfl HP.out.1 (by omega)).mono ?_
     rintro e7 w7 ⟨rfl, hg7, hu7⟩
     replace HD := Lib.hid (HD.out.put hu7 hg7)
     clear hg7 hu7
     go_upto_region 9 with fail
     refine wp_region_pl (fun w' : World => (w'.cell? ⟨ob, 0, none⟩ = some (.int .i64 n) ∧ w'.cell? ⟨ob, 1, none⟩ = some (.int .i64 n) ∧ w'.cell? ⟨ob, 2, none⟩ = some (.slice (some ⟨g, 0, none⟩) N N)) ∧ w'.cell? ⟨w.heap.size, 0, none⟩ = some (.int .i64 n) ∧ w'.cell? ⟨w.heap.size, 1, none⟩ = some (.int .i64 n) ∧ w'.cell? ⟨w.heap.size, 2, none⟩ = some (.slice lo N lc)) 7 (.take 0 (.take 1 (.take 2 (.take 3 (.take 4 (.take 5 (.run 6 .nil))))))) (by kernel_rfl) (by kernel_rfl) ?_
     replace HD := Lib.hid (HD.out.later (drew_below _))
     generalize World.drew _ = W9 at HD ⊢
     repeat (refine tkL (v := ?_) rfl rfl rfl (fun w' hSw => ?_) HD.out.rd ?_; rotate_left; (focus (go_simp; with_reducible rfl)); simp only [setL])
     refine wpPl_goL rfl rfl fun K' hK => ?_
     go_simp
     refine (HATX.out _ HD.out.B.b).mono ?_
     rintro e1 W9v1 ⟨rfl, hb1⟩
     replace HD := Lib.hid (HD.out.later hb1)
     refine hK _ _ HD.out.rd ?_
     clear hK K' hb1
     try simp only [Act.put, setL]
     repeat (refine tkL (v := ?_) rfl rfl rfl (fun w' hSw => ?_) HD.out.rd ?_; rotate_left; (focus (go_simp; with_reducible rfl)); simp only [setL])
     refine wpPl_nil ?_
     simp only [drL]
     go_wp2_with fail
     refine (r9put_any g n N j i _ x n _ _ HD.out.gm rfl HP.out.2 (by omega)).mono ?_
     rintro e7 w7 ⟨rfl, hg7, hu7⟩
     replace HD := Lib.hid (HD.out.put hu7 hg7)
     clear hg7 hu7
     go_wp2
     go_roundw
     case rel => exact ⟨j + 1, _, by omega, by go_num, HLS, HD⟩
     case measure => simp [intOf] <;> omega
    ·obtain rfl : j = i + 1 := by omega
     have hdj : decide (i + 1 ≤ i) = false := decide_eq_false (by omega)
     have hdi : decide (((i + 1 : Nat) : Int) ≤ (i : Int)) = false := decide_eq_false (by omega)
     go_wp2
     go_roundw
     case rel => exact ⟨i + 1, vs, by omega, by go_num, Lib.hid (by rw [← mrT_row]; exact HL.out), HD⟩
     case measure => simp [intOf] <;> omega
  ·obtain rfl : i = n := by omega
   obtain ⟨x0, x1, x2, -⟩ := HD.out.om.cells3
   obtain ⟨-, ⟨q0, q1, q2⟩, f0, f1, f2⟩ := HD.out.B.cells
   have HFE : Hid (∀ (a b c : Value), FMs (((wo.setCell ⟨w.heap.size + 1, 0, none⟩ a).setCell ⟨w.heap.size + 1, 1, none⟩ b).setCell ⟨w.heap.size + 1, 2, none⟩ c) g N vs ∧ Below w.heap.size w (((wo.setCell ⟨w.heap.size + 1, 0, none⟩ a).setCell ⟨w.heap.size + 1, 1, none⟩ b).setCell ⟨w.heap.size + 1, 2, none⟩ c)) := Lib.hid fun a b c => ⟨((HD.out.gm.upd (Upd.set (b := w.heap.size + 1) _) (by have := HD.out.ne; omega)).upd (Upd.set (b := w.heap.size + 1) _) (by have := HD.out.ne; omega)).upd (Upd.set (b := w.heap.size + 1) _) (by have := HD.out.ne; omega), below_three HD.out.B.b _ (Nat.le_succ _) _ _ _⟩
   have HLF : Hid (LowR i (mirM M) vs) := Lib.hid fun a b ha hb => by rw [← mrT_all ha hb]; exact HL.out a b ha hb
   clear HD HL
   go_wp2
   exact bodyPost_ret (v := MatV i i (.slice (some ⟨g, 0, none⟩) N N)) (by simp [results, Tryz.results80, go_sem, q0, q1, q2]) rfl ⟨g, vs, rfl, (HFE.out _ _ _).1, HLF.out, by have := HGL.out; omega, (HFE.out _ _ _).2⟩
structure SqQ (w0 W : World) (sb g ob n N : Nat) (lv : Value) (f : Bool) (vs : Nat → Nat) : Prop where
 r : MrR w0 W g ob n N lv vs
 s : BlkT W sb 109 #[.bool f]
 ne : w0.heap.size + 1 < sb ∧ sb < g
section
variable {w0 W V : World} {sb g ob n N : Nat} {lv : Value} {f f' : Bool} {vs vs' : Nat → Nat}
theorem SqQ.later (h : SqQ w0 W sb g ob n N lv f vs) (hb : Below W.heap.size W V) : SqQ w0 V sb g ob n N lv f vs := ⟨h.r.later hb, h.s.below hb, h.ne⟩
theorem SqQ.step (h : SqQ w0 W sb g ob n N lv f vs) (hu : Upd sb W V) (hs : BlkT V sb 109 #[.bool f']) : SqQ w0 V sb g ob n N lv f' vs := by
 have hne := h.ne
 have hne2 := h.r.ne
 have hb : Below sb W V := ⟨hu.os, hu.tape, hu.output, hu.size, fun k hk => hu.block k (by have := h.s.lt; omega) (by omega)⟩
 exact ⟨⟨h.r.B.of_mod hb hne.1, h.r.gm.upd hu (by omega), h.r.om.upd hu (by omega), hne2⟩, hs, hne⟩
theorem SqQ.put (h : SqQ w0 W sb g ob n N lv f vs) (hu : Upd g W V) (hg : FMs V g N vs') : SqQ w0 V sb g ob n N lv f vs' := ⟨h.r.put hu hg, h.s.upd hu (by have := h.ne; omega), h.ne⟩
end
set_option maxRecDepth 100000 in
set_option maxHeartbeats 3200000 in
theorem rsq_any (r c : Int) (sl : Value) (l : List Nat) (w : World) (hl : FSl w sl l) :
  Calls Tryz.prog 29 #[MatV r c sl] w (MeA (sqrE r c l) (sqrN r c l) (sqrL r c l) w) := by
 have HB := Lib.hid (ChB.new w r c sl)
 have HTR := Lib.hid (rtri_any r c sl l _ (hl.below (below2 w (.cells #[.int .i64 r, .int .i64 c, sl] 25) (.cells #[.int .i64 0, .int .i64 0, .slice none 0 0] 25))))
 by_cases h0 : triB r c l = 0
 ·obtain ⟨n, rfl, rfl, hq, -⟩ := tri_zero h0
  have HCS := Lib.hid fun f hf => sqr_ok h0 f hf
  rw [h0] at HTR
  have hn := hq.hn
  have HFN := Lib.hid (sqA_fin (L := atO n l) n)
  have hll := hq.len
  have hnn : n * n ≤ 144 := Nat.mul_le_mul hn hn
  obtain ⟨ao, cap, rfl, hcap, -⟩ := id hl
  have HROW := Lib.hid fun i W (hi : i < n) (b off : Nat) (hao : ao = some ⟨b, off, none⟩) => rrow_any n i l.length cap b off hn hi hll hcap W
  have HRF := Lib.hid fun i m b off W (hi : i < n) (hm : m ≤ n) (hao : ao = some ⟨b, off, none⟩) (hb : Below w.heap.size w W) => fsl_row (i := i) (m := m) ((show FSl w (.slice (some ⟨b, off, none⟩) l.length cap) l by rw [← hao]; exact hl).below hb) hll hi hm hn
  have HAO : Hid (0 < n → ∃ b off, ao = some ⟨b, off, none⟩ ∧ b < w.heap.size) := Lib.hid fun h => by obtain ⟨ao2, c2, e, -, -, -, hc⟩ := hl; injection e with e; subst e; obtain ⟨b, off, e, hb, -⟩ := hc (by rw [hll]; exact Nat.mul_pos h h); exact ⟨b, off, e, hb⟩
  have HRP := Lib.hid fun (i k : Nat) (hi : i < n) (hk : k < n) => (show Rep (atO n l i k) (atN n l i k) from ⟨hl.at_lt hq hi hk, rfl⟩)
  have HZ := Lib.hid fun W => rzero_any n n hn hn W
  have hLL : l.length = n * n := hll
  have HCAP : Hid (n * n ≤ cap) := Lib.hid (by omega)
  clear h0 hq hl hcap
  generalize sqrE n n l = E at *
  generalize sqrN n n l = Nn at *
  generalize sqrL n n l = R at *
  rw [hll] at HB HTR HROW ⊢
  clear hll hLL
  generalize hN : n * n = N at HB HTR HROW HZ HCAP hnn ⊢
  have HN := Lib.hid hN
  clear hN
  obtain ⟨⟨m0, m1, m2⟩, ⟨q0, q1, q2⟩, f0, f1, f2⟩ := HB.out.cells
  go_enter Tryz.func29, Tryz.ntmps29
  go_wp2_with fail
  refine HTR.out.mono ?_
  rintro e1 w1 ⟨rfl, hb1⟩
  replace HB := Lib.hid (HB.out.later hb1)
  clear hb1 m0 m1 m2 q0 q1 q2 f0 f1 f2 HTR
  obtain ⟨⟨m0, m1, m2⟩, ⟨q0, q1, q2⟩, f0, f1, f2⟩ := HB.out.cells
  go_upto_region 5 with fail
  clear m0 m1 m2 q0 q1 q2 f0 f1 f2
  have HSB := Lib.hid (BlkT.new w1 #[.bool false] 109)
  have HSS : Hid (w.heap.size + 1 < w1.heap.size) := Lib.hid HB.out.q.lt
  replace HB := Lib.hid (HB.out.later (Below.alloc_self w1 (.cells #[.bool false] 109)))
  obtain ⟨sb, hsb⟩ : ∃ b, w1.heap.size = b := ⟨_, rfl⟩
  rw [hsb] at HSB HSS ⊢
  generalize World.alloc w1 _ = W1 at *
  clear hsb
  obtain ⟨⟨m0, m1, m2⟩, ⟨q0, q1, q2⟩, f0, f1, f2⟩ := HB.out.cells
  go_wp2_with fail
  refine (HZ.out _).mono ?_
  rintro e2 w2 ⟨g, rfl, hg, hgl, hb2⟩
  have HGL : Hid (sb < g) := Lib.hid (by have := HSB.out.lt; omega)
  replace HB := Lib.hid (HB.out.later hb2)
  replace HSB := Lib.hid (HSB.out.below hb2)
  have HG := Lib.hid hg
  clear hb2 hg hgl m0 m1 m2 q0 q1 q2 f0 f1 f2 HZ
  go_upto_region 6 with fail
  have HD0 : Hid (SqQ w (w2.alloc (.cells #[.int .i64 n, .int .i64 n, .slice (some ⟨g, 0, none⟩) N N] 25)) sb g w2.heap.size n N (.slice ao N cap) false (fun _ => 0)) := Lib.hid ⟨⟨HB.out.later (Below.alloc_self w2 _), HG.out.below (Below.alloc_self w2 _), BlkT.new w2 _ _, by have := HSS.out; have := HGL.out; omega, HG.out.lt⟩, HSB.out.alloc _, HSS.out, HGL.out⟩
  obtain ⟨ob, hob⟩ : ∃ b, w2.heap.size = b := ⟨_, rfl⟩
  rw [hob] at HD0 ⊢
  generalize World.alloc w2 _ = W2 at *
  clear hob HB HG HSB HGL HSS
  have HL0 : Hid (LowR n (sqA (atO n l) 0).1 (fun _ => 0)) := Lib.hid (LowR.zero n)
  have HD1 : Hid (SqQ w W2 sb g ob n N (.slice ao N cap) (sqA (atO n l) 0).2 (fun _ => 0)) := HD0
  clear HD0
  obtain ⟨m0, m1, m2⟩ := HD1.out.r.B.cells.1
  go_wp2
  go_loopw [7] (fun i wr => ∃ (i0 : Nat) (vs : Nat → Nat), i0 ≤ n ∧ i = .int .i64 i0 ∧ Hid (LowR n (sqA (atO n l) i0).1 vs) ∧ Hid (SqQ w wr sb g ob n N (.slice ao N cap) (sqA (atO n l) i0).2 vs)) (fun i _ => n - (intOf i).toNat)
  case atStart => exact ⟨0, _, Nat.zero_le _, rfl, HL0, HD1⟩
  case round =>
   clear HL0 HD1 m0 m1 m2
   obtain ⟨wo, rfl⟩ : ∃ wo : World, wo = wr := ⟨_, rfl⟩
   obtain ⟨i, vs, hi, rfl, HL, HD⟩ := hrel
   obtain ⟨m0, m1, m2⟩ := HD.out.r.B.cells.1
   by_cases hlt : i < n
   ·have HST : Hid (sqA (atO n l) (i + 1) = sqI (atO n l) i (sqA (atO n l) i) (i + 1)) := Lib.hid rfl
    generalize sqA (atO n l) i = s0 at *
    have HL1 : Hid (LowR n (sqI (atO n l) i s0 0).1 vs) := HL
    have HD1 : Hid (SqQ w wo sb g ob n N (.slice ao N cap) (sqI (atO n l) i s0 0).2 vs) := HD
    clear HL HD
    obtain ⟨b, off, rfl, hbw⟩ := HAO.out (by omega)
    have HBW := Lib.hid hbw
    clear hbw
    go_wp2
    go_loopw [8] (fun j wr => ∃ (j0 : Nat) (vs : Nat → Nat), j0 ≤ i + 1 ∧ j = .int .i64 j0 ∧ Hid (LowR n (sqI (atO n l) i s0 j0).1 vs) ∧ Hid (SqQ w wr sb g ob n N (.slice (some ⟨b, off, none⟩) N cap) (sqI (atO n l) i s0 j0).2 vs)) (fun j _ => (i + 1) - (intOf j).toNat)
    case atStart => exact ⟨0, vs, Nat.zero_le _, rfl, HL1, HD1⟩
    case round =>
     clear HL1 HD1 m0 m1 m2
     obtain ⟨wo2, rfl⟩ : ∃ wo : World, wo = wr := ⟨_, rfl⟩
     obtain ⟨j, vs, hj, rfl, HL, HD⟩ := hrel
     by_cases hlj : j ≤ i
     ·have hjn : j < n := by omega
      have hdj : decide (j ≤ i) = true := decide_eq_true hlj
      have hdi : decide ((j : Int) ≤ (i : Int)) = true := decide_eq_true (by omega)
      have HSJ : Hid (sqI (atO n l) i s0 (j + 1) = (upd2 (sqI (atO n l) i s0 j).1 i j (addT (atO n l) i j (sqI (atO n l) i s0 j).2 (j + 1)).1, (addT (atO n l) i j (sqI (atO n l) i s0 j).2 (j + 1)).2)) := Lib.hid rfl
      generalize sqI (atO n l) i s0 j = s1 at *
      have HP : Hid (i * n + j < N) := Lib.hid (by rw [← HN.out]; exact at_lt hlt hjn)
      have hci : i * n + n ≤ cap := by have h1 := HCAP.out; have h2 := HN.out; have := Nat.mul_le_mul_right n (show i + 1 ≤ n from hlt); rw [Nat.add_mul, Nat.one_mul] at this; omega
      have hcj : j * n + n ≤ cap := by have h1 := HCAP.out; have h2 := HN.out; have := Nat.mul_le_mul_right n (show j + 1 ≤ n from hjn); rw [Nat.add_mul, Nat.one_mul] at this; omega
      have HRI := Lib.hid fun W (hb : Below w.heap.size w W) => HRF.out i (j + 1) b off W hlt (by omega) rfl hb
      have HRJ := Lib.hid fun W (hb : Below w.heap.size w W) => HRF.out j (j + 1) b off W hjn (by omega) rfl hb
      have HRWI := Lib.hid fun W => HROW.out i W hlt b off rfl
      have HRWJ := Lib.hid fun W => HROW.out j W hjn b off rfl
      obtain ⟨ci, hci2⟩ : ∃ x, cap - i * n = x := ⟨_, rfl⟩
      obtain ⟨cj, hcj2⟩ : ∃ x, cap - j * n = x := ⟨_, rfl⟩
      rw [hci2] at HRI HRWI
      rw [hcj2] at HRJ HRWJ
      have hc1 : j + 1 ≤ ci := by omega
      have hc2 : j + 1 ≤ cj := by omega
      have hc3 : ((j : Int) + 1) ≤ (ci : Int) := by omega
      have hc4 : ((j : Int) + 1) ≤ (cj : Int) := by omega
      have hc5 : ((j : Int) + 1).toNat = j + 1 := by omega
      have hc6 : (0 : Int) ≤ (j : Int) + 1 := by omega
      have hc7 : IntKind.i64.wrap ((j : Int) + 1) = (j : Int) + 1 := by rw [show ((j : Int) + 1) = ((j + 1 : Nat) : Int) by omega]; exact IntWalk.i64_in _ (by omega)
      clear hci hcj hci2 hcj2
      go_upto_region 12 with fail
      refine wp_region_pl (fun w' : World => (w'.cell? ⟨ob, 0, none⟩ = some (.int .i64 n) ∧ w'.cell? ⟨ob, 1, none⟩ = some (.int .i64 n) ∧ w'.cell? ⟨ob, 2, none⟩ = some (.slice (some ⟨g, 0, none⟩) N N)) ∧ w'.cell? ⟨w.heap.size, 0, none⟩ = some (.int .i64 n) ∧ w'.cell? ⟨w.heap.size, 1, none⟩ = some (.int .i64 n) ∧ w'.cell? ⟨w.heap.size, 2, none⟩ = some (.slice (some ⟨b, off, none⟩) N cap)) 17 (.take 0 (.take 1 (.take 2 (.take 3 (.take 4 (.take 5 (.take 7 (.take 8 (.take 10 (.take 11 (.take 13 (.take 14 (.run 6 (.take 9 (.run 12 (.take 15 (.run 16 .nil))))))))))))))))) (by kernel_rfl) (by kernel_rfl) ?_
      replace HD := Lib.hid (HD.out.later (drew_below _))
      generalize World.drew _ = W5 at HD ⊢
      repeat (refine tkL (v := ?_) rfl rfl rfl (fun w' hSw => ?_) HD.out.r.rd ?_; rotate_left; (focus (go_simp; with_reducible rfl)); simp only [setL])
      refine wpPl_goL rfl rfl fun K' hK => ?_
      go_simp
      refine (HRWI.out _).mono ?_
      rintro e1 W5v1 ⟨rfl, hb1⟩
      replace HD := Lib.hid (HD.out.later hb1)
      refine hK _ _ HD.out.r.rd ?_
      clear hK K' hb1
      try simp only [Act.put, setL]
      repeat (refine tkL (v := ?_) rfl rfl rfl (fun w' hSw => ?_) HD.out.r.rd ?_; rotate_left; (focus (go_simp; with_reducible rfl)); simp only [setL])
      refine wpPl_goL rfl rfl fun K' hK => ?_
      go_simp
      refine (HRWJ.out _).mono ?_
      rintro e1 W5v2 ⟨rfl, hb1⟩
      replace HD := Lib.hid (HD.out.later hb1)
      refine hK _ _ HD.out.r.rd ?_
      clear hK K' hb1
      try simp only [Act.put, setL]
      repeat (refine tkL (v := ?_) rfl rfl rfl (fun w' hSw => ?_) HD.out.r.rd ?_; rotate_left; (focus (go_simp; with_reducible rfl)); simp only [setL])
      refine wpPl_goL rfl rfl fun K' hK => ?_
      go_simp
      refine (rdot_any sb _ (j + 1) _ _ _ _ (atO n l i) (atO n l j) _ (by omega) ⟨HRI.out _ HD.out.r.B.b, fun _ a c d e => by cases e; have := HBW.out; have := HD.out.ne.1; show b ≠ sb; omega⟩ ⟨HRJ.out _ HD.out.r.B.b, fun _ a c d e => by cases e; have := HBW.out; have := HD.out.ne.1; show b ≠ sb; omega⟩ (by simp) (by simp) (fun k hk => by simpa using HRP.out i k hlt (by simp at hk; omega)) (fun k hk => by simpa using HRP.out j k hjn (by simp at hk; omega)) HD.out.s).mono ?_
      rintro e1 W5v3 ⟨x, rfl, hx, hs1, hu1⟩
      replace HD := Lib.hid (HD.out.step hu1 hs1)
      have HX := Lib.hid hx
      clear hx hs1 hu1
      refine hK _ _ HD.out.r.rd ?_
      clear hK K'
      try simp only [Act.put, setL]
      repeat (refine tkL (v := ?_) rfl rfl rfl (fun w' hSw => ?_) HD.out.r.rd ?_; rotate_left; (focus (go_simp; with_reducible rfl)); simp only [setL])
      refine wpPl_nil ?_
      simp only [drL]
      have HX2 : Hid (Rep (addT (atO n l) i j s1.2 (j + 1)).1 x) := HX
      have HD2 : Hid (SqQ w _ sb g ob n N (.slice (some ⟨b, off, none⟩) N cap) (addT (atO n l) i j s1.2 (j + 1)).2 vs) := HD
      clear HD HX
      generalize addT (atO n l) i j s1.2 (j + 1) = t0 at *
      go_wp2_with fail
      refine (r9put_any g n N i j _ x n _ _ HD2.out.r.gm rfl HP.out (by have := HN.out; omega)).mono ?_
      rintro e7 w7 ⟨rfl, hg7, hu7⟩
      replace HD2 := Lib.hid (HD2.out.put hu7 hg7)
      clear hg7 hu7
      go_wp2
      go_roundw
      case rel => exact ⟨j + 1, _, by omega, by go_num, Lib.hid (by rw [HSJ.out]; exact HL.out.set hjn HX2.out), Lib.hid (by rw [HSJ.out]; exact HD2.out)⟩
      case measure => simp [intOf] <;> omega
     ·obtain rfl : j = i + 1 := by omega
      have hdj : decide (i + 1 ≤ i) = false := decide_eq_false (by omega)
      have hdi : decide (((i + 1 : Nat) : Int) ≤ (i : Int)) = false := decide_eq_false (by omega)
      go_wp2
      go_roundw
      case rel => exact ⟨i + 1, vs, by omega, by go_num, Lib.hid (by rw [HST.out]; exact HL.out), Lib.hid (by rw [HST.out]; exact HD.out)⟩
      case measure => simp [intOf] <;> omega
   ·obtain rfl : i = n := by omega
    have s0 := HD.out.s.cell 0
    obtain ⟨b, hb⟩ : ∃ b, (sqA (atO i l) i).2 = b := ⟨_, rfl⟩
    rw [hb] at s0
    cases b
    ·obtain ⟨-, hE⟩ := HCS.out false hb
     obtain ⟨rfl, rfl, rfl⟩ := hE rfl
     have HFI := Lib.hid (HFN.out hb)
     have hN := HN.out
     subst hN
     have HMI := Lib.hid (rmirror_any i g vs (sqA (atO i l) i).1 _ hn HD.out.r.gm HL.out)
     obtain ⟨x0, x1, x2, -⟩ := HD.out.r.om.cells3
     have HBB := Lib.hid HD.out.r.B
     clear HCS HFN HD HL
     go_wp2_with fail
     refine HMI.out.mono ?_
     rintro e8 w8 ⟨g2, vs2, rfl, hg2, hl2, hgl, hb8⟩
     have HQ : Hid (∀ (a b c : Value), FSl (((w8.setCell ⟨w.heap.size + 1, 0, none⟩ a).setCell ⟨w.heap.size + 1, 1, none⟩ b).setCell ⟨w.heap.size + 1, 2, none⟩ c) (.slice (some ⟨g2, 0, none⟩) (i * i) (i * i)) (matL i (mirM (sqA (atO i l) i).1)) ∧ Below w.heap.size w (((w8.setCell ⟨w.heap.size + 1, 0, none⟩ a).setCell ⟨w.heap.size + 1, 1, none⟩ b).setCell ⟨w.heap.size + 1, 2, none⟩ c)) := Lib.hid fun a b c => ⟨FMs.matF (((hg2.upd (Upd.set (b := w.heap.size + 1) _) (by have := HBB.out.q.lt; omega)).upd (Upd.set (b := w.heap.size + 1) _) (by have := HBB.out.q.lt; omega)).upd (Upd.set (b := w.heap.size + 1) _) (by have := HBB.out.q.lt; omega)) hl2 (fun a b => by unfold mirM; split <;> exact HFI.out _ _) hn, below_three (HBB.out.b.trans (hb8.mono HBB.out.b.size)) _ (Nat.le_succ _) _ _ _⟩
     replace HBB := Lib.hid (HBB.out.later hb8)
     clear hg2 hl2 hgl hb8 x0 x1 x2 HMI
     obtain ⟨⟨m0, m1, m2⟩, ⟨q0, q1, q2⟩, f0, f1, f2⟩ := HBB.out.cells
     go_wp2
     exact bodyPost_ret (v := .tuple #[MatV i i (.slice (some ⟨g2, 0, none⟩) (i * i) (i * i)), .int .i64 0]) (by simp [results, Tryz.results29, go_sem, q0, q1, q2]) rfl ⟨_, rfl, (HQ.out _ _ _).1, (HQ.out _ _ _).2⟩
    ·obtain ⟨hE, -⟩ := HCS.out true hb
     obtain ⟨rfl, rfl, rfl⟩ := hE rfl
     have HBB := Lib.hid HD.out.r.B
     clear HCS HFN HD
     obtain ⟨-, ⟨q0, q1, q2⟩, f0, f1, f2⟩ := HBB.out.cells
     go_wp2
     exact bodyPost_ret (v := .tuple #[MatV 0 0 (.slice none 0 0), .int .i64 5]) (by simp [results, Tryz.results29, go_sem, q0, q1, q2]) rfl (MeA.err HBB.out)
 ·obtain ⟨e1, e2, e3⟩ := sqr_err h0
  rw [e1, e2, e3]
  have hp := beq_eq_false_iff_ne.2 h0
  generalize triB r c l = k at *
  clear hl h0 e1 e2 e3
  obtain ⟨⟨m0, m1, m2⟩, ⟨q0, q1, q2⟩, f0, f1, f2⟩ := HB.out.cells
  go_enter Tryz.func29, Tryz.ntmps29
  go_wp2_with fail
  refine HTR.out.mono ?_
  rintro e1 w1 ⟨rfl, hb1⟩
  replace HB := Lib.hid (HB.out.later hb1)
  clear hb1 m0 m1 m2 q0 q1 q2 f0 f1 f2 HTR
  obtain ⟨⟨m0, m1, m2⟩, ⟨q0, q1, q2⟩, f0, f1, f2⟩ := HB.out.cells
  go_wp2
  exact bodyPost_ret (v := .tuple #[MatV 0 0 (.slice none 0 0), .int .i64 k]) (by simp [results, Tryz.results29, go_sem, q0, q1, q2]) rfl (MeA.err HB.out)
end
end Go.Proofs.YtfmecpembnmnkaaGreatDoor
