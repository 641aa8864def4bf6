/- Walks: the exact sum of a list of numbers. -/
import Derived.Test.YthkhignbmefmjaaGreatDoorGM
import Derived.Test.YthkhignbmefmjaaGreatDoorGL
namespace Go.Proofs.YthkhignbmefmjaaGreatDoor
open Go.RowKit
def foldS (l : List (Int × Int)) : Int × Int := l.foldl (fun s t => (plZ s.1 s.2 t.1 t.2, plE s.1 s.2 t.1 t.2)) (0, 0)
theorem foldS_snoc (l : List (Int × Int)) (t : Int × Int) : foldS (l ++ [t]) = (plZ (foldS l).1 (foldS l).2 t.1 t.2, plE (foldS l).1 (foldS l).2 t.1 t.2) := by
 unfold foldS; rw [List.foldl_append]; rfl
theorem foldS_take {l : List (Int × Int)} {k : Nat} (h : k < l.length) : foldS (l.take (k + 1)) = (plZ (foldS (l.take k)).1 (foldS (l.take k)).2 l[k].1 l[k].2, plE (foldS (l.take k)).1 (foldS (l.take k)).2 l[k].1 l[k].2) := by
 rw [List.take_succ_eq_append_getElem h, foldS_snoc]
theorem foldS_bd {M U : Int} {B : Nat} (hM : 0 ≤ M) (hU : 0 ≤ U) {l : List (Int × Int)} (h : ∀ t ∈ l, -M ≤ t.2 ∧ t.2 ≤ U ∧ (sc M t.1 t.2).natAbs ≤ B) (k : Nat) (hk : k ≤ l.length) :
  -M ≤ (foldS (l.take k)).2 ∧ (foldS (l.take k)).2 ≤ U ∧ (sc M (foldS (l.take k)).1 (foldS (l.take k)).2).natAbs ≤ k * B := by
 induction k with
 | zero =>
  rw [List.take_zero]
  have h1 : foldS [] = (0, 0) := rfl
  rw [h1]
  refine ⟨by omega, hU, ?_⟩
  simp [sc_zero]
 | succ k ih =>
  obtain ⟨h1, h2, h3⟩ := ih (by omega)
  have hk' : k < l.length := by omega
  obtain ⟨g1, g2, g3⟩ := h l[k] (List.getElem_mem _)
  rw [foldS_take hk']
  have hs := sc_pl (M := M) (z := (foldS (l.take k)).1) (e := (foldS (l.take k)).2) (y := l[k].1) (f := l[k].2) (by omega) (by omega)
  generalize l[k].1 = y at *
  generalize l[k].2 = f at *
  generalize (foldS (l.take k)).1 = z at *
  generalize (foldS (l.take k)).2 = e at *
  refine ⟨?_, ?_, ?_⟩
  ·show -M ≤ plE z e y f
   unfold plE; split
   ·omega
   ·split <;> omega
  ·show plE z e y f ≤ U
   unfold plE; split
   ·omega
   ·split <;> omega
  ·show (sc M (plZ z e y f) (plE z e y f)).natAbs ≤ _
   rw [hs, Nat.succ_mul]; omega
theorem bl_of_sc {M z e : Int} {K : Nat} (h : (sc M z e).natAbs < 2 ^ K) : bl z.natAbs ≤ K := by
 refine bl_le_of_lt (Nat.lt_of_le_of_lt ?_ h)
 rw [natAbs_sc]
 exact Nat.le_mul_of_pos_right _ (Nat.two_pow_pos _)
set_option exponentiation.threshold 4000 in
theorem sc_one {b : Nat} (hf : finB b = true) : (sc 1074 (valZ b) (pE b)).natAbs ≤ 2 ^ 2098 := by
 rw [← sc_own hf (by omega), natAbs_sc, ownZ_natAbs]
 have h1 := expB_bd hf
 have h2 := mantB_lt b
 refine Nat.le_trans (Nat.mul_le_mul (Nat.le_of_lt h2) (Nat.pow_le_pow_right (by decide) (by omega : (expB b + 1074).toNat ≤ 2045))) ?_
 rw [show 9007199254740992 = 2 ^ 53 from rfl, ← Nat.pow_add]
 exact Nat.pow_le_pow_right (by decide) (by omega)
structure AccRel (w0 wr : World) (bb : Nat) (z e : Int) (p : Nat) : Prop where
 res : BlkT wr w0.heap.size 40 #[.bool false, .slice none 0 0, .int .i64 0]
 box : BlkT wr bb 68 #[.pointer (some ⟨p, 0, none⟩), .int .i64 e]
 num : IntAt wr p 0 z
 below : Below w0.heap.size w0 wr
 lt : w0.heap.size < bb
theorem AccRel.later {w0 wr w2 : World} {bb : Nat} {z e : Int} {p : Nat} (h : AccRel w0 wr bb z e p) (hb : Below wr.heap.size wr w2) : AccRel w0 w2 bb z e p :=
 ⟨h.res.below hb, h.box.below hb, h.num.below hb, h.below.trans (hb.mono h.below.size), h.lt⟩
theorem IntAt.ne_box {w : World} {p b t : Nat} {z : Int} {x y : Value} {a : Addr} (h : IntAt w p 0 z) (hb : BlkT w b t #[x, y]) (hx : x = .pointer (some a)) : p ≠ b := by
 intro e
 subst e
 have h1 := h.2.1
 have h2 := hb.cell 0
 rw [h2, hx] at h1
 simp at h1
theorem AccRel.put {w0 wr : World} {bb : Nat} {z e y f : Int} {p q : Nat} (h : AccRel w0 wr bb z e p) (hq : IntAt wr q 0 y) :
  AccRel w0 ((wr.setCell ⟨bb, 0, none⟩ (.pointer (some ⟨q, 0, none⟩))).setCell ⟨bb, 1, none⟩ (.int .i64 f)) bb y f q := by
 have hne : q ≠ bb := IntAt.ne_box hq h.box rfl
 have h1 := h.box.set (i := 0) (.pointer (some ⟨q, 0, none⟩))
 have h2 := h1.set (i := 1) (.int .i64 f)
 have hl := h.lt
 refine ⟨(h.res.setOther (by omega) _).setOther (by omega) _, ?_, (hq.setOther h.box objT_exact hne _).setOther h1 objT_exact hne _, (h.below.setCell (Nat.le_of_lt hl) _).setCell (Nat.le_of_lt hl) _, hl⟩
 simpa using h2
theorem AccRel.start {w0 w1 : World} (hr : BlkT w1 w0.heap.size 40 #[.bool false, .slice none 0 0, .int .i64 0]) (hb : Below w0.heap.size w0 w1) :
  AccRel w0 ((w1.alloc (.cells #[.bool false, .slice none 0 0] 66)).alloc (.cells #[.pointer (some ⟨w1.heap.size, 0, none⟩), .int .i64 0] 68)) (w1.heap.size + 1) 0 0 w1.heap.size :=
 ⟨hr.below (below2 _ _ _), BlkT.new1 _ _ _ _, (IntK.zero w1 _ objT_int).below (below1 _ _), hb.trans ((below2 _ _ _).mono hb.size), by have := hr.lt; omega⟩
theorem foldS_small {M U : Int} {B K : Nat} (hM : 0 ≤ M) (hU : 0 ≤ U) {l : List (Int × Int)} (h : ∀ t ∈ l, -M ≤ t.2 ∧ t.2 ≤ U ∧ (sc M t.1 t.2).natAbs ≤ B) (hn : l.length * B < 2 ^ K) (k : Nat) (hk : k ≤ l.length) :
  -M ≤ (foldS (l.take k)).2 ∧ (foldS (l.take k)).2 ≤ U ∧ bl (foldS (l.take k)).1.natAbs ≤ K := by
 obtain ⟨h1, h2, h3⟩ := foldS_bd hM hU h k hk
 exact ⟨h1, h2, bl_of_sc (Nat.lt_of_le_of_lt (Nat.le_trans h3 (Nat.mul_le_mul_right _ hk)) hn)⟩
set_option exponentiation.threshold 4000 in
theorem sum_len {n : Nat} (h : n ≤ 1099511627776) : n * 2 ^ 2098 < 2 ^ 2139 := by
 have h1 : n < 2 ^ 41 := by omega
 rw [show 2139 = 41 + 2098 from rfl, Nat.pow_add]
 exact Nat.mul_lt_mul_of_pos_right h1 (Nat.two_pow_pos _)
def prs (l : List Nat) : List (Int × Int) := l.map fun b => (valZ b, pE b)
theorem prs_small {l : List Nat} (hn : l.length ≤ 1099511627776) (hf : l.all finB = true) (k : Nat) (hk : k ≤ l.length) :
  -1074 ≤ (foldS ((prs l).take k)).2 ∧ (foldS ((prs l).take k)).2 ≤ 1023 ∧ bl (foldS ((prs l).take k)).1.natAbs ≤ 2139 := by
 have hl : (prs l).length = l.length := by unfold prs; simp
 refine foldS_small (M := 1074) (by omega) (by omega) (fun t ht => ?_) (by rw [hl]; exact sum_len hn) k (by rw [hl]; exact hk)
 unfold prs at ht
 rw [List.mem_map] at ht
 obtain ⟨b, hb, rfl⟩ := ht
 have hfb := List.all_eq_true.1 hf b hb
 have := pE_bd hfb
 exact ⟨this.1, this.2, sc_one hfb⟩
theorem bl_hvZ (z : Int) : bl (hvZ z).natAbs ≤ bl z.natAbs := bl_mono hvZ_natAbs_le
theorem hvE_bd (z e : Int) : e ≤ hvE z e ∧ hvE z e ≤ e + bl z.natAbs := by
 unfold hvE; have := tzb_le (N := z.natAbs); omega
theorem lng_small {z e : Int} (h1 : -100000 ≤ e) (h2 : e + bl z.natAbs ≤ 100000) (h3 : bl z.natAbs ≤ 65536) : lngB z e = false := by
 unfold lngB
 have := bl_hvZ z
 have := hvE_bd z e
 rw [decide_eq_false (by omega), decide_eq_false (by omega), decide_eq_false (by omega)]; rfl
set_option maxRecDepth 100000 in
set_option maxHeartbeats 800000 in
theorem Sum_any (v : Value) (l : List Nat) (w : World) (hl : FSl w v l) (hf : l.all finB = true) (hT : Tab64 w) (hTs : 1 < w.heap.size) :
  Calls Tryz.prog 15 #[v] w (DyNew (hvZ (foldS (prs l)).1) (nrE (foldS (prs l)).1 (foldS (prs l)).2) w) := by
 have HS := Lib.hid hl
 obtain ⟨ao, cap, rfl, hcap, hn, hx, hc⟩ := hl
 have HC := Lib.hid hc
 have HX := Lib.hid hx
 have HF := Lib.hid hf
 have HT := Lib.hid (And.intro hT hTs)
 have HK := Lib.hid (prs_small hn hf)
 have HLp : Hid ((prs l).length = l.length) := Lib.hid (by unfold prs; simp)
 have HG : Hid (∀ k (h : k < l.length), foldS ((prs l).take (k + 1)) = (plZ (foldS ((prs l).take k)).1 (foldS ((prs l).take k)).2 (valZ l[k]) (pE l[k]), plE (foldS ((prs l).take k)).1 (foldS ((prs l).take k)).2 (valZ l[k]) (pE l[k]))) := by
  refine Lib.hid fun k h => ?_
  rw [foldS_take (by rw [HLp.out]; exact h)]
  unfold prs; simp
 clear hc hx hf hT hTs
 have HW0 := Lib.hid (BlkT.new w #[.bool false, .slice none 0 0, .int .i64 0] 40)
 go_enter Tryz.func15, Tryz.ntmps15
 go_wp2_with fail
 refine (Finite_any _ l _ (HS.out.below (below1 w _))).mono ?_
 rintro e1 w1 ⟨rfl, hb1⟩
 rw [HF.out]
 have HB1 := Lib.hid ((below1 w _).trans (hb1.mono (below1 w _).size))
 have HW1 := Lib.hid (HW0.out.below hb1)
 clear hb1
 go_wp2_with fail
 have HA0 := Lib.hid (AccRel.start HW1.out HB1.out)
 clear HW1
 go_loopw [15] (fun i wr => ∃ (k : Nat) (p : Nat), k ≤ l.length ∧ i = .int .i64 k ∧ Hid (AccRel w wr (w1.heap.size + 1) (foldS ((prs l).take k)).1 (foldS ((prs l).take k)).2 p)) (fun i _ => l.length - (intOf i).toNat)
 case atStart => exact ⟨0, w1.heap.size, Nat.zero_le _, rfl, HA0⟩
 case round =>
  obtain ⟨k, p, hk, rfl, HR⟩ := hrel
  have HKk := Lib.hid (HK.out k hk)
  by_cases hlt : k < l.length
  ·obtain ⟨b, off, rfl, hb, hcc⟩ := HC.out (by omega)
   have hck := (HR.out.below.cell (p := ⟨b, off + k, none⟩) hb).trans (hcc k hlt)
   have HOF := Lib.hid fun W hW => dof_any l[k] W (HX.out _ (List.getElem_mem _)) (List.all_eq_true.1 HF.out _ (List.getElem_mem _)) hW
   have HGk := Lib.hid (HG.out k hlt)
   have HB5 := Lib.hid (pE_bd (List.all_eq_true.1 HF.out _ (List.getElem_mem hlt)))
   have HB6 : Hid (bl (valZ l[k]).natAbs ≤ 53) := Lib.hid val_bl
   clear hcc
   generalize hs1 : foldS ((prs l).take (k + 1)) = s1 at *
   have HS1 := Lib.hid hs1
   clear hs1
   generalize foldS ((prs l).take k) = s0 at *
   generalize valZ l[k] = y at *
   generalize pE l[k] = f at *
   generalize l[k] = x at *
   obtain ⟨z, e⟩ := s0
   obtain ⟨z1, g⟩ := s1
   simp only at HR HGk HKk
   obtain ⟨r0, r1, r2, r3⟩ := HR.out.box.cells2
   have HEq : Hid (plZ z e y f = z1 ∧ plE z e y f = g) := Lib.hid (by have := HGk.out; simp only [Prod.mk.injEq] at this; exact ⟨this.1.symm, this.2.symm⟩)
   go_wp2
   refine wp_region_pl (fun w' : World => w'.cell? ⟨w1.heap.size + 1, 0, none⟩ = some (.pointer (some ⟨p, 0, none⟩)) ∧ w'.cell? ⟨w1.heap.size + 1, 1, none⟩ = some (.int .i64 e)) 4 (.take 0 (.take 1 (.run 2 (.run 3 .nil)))) (by kernel_rfl) (by kernel_rfl) ?_
   have HR2 := Lib.hid (HR.out.later (drew_below _))
   clear r0 r1 r2 r3 hck HR
   generalize wr.drew = V at HR2 ⊢
   have hS : (fun w' : World => w'.cell? ⟨w1.heap.size + 1, 0, none⟩ = some (.pointer (some ⟨p, 0, none⟩)) ∧ w'.cell? ⟨w1.heap.size + 1, 1, none⟩ = some (.int .i64 e)) V := ⟨HR2.out.box.cell 0, HR2.out.box.cell 1⟩
   repeat (refine wpPl_take (v := ?_) rfl (fun _ _ _ h => h) rfl (fun w' hSw => ?_) hS ?_; rotate_left; focus (go_simp; with_reducible rfl); try simp only [Act.put, setL])
   refine wpPl_run rfl fun K' hK => ?_
   go_simp
   refine (HOF.out _ (HT.out.1.below HT.out.2 HR2.out.below) (Nat.lt_of_lt_of_le HT.out.2 HR2.out.below.size)).mono ?_
   rintro e3 w3 ⟨q, rfl, hq, hi3, hb3⟩
   have HR3 := Lib.hid (HR2.out.later hb3)
   have HI3 := Lib.hid hi3
   have hS : (fun w' : World => w'.cell? ⟨w1.heap.size + 1, 0, none⟩ = some (.pointer (some ⟨p, 0, none⟩)) ∧ w'.cell? ⟨w1.heap.size + 1, 1, none⟩ = some (.int .i64 e)) w3 := ⟨HR3.out.box.cell 0, HR3.out.box.cell 1⟩
   refine hK _ _ hS ?_
   clear hK K' hq hi3 hb3 HR2
   refine wpPl_run rfl fun K' hK => ?_
   unfold ExV at *
   go_simp
   refine (dyplus_any p q z e y f _ HR3.out.num HI3.out (by have := HKk.out.2.2; omega) (by have := HB6.out; omega) (by have := HKk.out.1; omega) (by have := HKk.out.2.1; omega) (by have := HB5.out.1; omega) (by have := HB5.out.2; omega)).mono ?_
   rintro e4 w4 ⟨p2, rfl, hi4, hb4⟩
   rw [HEq.out.1] at hi4
   rw [HEq.out.2]
   have HR4 := Lib.hid (HR3.out.later hb4)
   have HI4 := Lib.hid hi4
   have hS : (fun w' : World => w'.cell? ⟨w1.heap.size + 1, 0, none⟩ = some (.pointer (some ⟨p, 0, none⟩)) ∧ w'.cell? ⟨w1.heap.size + 1, 1, none⟩ = some (.int .i64 e)) w4 := ⟨HR4.out.box.cell 0, HR4.out.box.cell 1⟩
   refine hK _ _ hS ?_
   clear hK K' hi4 hb4 HR3 HI3 hS
   refine wpPl_nil ?_
   simp only [drL]
   obtain ⟨r0, r1, r2, r3⟩ := HR4.out.box.cells2
   unfold ExV at *
   go_wp2
   go_roundw
   case rel => exact ⟨k + 1, p2, by omega, by go_num, Lib.hid (by rw [HS1.out]; exact HR4.out.put HI4.out)⟩
   case measure => simp [intOf]; omega
  ·obtain rfl : k = l.length := by omega
   have HTk : Hid ((prs l).take l.length = prs l) := Lib.hid (by rw [← HLp.out]; exact List.take_length)
   rw [HTk.out] at HR HKk
   clear HK HG HF HX HC HTk HLp
   generalize foldS (prs l) = s0 at *
   obtain ⟨z, e⟩ := s0
   simp only at HR HKk ⊢
   obtain ⟨r0, r1, r2, r3⟩ := HR.out.box.cells2
   go_wp2_with fail
   refine (put_any p z e _ HR.out.num (by have := HKk.out.2.2; omega) (by have := HKk.out.1; omega) (by have := HKk.out.2.1; omega) (HT.out.1.below HT.out.2 HR.out.below) (Nat.lt_of_lt_of_le HT.out.2 HR.out.below.size) (.inr (lng_small (by have := HKk.out.1; omega) (by have := HKk.out.2; omega) (by have := HKk.out.2; omega)))).mono ?_
   rintro e7 W7 ⟨sl, rfl, hr7, ho7, hb7⟩
   have HW7 := Lib.hid (HR.out.res.below hb7)
   have HF7 := Lib.hid (fun x0 x1 x2 => dy_store HR.out.below hr7 ho7 hb7 HW7.out objT_dyad HR.out.res.lt (Nat.le_refl _) x0 x1 x2)
   obtain ⟨ao7, cs7, hsl, -⟩ := hr7
   unfold DyV at *
   rw [hsl] at HF7 ⊢
   clear ho7 hb7 hsl r0 r1 r2 r3
   obtain ⟨q0, q1, q2, q3, q4, q5⟩ := HW7.out.cells3
   generalize hvZ z = R at *
   generalize nrE z e = RE at *
   have HN : Hid (DyNew R RE w (.returned (.tuple #[DyV (decide (R < 0)) (.slice ao7 (ln 32 R.natAbs) cs7) RE, .int .i64 0])) (((W7.setCell ⟨w.heap.size, 0, none⟩ (.bool (decide (R < 0)))).setCell ⟨w.heap.size, 1, none⟩ (.slice ao7 (ln 32 R.natAbs) cs7)).setCell ⟨w.heap.size, 2, none⟩ (.int .i64 RE))) :=
    Lib.hid ⟨_, rfl, HF7.out _ _ _⟩
   clear HF7 HW7 HW0
   generalize hP : DyNew R RE w = P at *
   clear hP
   unfold DyV at *
   generalize decide (R < 0) = nr at *
   generalize ln 32 R.natAbs = lr at *
   go_wp2
   refine bodyPost_ret (v := .tuple #[.agg #[.bool nr, .slice ao7 lr cs7, .int .i64 RE], .int .i64 0]) (by simp [results, Tryz.results15, go_sem, q0, q1, q2]) rfl HN.out
end Go.Proofs.YthkhignbmefmjaaGreatDoor
