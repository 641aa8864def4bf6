/- Walks: the exact sum of a list of numbers. -/
import Derived.Test.YtphaikdbldfpaaaGreatDoorGM
section
namespace Go.Proofs.YtphaikdbldfpaaaGreatDoor
open Go.RowKit

/-- What a sum in order comes to. -/
def foldS (l : List (Int × Int)) : Int × Int := l.foldl (fun s t => (plZ s.1 s.2 t.1 t.2, plE s.1 s.2 t.1 t.2)) (0, 0)

theorem foldS_snoc (l : List (Int × Int)) (t : Int × Int) : foldS (l ++ [t]) = (plZ (foldS l).1 (foldS l).2 t.1 t.2, plE (foldS l).1 (foldS l).2 t.1 t.2) := by
  unfold foldS; rw [List.foldl_append]; rfl

theorem foldS_take {l : List (Int × Int)} {k : Nat} (h : k < l.length) : foldS (l.take (k + 1)) = (plZ (foldS (l.take k)).1 (foldS (l.take k)).2 l[k].1 l[k].2, plE (foldS (l.take k)).1 (foldS (l.take k)).2 l[k].1 l[k].2) := by
  rw [List.take_succ_eq_append_getElem h, foldS_snoc]

theorem foldS_bd {M U : Int} {B : Nat} (hM : 0 ≤ M) (hU : 0 ≤ U) {l : List (Int × Int)} (h : ∀ t ∈ l, -M ≤ t.2 ∧ t.2 ≤ U ∧ (sc M t.1 t.2).natAbs ≤ B) (k : Nat) (hk : k ≤ l.length) :
    -M ≤ (foldS (l.take k)).2 ∧ (foldS (l.take k)).2 ≤ U ∧ (sc M (foldS (l.take k)).1 (foldS (l.take k)).2).natAbs ≤ k * B := by
  induction k with
  | zero =>
    rw [List.take_zero]
    have h1 : foldS [] = (0, 0) := rfl
    rw [h1]
    refine ⟨by omega, hU, ?_⟩
    simp [sc_zero]
  | succ k ih =>
    obtain ⟨h1, h2, h3⟩ := ih (by omega)
    have hk' : k < l.length := by omega
    obtain ⟨g1, g2, g3⟩ := h l[k] (List.getElem_mem _)
    rw [foldS_take hk']
    have hs := sc_pl (M := M) (z := (foldS (l.take k)).1) (e := (foldS (l.take k)).2) (y := l[k].1) (f := l[k].2) (by omega) (by omega)
    generalize l[k].1 = y at *
    generalize l[k].2 = f at *
    generalize (foldS (l.take k)).1 = z at *
    generalize (foldS (l.take k)).2 = e at *
    refine ⟨?_, ?_, ?_⟩
    · show -M ≤ plE z e y f
      unfold plE; split
      · omega
      · split <;> omega
    · show plE z e y f ≤ U
      unfold plE; split
      · omega
      · split <;> omega
    · show (sc M (plZ z e y f) (plE z e y f)).natAbs ≤ _
      rw [hs, Nat.succ_mul]; omega

theorem bl_of_sc {M z e : Int} {K : Nat} (h : (sc M z e).natAbs < 2 ^ K) : bl z.natAbs ≤ K := by
  refine bl_le_of_lt (Nat.lt_of_le_of_lt ?_ h)
  rw [natAbs_sc]
  exact Nat.le_mul_of_pos_right _ (Nat.two_pow_pos _)

set_option exponentiation.threshold 4000 in
theorem sc_one {b : Nat} (hf : finB b = true) : (sc 1074 (valZ b) (pE b)).natAbs ≤ 2 ^ 2098 := by
  rw [← sc_own hf (by omega), natAbs_sc, ownZ_natAbs]
  have h1 := expB_bd hf
  have h2 := mantB_lt b
  refine Nat.le_trans (Nat.mul_le_mul (Nat.le_of_lt h2) (Nat.pow_le_pow_right (by decide) (by omega : (expB b + 1074).toNat ≤ 2045))) ?_
  rw [show 9007199254740992 = 2 ^ 53 from rfl, ← Nat.pow_add]
  exact Nat.pow_le_pow_right (by decide) (by omega)

/-- The state of the loops of Sum and Dot: the result's block; the sum's block and its whole part. -/
structure AccRel (w0 wr : World) (bb : Nat) (z e : Int) (p : Nat) : Prop where
  res : BlkT wr w0.heap.size 50 #[.bool false, .slice none 0 0, .int .i64 0]
  box : BlkT wr bb 78 #[.pointer (some ⟨p, 0, none⟩), .int .i64 e]
  num : IntAt wr p 0 z
  below : Below w0.heap.size w0 wr
  lt : w0.heap.size < bb

theorem AccRel.later {w0 wr w2 : World} {bb : Nat} {z e : Int} {p : Nat} (h : AccRel w0 wr bb z e p) (hb : Below wr.heap.size wr w2) : AccRel w0 w2 bb z e p :=
  ⟨h.res.below hb, h.box.below hb, h.num.below hb, h.below.trans (hb.mono h.below.size), h.lt⟩

theorem IntAt.ne_box {w : World} {p b t : Nat} {z : Int} {x y : Value} {a : Addr} (h : IntAt w p 0 z) (hb : BlkT w b t #[x, y]) (hx : x = .pointer (some a)) : p ≠ b := by
  intro e
  subst e
  have h1 := h.2.1
  have h2 := hb.cell 0
  rw [h2, hx] at h1
  simp at h1

theorem AccRel.put {w0 wr : World} {bb : Nat} {z e y f : Int} {p q : Nat} (h : AccRel w0 wr bb z e p) (hq : IntAt wr q 0 y) :
    AccRel w0 ((wr.setCell ⟨bb, 0, none⟩ (.pointer (some ⟨q, 0, none⟩))).setCell ⟨bb, 1, none⟩ (.int .i64 f)) bb y f q := by
  have hne : q ≠ bb := IntAt.ne_box hq h.box rfl
  have h1 := h.box.set (i := 0) (.pointer (some ⟨q, 0, none⟩))
  have h2 := h1.set (i := 1) (.int .i64 f)
  have hl := h.lt
  refine ⟨(h.res.setOther (by omega) _).setOther (by omega) _, ?_, (hq.setOther h.box objT_exact hne _).setOther h1 objT_exact hne _, (h.below.setCell (Nat.le_of_lt hl) _).setCell (Nat.le_of_lt hl) _, hl⟩
  simpa using h2

theorem AccRel.start {w0 w1 : World} (hr : BlkT w1 w0.heap.size 50 #[.bool false, .slice none 0 0, .int .i64 0]) (hb : Below w0.heap.size w0 w1) :
    AccRel w0 ((w1.alloc (.cells #[.bool false, .slice none 0 0] 76)).alloc (.cells #[.pointer (some ⟨w1.heap.size, 0, none⟩), .int .i64 0] 78)) (w1.heap.size + 1) 0 0 w1.heap.size :=
  ⟨hr.below (below2 _ _ _), BlkT.new1 _ _ _ _, (IntK.zero w1 _ objT_int).below (below1 _ _), hb.trans ((below2 _ _ _).mono hb.size), by have := hr.lt; omega⟩

theorem foldS_small {M U : Int} {B K : Nat} (hM : 0 ≤ M) (hU : 0 ≤ U) {l : List (Int × Int)} (h : ∀ t ∈ l, -M ≤ t.2 ∧ t.2 ≤ U ∧ (sc M t.1 t.2).natAbs ≤ B) (hn : l.length * B < 2 ^ K) (k : Nat) (hk : k ≤ l.length) :
    -M ≤ (foldS (l.take k)).2 ∧ (foldS (l.take k)).2 ≤ U ∧ bl (foldS (l.take k)).1.natAbs ≤ K := by
  obtain ⟨h1, h2, h3⟩ := foldS_bd hM hU h k hk
  exact ⟨h1, h2, bl_of_sc (Nat.lt_of_le_of_lt (Nat.le_trans h3 (Nat.mul_le_mul_right _ hk)) hn)⟩

set_option exponentiation.threshold 4000 in
theorem sum_len {n : Nat} (h : n ≤ 1099511627776) : n * 2 ^ 2098 < 2 ^ 2139 := by
  have h1 : n < 2 ^ 41 := by omega
  rw [show 2139 = 41 + 2098 from rfl, Nat.pow_add]
  exact Nat.mul_lt_mul_of_pos_right h1 (Nat.two_pow_pos _)

/-- The pairs of a list's numbers. -/
def prs (l : List Nat) : List (Int × Int) := l.map fun b => (valZ b, pE b)

theorem prs_small {l : List Nat} (hn : l.length ≤ 1099511627776) (hf : l.all finB = true) (k : Nat) (hk : k ≤ l.length) :
    -1074 ≤ (foldS ((prs l).take k)).2 ∧ (foldS ((prs l).take k)).2 ≤ 1023 ∧ bl (foldS ((prs l).take k)).1.natAbs ≤ 2139 := by
  have hl : (prs l).length = l.length := by unfold prs; simp
  refine foldS_small (M := 1074) (by omega) (by omega) (fun t ht => ?_) (by rw [hl]; exact sum_len hn) k (by rw [hl]; exact hk)
  unfold prs at ht
  rw [List.mem_map] at ht
  obtain ⟨b, hb, rfl⟩ := ht
  have hfb := List.all_eq_true.1 hf b hb
  have := pE_bd hfb
  exact ⟨this.1, this.2, sc_one hfb⟩

theorem bl_hvZ (z : Int) : bl (hvZ z).natAbs ≤ bl z.natAbs := bl_mono hvZ_natAbs_le

theorem hvE_bd (z e : Int) : e ≤ hvE z e ∧ hvE z e ≤ e + bl z.natAbs := by
  unfold hvE; have := tzb_le (N := z.natAbs); omega

theorem lng_small {z e : Int} (h1 : -100000 ≤ e) (h2 : e + bl z.natAbs ≤ 100000) (h3 : bl z.natAbs ≤ 65536) : lngB z e = false := by
  unfold lngB
  have := bl_hvZ z
  have := hvE_bd z e
  rw [decide_eq_false (by omega), decide_eq_false (by omega), decide_eq_false (by omega)]; rfl

set_option maxRecDepth 100000 in
set_option maxHeartbeats 800000 in
theorem Sum_any (v : Value) (l : List Nat) (w : World) (hl : FSl w v l) (hf : l.all finB = true) (hT : Tab64 w) (hTs : 1 < w.heap.size) :
    Calls Tryz.prog 23 #[v] w (DyNew (hvZ (foldS (prs l)).1) (nrE (foldS (prs l)).1 (foldS (prs l)).2) w) := by
  have HS := Lib.hid hl
  obtain ⟨ao, cap, rfl, hcap, hn, hx, hc⟩ := hl
  have HC := Lib.hid hc
  have HX := Lib.hid hx
  have HF := Lib.hid hf
  have HT := Lib.hid (And.intro hT hTs)
  have HK := Lib.hid (prs_small hn hf)
  have HLp : Hid ((prs l).length = l.length) := Lib.hid (by unfold prs; simp)
  have HG : Hid (∀ k (h : k < l.length), foldS ((prs l).take (k + 1)) = (plZ (foldS ((prs l).take k)).1 (foldS ((prs l).take k)).2 (valZ l[k]) (pE l[k]), plE (foldS ((prs l).take k)).1 (foldS ((prs l).take k)).2 (valZ l[k]) (pE l[k]))) := by
    refine Lib.hid fun k h => ?_
    rw [foldS_take (by rw [HLp.out]; exact h)]
    unfold prs; simp
  clear hc hx hf hT hTs
  have HW0 := Lib.hid (BlkT.new w #[.bool false, .slice none 0 0, .int .i64 0] 50)
  go_enter Tryz.func23, Tryz.ntmps23
  go_wp2_with fail
  refine (Finite_any _ l _ (HS.out.below (below1 w _))).mono ?_
  rintro e1 w1 ⟨rfl, hb1⟩
  rw [HF.out]
  have HB1 := Lib.hid ((below1 w _).trans (hb1.mono (below1 w _).size))
  have HW1 := Lib.hid (HW0.out.below hb1)
  clear hb1
  go_wp2_with fail
  have HA0 := Lib.hid (AccRel.start HW1.out HB1.out)
  clear HW1
  go_loopw [15] (fun i wr => ∃ (k : Nat) (p : Nat), k ≤ l.length ∧ i = .int .i64 k ∧ Hid (AccRel w wr (w1.heap.size + 1) (foldS ((prs l).take k)).1 (foldS ((prs l).take k)).2 p)) (fun i _ => l.length - (intOf i).toNat)
  case atStart => exact ⟨0, w1.heap.size, Nat.zero_le _, rfl, HA0⟩
  case round =>
    obtain ⟨k, p, hk, rfl, HR⟩ := hrel
    have HKk := Lib.hid (HK.out k hk)
    by_cases hlt : k < l.length
    · obtain ⟨b, off, rfl, hb, hcc⟩ := HC.out (by omega)
      have hck := (HR.out.below.cell (p := ⟨b, off + k, none⟩) hb).trans (hcc k hlt)
      have HOF := Lib.hid fun W hW => dof_any l[k] W (HX.out _ (List.getElem_mem _)) (List.all_eq_true.1 HF.out _ (List.getElem_mem _)) hW
      have HGk := Lib.hid (HG.out k hlt)
      have HB5 := Lib.hid (pE_bd (List.all_eq_true.1 HF.out _ (List.getElem_mem hlt)))
      have HB6 : Hid (bl (valZ l[k]).natAbs ≤ 53) := Lib.hid val_bl
      clear hcc
      generalize hs1 : foldS ((prs l).take (k + 1)) = s1 at *
      have HS1 := Lib.hid hs1
      clear hs1
      generalize foldS ((prs l).take k) = s0 at *
      generalize valZ l[k] = y at *
      generalize pE l[k] = f at *
      generalize l[k] = x at *
      obtain ⟨z, e⟩ := s0
      obtain ⟨z1, g⟩ := s1
      simp only at HR HGk HKk
      obtain ⟨r0, r1, r2, r3⟩ := HR.out.box.cells2
      have HEq : Hid (plZ z e y f = z1 ∧ plE z e y f = g) := Lib.hid (by have := HGk.out; simp only [Prod.mk.injEq] at this; exact ⟨this.1.symm, this.2.symm⟩)
      go_wp2
      refine wp_region_pl (fun w' : World => w'.cell? ⟨w1.heap.size + 1, 0, none⟩ = some (.pointer (some ⟨p, 0, none⟩)) ∧ w'.cell? ⟨w1.heap.size + 1, 1, none⟩ = some (.int .i64 e)) 4 (.take 0 (.take 1 (.run 2 (.run 3 .nil)))) (by kernel_rfl) (by kernel_rfl) ?_
      have HR2 := Lib.hid (HR.out.later (drew_below _))
      clear r0 r1 r2 r3 hck HR
      generalize wr.drew = V at HR2 ⊢
      have hS : (fun w' : World => w'.cell? ⟨w1.heap.size + 1, 0, none⟩ = some (.pointer (some ⟨p, 0, none⟩)) ∧ w'.cell? ⟨w1.heap.size + 1, 1, none⟩ = some (.int .i64 e)) V := ⟨HR2.out.box.cell 0, HR2.out.box.cell 1⟩
      repeat (refine wpPl_take (v := ?_) rfl (fun _ _ _ h => h) rfl (fun w' hSw => ?_) hS ?_; rotate_left; focus (go_simp; with_reducible rfl); try simp only [Act.put, List.setIfInBounds_toArray, List.set_cons_zero, List.set_cons_succ])
      refine wpPl_run rfl fun K' hK => ?_
      go_simp
      refine (HOF.out _ (HT.out.1.below HT.out.2 HR2.out.below) (Nat.lt_of_lt_of_le HT.out.2 HR2.out.below.size)).mono ?_
      rintro e3 w3 ⟨q, rfl, hq, hi3, hb3⟩
      have HR3 := Lib.hid (HR2.out.later hb3)
      have HI3 := Lib.hid hi3
      have hS : (fun w' : World => w'.cell? ⟨w1.heap.size + 1, 0, none⟩ = some (.pointer (some ⟨p, 0, none⟩)) ∧ w'.cell? ⟨w1.heap.size + 1, 1, none⟩ = some (.int .i64 e)) w3 := ⟨HR3.out.box.cell 0, HR3.out.box.cell 1⟩
      refine hK _ _ hS ?_
      clear hK K' hq hi3 hb3 HR2
      refine wpPl_run rfl fun K' hK => ?_
      unfold ExV at *
      go_simp
      refine (dyplus_any p q z e y f _ HR3.out.num HI3.out (by have := HKk.out.2.2; omega) (by have := HB6.out; omega) (by have := HKk.out.1; omega) (by have := HKk.out.2.1; omega) (by have := HB5.out.1; omega) (by have := HB5.out.2; omega)).mono ?_
      rintro e4 w4 ⟨p2, rfl, hi4, hb4⟩
      rw [HEq.out.1] at hi4
      rw [HEq.out.2]
      have HR4 := Lib.hid (HR3.out.later hb4)
      have HI4 := Lib.hid hi4
      have hS : (fun w' : World => w'.cell? ⟨w1.heap.size + 1, 0, none⟩ = some (.pointer (some ⟨p, 0, none⟩)) ∧ w'.cell? ⟨w1.heap.size + 1, 1, none⟩ = some (.int .i64 e)) w4 := ⟨HR4.out.box.cell 0, HR4.out.box.cell 1⟩
      refine hK _ _ hS ?_
      clear hK K' hi4 hb4 HR3 HI3 hS
      refine wpPl_nil ?_
      simp only [List.drop_succ_cons, List.drop_zero]
      obtain ⟨r0, r1, r2, r3⟩ := HR4.out.box.cells2
      unfold ExV at *
      go_wp2
      go_roundw
      case rel => exact ⟨k + 1, p2, by omega, by go_num, Lib.hid (by rw [HS1.out]; exact HR4.out.put HI4.out)⟩
      case measure => simp [intOf]; omega
    · obtain rfl : k = l.length := by omega
      have HTk : Hid ((prs l).take l.length = prs l) := Lib.hid (by rw [← HLp.out]; exact List.take_length)
      rw [HTk.out] at HR HKk
      clear HK HG HF HX HC HTk HLp
      generalize foldS (prs l) = s0 at *
      obtain ⟨z, e⟩ := s0
      simp only at HR HKk ⊢
      obtain ⟨r0, r1, r2, r3⟩ := HR.out.box.cells2
      go_wp2_with fail
      refine (put_any p z e _ HR.out.num (by have := HKk.out.2.2; omega) (by have := HKk.out.1; omega) (by have := HKk.out.2.1; omega) (HT.out.1.below HT.out.2 HR.out.below) (Nat.lt_of_lt_of_le HT.out.2 HR.out.below.size) (.inr (lng_small (by have := HKk.out.1; omega) (by have := HKk.out.2; omega) (by have := HKk.out.2; omega)))).mono ?_
      rintro e7 W7 ⟨sl, rfl, hr7, ho7, hb7⟩
      have HW7 := Lib.hid (HR.out.res.below hb7)
      have HF7 := Lib.hid (fun x0 x1 x2 => dy_store HR.out.below hr7 ho7 hb7 HW7.out objT_dyad HR.out.res.lt (Nat.le_refl _) x0 x1 x2)
      obtain ⟨ao7, cs7, hsl, -⟩ := hr7
      unfold DyV at *
      rw [hsl] at HF7 ⊢
      clear ho7 hb7 hsl r0 r1 r2 r3
      obtain ⟨q0, q1, q2, q3, q4, q5⟩ := HW7.out.cells3
      generalize hvZ z = R at *
      generalize nrE z e = RE at *
      have HN : Hid (DyNew R RE w (.returned (.tuple #[DyV (decide (R < 0)) (.slice ao7 (ln 32 R.natAbs) cs7) RE, .int .i64 0])) (((W7.setCell ⟨w.heap.size, 0, none⟩ (.bool (decide (R < 0)))).setCell ⟨w.heap.size, 1, none⟩ (.slice ao7 (ln 32 R.natAbs) cs7)).setCell ⟨w.heap.size, 2, none⟩ (.int .i64 RE))) :=
        Lib.hid ⟨_, rfl, HF7.out _ _ _⟩
      clear HF7 HW7 HW0
      generalize hP : DyNew R RE w = P at *
      clear hP
      unfold DyV at *
      generalize decide (R < 0) = nr at *
      generalize ln 32 R.natAbs = lr at *
      go_wp2
      refine bodyPost_ret (v := .tuple #[.agg #[.bool nr, .slice ao7 lr cs7, .int .i64 RE], .int .i64 0]) (by simp [results, Tryz.results23, go_sem, q0, q1, q2]) rfl HN.out

end Go.Proofs.YtphaikdbldfpaaaGreatDoor
end

/- Walk: the exact sum of products of two lists of numbers. -/
section
namespace Go.Proofs.YtphaikdbldfpaaaGreatDoor
open Go.RowKit

/-- The pairs of two lists' products. -/
def dts (l m : List Nat) : List (Int × Int) := List.zipWith (fun a b => (valZ a * valZ b, pE a + pE b)) l m

theorem dts_length {l m : List Nat} (h : l.length = m.length) : (dts l m).length = l.length := by unfold dts; simp [h]

theorem dts_get {l m : List Nat} {k : Nat} (h1 : k < l.length) (h2 : k < m.length) (h3 : k < (dts l m).length) : (dts l m)[k] = (valZ l[k] * valZ m[k], pE l[k] + pE m[k]) :=
  List.getElem_zipWith

set_option exponentiation.threshold 8000 in
theorem dot_len {n : Nat} (h : n ≤ 1099511627776) : n * 2 ^ 4196 < 2 ^ 4237 := by
  have h1 : n < 2 ^ 41 := by omega
  rw [show 4237 = 41 + 4196 from rfl, Nat.pow_add]
  exact Nat.mul_lt_mul_of_pos_right h1 (Nat.two_pow_pos _)

set_option exponentiation.threshold 8000 in
theorem sc_two {a b : Nat} (ha : finB a = true) (hb : finB b = true) : (sc 2148 (valZ a * valZ b) (pE a + pE b)).natAbs ≤ 2 ^ 4196 := by
  have h1 := pE_bd ha
  have h2 := pE_bd hb
  have h := sc_mul (M := 1074) (z := valZ a) (e := pE a) (y := valZ b) (f := pE b) (by omega) (by omega)
  rw [show (2148 : Int) = 1074 + 1074 from rfl, h, Int.natAbs_mul]
  refine Nat.le_trans (Nat.mul_le_mul (sc_one ha) (sc_one hb)) ?_
  rw [← Nat.pow_add]
  exact Nat.pow_le_pow_right (by decide) (by decide)

theorem dts_small {l m : List Nat} (hlm : l.length = m.length) (hn : l.length ≤ 1099511627776) (hf : l.all finB = true) (hf2 : m.all finB = true) (k : Nat) (hk : k ≤ l.length) :
    -2148 ≤ (foldS ((dts l m).take k)).2 ∧ (foldS ((dts l m).take k)).2 ≤ 2046 ∧ bl (foldS ((dts l m).take k)).1.natAbs ≤ 4237 := by
  have hl := dts_length hlm
  refine foldS_small (M := 2148) (by omega) (by omega) (fun t ht => ?_) (by rw [hl]; exact dot_len hn) k (by rw [hl]; exact hk)
  obtain ⟨i, hi, rfl⟩ := List.mem_iff_getElem.1 ht
  have h1 : i < l.length := by omega
  have h2 : i < m.length := by omega
  rw [dts_get h1 h2]
  have fa := List.all_eq_true.1 hf _ (List.getElem_mem h1)
  have fb := List.all_eq_true.1 hf2 _ (List.getElem_mem h2)
  have := pE_bd fa
  have := pE_bd fb
  exact ⟨by show -2148 ≤ pE l[i] + pE m[i]; omega, by show pE l[i] + pE m[i] ≤ 2046; omega, sc_two fa fb⟩

/-- What the k-th round of Dot finds. -/
def DotAt (w : World) (ao ao2 : Option Addr) (P : List (Int × Int)) (k : Nat) : Prop :=
  ∃ b off b2 off2 x y, ao = some ⟨b, off, none⟩ ∧ ao2 = some ⟨b2, off2, none⟩ ∧ b < w.heap.size ∧ b2 < w.heap.size ∧ w.cell? ⟨b, off + k, none⟩ = some (.float .f64 x) ∧ w.cell? ⟨b2, off2 + k, none⟩ = some (.float .f64 y) ∧
    x < 18446744073709551616 ∧ y < 18446744073709551616 ∧ finB x = true ∧ finB y = true ∧
    foldS (P.take (k + 1)) = (plZ (foldS (P.take k)).1 (foldS (P.take k)).2 (valZ x * valZ y) (pE x + pE y), plE (foldS (P.take k)).1 (foldS (P.take k)).2 (valZ x * valZ y) (pE x + pE y))

theorem dot_at {w : World} {ao ao2 : Option Addr} {cap cap2 : Nat} {l m : List Nat} (hl : FSl w (.slice ao l.length cap) l) (hm : FSl w (.slice ao2 m.length cap2) m) (hlm : l.length = m.length) (hf : l.all finB = true) (hf2 : m.all finB = true) {k : Nat} (hk : k < l.length) : DotAt w ao ao2 (dts l m) k := by
  have hk2 : k < m.length := by omega
  obtain ⟨_, _, e1, -, -, hx, hc⟩ := hl
  obtain ⟨_, _, e2, -, -, hx2, hc2⟩ := hm
  simp only [Value.slice.injEq, true_and] at e1 e2
  obtain ⟨rfl, rfl⟩ := e1
  obtain ⟨rfl, rfl⟩ := e2
  obtain ⟨b, off, rfl, hb, hcc⟩ := hc (by omega)
  obtain ⟨b2, off2, rfl, hb2, hcc2⟩ := hc2 (by omega)
  have hk3 : k < (dts l m).length := by rw [dts_length hlm]; exact hk
  refine ⟨b, off, b2, off2, l[k], m[k], rfl, rfl, hb, hb2, hcc k hk, hcc2 k hk2, hx _ (List.getElem_mem _), hx2 _ (List.getElem_mem _), List.all_eq_true.1 hf _ (List.getElem_mem _), List.all_eq_true.1 hf2 _ (List.getElem_mem _), ?_⟩
  rw [foldS_take hk3, dts_get hk hk2 hk3]

set_option maxRecDepth 100000 in
set_option maxHeartbeats 1600000 in
theorem Dot_any (va vb : Value) (l m : List Nat) (w : World) (hl : FSl w va l) (hm : FSl w vb m) (hlm : l.length = m.length) (hf : l.all finB = true) (hf2 : m.all finB = true) (hT : Tab64 w) (hTs : 1 < w.heap.size) :
    Calls Tryz.prog 31 #[va, vb] w (DyNew (hvZ (foldS (dts l m)).1) (nrE (foldS (dts l m)).1 (foldS (dts l m)).2) w) := by
  have HS := Lib.hid hl
  have HS2 := Lib.hid hm
  obtain ⟨ao, cap, rfl, hcap, hn, hx, hc⟩ := hl
  obtain ⟨ao2, cap2, rfl, hcap2, hn2, hx2, hc2⟩ := hm
  have HD : Hid (∀ k, k < l.length → DotAt w ao ao2 (dts l m) k) := Lib.hid fun k hk => dot_at HS.out HS2.out hlm hf hf2 hk
  have HF := Lib.hid hf
  have HF2 := Lib.hid hf2
  have HT := Lib.hid (And.intro hT hTs)
  have HK := Lib.hid (dts_small hlm hn hf hf2)
  have HTk : Hid ((dts l m).take l.length = dts l m) := Lib.hid (by rw [← dts_length hlm]; exact List.take_length)
  rw [← hlm] at HS2 hcap2 ⊢
  clear hc hx hf hc2 hx2 hf2 hT hTs hn2 hlm
  have hne : ((l.length : Int) != (l.length : Int)) = false := by simp
  generalize dts l m = P at *
  have HW0 := Lib.hid (BlkT.new w #[.bool false, .slice none 0 0, .int .i64 0] 50)
  go_enter Tryz.func31, Tryz.ntmps31
  go_wp2_with fail
  refine (Finite_any _ l _ (HS.out.below (below1 w _))).mono ?_
  rintro e1 w0 ⟨rfl, hb0⟩
  rw [HF.out]
  have HB0 := Lib.hid ((below1 w _).trans (hb0.mono (below1 w _).size))
  have HW1 := Lib.hid (HW0.out.below hb0)
  clear hb0 HW0
  go_wp2_with fail
  refine (Finite_any _ m _ (HS2.out.below HB0.out)).mono ?_
  rintro e1 w1 ⟨rfl, hb1⟩
  rw [HF2.out]
  have HA0 := Lib.hid (AccRel.start (HW1.out.below hb1) (HB0.out.trans (hb1.mono HB0.out.size)))
  clear HW1 hb1 HB0 HF HF2 HS HS2 hne
  go_wp2_with fail
  go_loopw [28] (fun i wr => ∃ (k : Nat) (p : Nat), k ≤ l.length ∧ i = .int .i64 k ∧ Hid (AccRel w wr (w1.heap.size + 1) (foldS (P.take k)).1 (foldS (P.take k)).2 p)) (fun i _ => l.length - (intOf i).toNat)
  case atStart => exact ⟨0, w1.heap.size, Nat.zero_le _, rfl, HA0⟩
  case round =>
    obtain ⟨k, p, hk, rfl, HR⟩ := hrel
    have HKk := Lib.hid (HK.out k hk)
    by_cases hlt : k < l.length
    · obtain ⟨b, off, b2, off2, x, y, rfl, rfl, hb, hb2, hcc, hcc2, hx, hy, fx, fy, hg⟩ := HD.out k hlt
      have hck := (HR.out.below.cell (p := ⟨b, off + k, none⟩) hb).trans hcc
      have HCk : Hid (∀ W, Below w.heap.size w W → W.cell? ⟨b2, off2 + k, none⟩ = some (.float .f64 y)) := Lib.hid fun W hW => (hW.cell (p := ⟨b2, off2 + k, none⟩) hb2).trans hcc2
      have HOF := Lib.hid fun W hW => dof_any x W hx fx hW
      have HOF2 := Lib.hid fun W hW => dof_any y W hy fy hW
      have HB5 := Lib.hid (And.intro (pE_bd fx) (pE_bd fy))
      have HB6 : Hid (bl (valZ x).natAbs ≤ 53 ∧ bl (valZ y).natAbs ≤ 53) := Lib.hid ⟨val_bl, val_bl⟩
      have HGk := Lib.hid hg
      clear hcc hcc2 hx hy fx fy hg hb hb2
      generalize hs1 : foldS (P.take (k + 1)) = s1 at *
      have HS1 := Lib.hid hs1
      clear hs1
      generalize foldS (P.take k) = s0 at *
      generalize valZ x = y1 at *
      generalize pE x = f1 at *
      generalize valZ y = y2 at *
      generalize pE y = f2 at *
      obtain ⟨z, e⟩ := s0
      obtain ⟨z1, g⟩ := s1
      simp only at HR HGk HKk
      obtain ⟨r0, r1, r2, r3⟩ := HR.out.box.cells2
      have HEq : Hid (plZ z e (y1 * y2) (f1 + f2) = z1 ∧ plE z e (y1 * y2) (f1 + f2) = g) := Lib.hid (by have := HGk.out; simp only [Prod.mk.injEq] at this; exact ⟨this.1.symm, this.2.symm⟩)
      go_wp2
      refine wp_region_pl (fun w' : World => (w'.cell? ⟨w1.heap.size + 1, 0, none⟩ = some (.pointer (some ⟨p, 0, none⟩)) ∧ w'.cell? ⟨w1.heap.size + 1, 1, none⟩ = some (.int .i64 e)) ∧ w'.cell? ⟨b2, off2 + k, none⟩ = some (.float .f64 y)) 10 (.take 0 (.take 1 (.take 3 (.take 4 (.take 5 (.take 6 (.run 2 (.run 7 (.run 8 (.run 9 .nil)))))))))) (by kernel_rfl) (by kernel_rfl) ?_
      have HR2 := Lib.hid (HR.out.later (drew_below _))
      clear r0 r1 r2 r3 hck HR
      generalize wr.drew = V at HR2 ⊢
      have hS : (fun w' : World => (w'.cell? ⟨w1.heap.size + 1, 0, none⟩ = some (.pointer (some ⟨p, 0, none⟩)) ∧ w'.cell? ⟨w1.heap.size + 1, 1, none⟩ = some (.int .i64 e)) ∧ w'.cell? ⟨b2, off2 + k, none⟩ = some (.float .f64 y)) V := ⟨⟨HR2.out.box.cell 0, HR2.out.box.cell 1⟩, HCk.out _ HR2.out.below⟩
      repeat (refine wpPl_take (v := ?_) rfl (fun _ _ _ h => h) rfl (fun w' hSw => ?_) hS ?_; rotate_left; focus (go_simp; with_reducible rfl); try simp only [Act.put, List.setIfInBounds_toArray, List.set_cons_zero, List.set_cons_succ])
      refine wpPl_run rfl fun K' hK => ?_
      go_simp
      refine (HOF.out _ (HT.out.1.below HT.out.2 HR2.out.below) (Nat.lt_of_lt_of_le HT.out.2 HR2.out.below.size)).mono ?_
      rintro e3 w3 ⟨q, rfl, hq, hi3, hb3⟩
      have HR3 := Lib.hid (HR2.out.later hb3)
      have HI3 := Lib.hid hi3
      have hS : (fun w' : World => (w'.cell? ⟨w1.heap.size + 1, 0, none⟩ = some (.pointer (some ⟨p, 0, none⟩)) ∧ w'.cell? ⟨w1.heap.size + 1, 1, none⟩ = some (.int .i64 e)) ∧ w'.cell? ⟨b2, off2 + k, none⟩ = some (.float .f64 y)) w3 := ⟨⟨HR3.out.box.cell 0, HR3.out.box.cell 1⟩, HCk.out _ HR3.out.below⟩
      refine hK _ _ hS ?_
      clear hK K' hq hi3 hb3 HR2 hS
      refine wpPl_run rfl fun K' hK => ?_
      unfold ExV at *
      go_simp
      refine (HOF2.out _ (HT.out.1.below HT.out.2 HR3.out.below) (Nat.lt_of_lt_of_le HT.out.2 HR3.out.below.size)).mono ?_
      rintro e4 w4 ⟨q2, rfl, hq, hi4, hb4⟩
      have HR4 := Lib.hid (HR3.out.later hb4)
      have HI4 := Lib.hid (And.intro (HI3.out.below hb4) hi4)
      have hS : (fun w' : World => (w'.cell? ⟨w1.heap.size + 1, 0, none⟩ = some (.pointer (some ⟨p, 0, none⟩)) ∧ w'.cell? ⟨w1.heap.size + 1, 1, none⟩ = some (.int .i64 e)) ∧ w'.cell? ⟨b2, off2 + k, none⟩ = some (.float .f64 y)) w4 := ⟨⟨HR4.out.box.cell 0, HR4.out.box.cell 1⟩, HCk.out _ HR4.out.below⟩
      refine hK _ _ hS ?_
      clear hK K' hq hi4 hb4 HR3 HI3 hS
      refine wpPl_run rfl fun K' hK => ?_
      unfold ExV at *
      go_simp
      refine (dytimes_any q q2 y1 f1 y2 f2 _ HI4.out.1 HI4.out.2 (by have := HB6.out.1; omega) (by have := HB6.out.2; omega) (by have := HB5.out; omega) (by have := HB5.out; omega) (by have := HB5.out; omega) (by have := HB5.out; omega)).mono ?_
      rintro e5 w5 ⟨q3, rfl, hq, hi5, hb5⟩
      have HR5 := Lib.hid (HR4.out.later hb5)
      have HI5 := Lib.hid hi5
      have HB7 : Hid (bl (y1 * y2).natAbs ≤ 106) := Lib.hid (by rw [Int.natAbs_mul]; have := bl_mul y1.natAbs y2.natAbs; have := HB6.out; omega)
      have hS : (fun w' : World => (w'.cell? ⟨w1.heap.size + 1, 0, none⟩ = some (.pointer (some ⟨p, 0, none⟩)) ∧ w'.cell? ⟨w1.heap.size + 1, 1, none⟩ = some (.int .i64 e)) ∧ w'.cell? ⟨b2, off2 + k, none⟩ = some (.float .f64 y)) w5 := ⟨⟨HR5.out.box.cell 0, HR5.out.box.cell 1⟩, HCk.out _ HR5.out.below⟩
      refine hK _ _ hS ?_
      clear hK K' hq hi5 hb5 HR4 HI4 hS
      refine wpPl_run rfl fun K' hK => ?_
      unfold ExV at *
      go_simp
      refine (dyplus_any p q3 z e (y1 * y2) (f1 + f2) _ HR5.out.num HI5.out (by have := HKk.out.2.2; omega) (by have := HB7.out; omega) (by have := HKk.out.1; omega) (by have := HKk.out.2.1; omega) (by have := HB5.out; omega) (by have := HB5.out; omega)).mono ?_
      rintro e6 w6 ⟨p2, rfl, hi6, hb6⟩
      rw [HEq.out.1] at hi6
      rw [HEq.out.2]
      have HR6 := Lib.hid (HR5.out.later hb6)
      have HI6 := Lib.hid hi6
      have hS : (fun w' : World => (w'.cell? ⟨w1.heap.size + 1, 0, none⟩ = some (.pointer (some ⟨p, 0, none⟩)) ∧ w'.cell? ⟨w1.heap.size + 1, 1, none⟩ = some (.int .i64 e)) ∧ w'.cell? ⟨b2, off2 + k, none⟩ = some (.float .f64 y)) w6 := ⟨⟨HR6.out.box.cell 0, HR6.out.box.cell 1⟩, HCk.out _ HR6.out.below⟩
      refine hK _ _ hS ?_
      clear hK K' hi6 hb6 HR5 HI5 hS
      refine wpPl_nil ?_
      simp only [List.drop_succ_cons, List.drop_zero]
      obtain ⟨r0, r1, r2, r3⟩ := HR6.out.box.cells2
      unfold ExV at *
      go_wp2
      go_roundw
      case rel => exact ⟨k + 1, p2, by omega, by go_num, Lib.hid (by rw [HS1.out]; exact HR6.out.put HI6.out)⟩
      case measure => simp [intOf]; omega
    · obtain rfl : k = l.length := by omega
      rw [HTk.out] at HR HKk
      clear HK HTk HD
      generalize foldS P = s0 at *
      obtain ⟨z, e⟩ := s0
      simp only at HR HKk ⊢
      obtain ⟨r0, r1, r2, r3⟩ := HR.out.box.cells2
      go_wp2_with fail
      refine (put_any p z e _ HR.out.num (by have := HKk.out.2.2; omega) (by have := HKk.out.1; omega) (by have := HKk.out.2.1; omega) (HT.out.1.below HT.out.2 HR.out.below) (Nat.lt_of_lt_of_le HT.out.2 HR.out.below.size) (.inr (lng_small (by have := HKk.out.1; omega) (by have := HKk.out.2; omega) (by have := HKk.out.2; omega)))).mono ?_
      rintro e7 W7 ⟨sl, rfl, hr7, ho7, hb7⟩
      have HW7 := Lib.hid (HR.out.res.below hb7)
      have HF7 := Lib.hid (fun x0 x1 x2 => dy_store HR.out.below hr7 ho7 hb7 HW7.out objT_dyad HR.out.res.lt (Nat.le_refl _) x0 x1 x2)
      obtain ⟨ao7, cs7, hsl, -⟩ := hr7
      unfold DyV at *
      rw [hsl] at HF7 ⊢
      clear ho7 hb7 hsl r0 r1 r2 r3
      obtain ⟨q0, q1, q2, q3, q4, q5⟩ := HW7.out.cells3
      generalize hvZ z = R at *
      generalize nrE z e = RE at *
      have HN : Hid (DyNew R RE w (.returned (.tuple #[DyV (decide (R < 0)) (.slice ao7 (ln 32 R.natAbs) cs7) RE, .int .i64 0])) (((W7.setCell ⟨w.heap.size, 0, none⟩ (.bool (decide (R < 0)))).setCell ⟨w.heap.size, 1, none⟩ (.slice ao7 (ln 32 R.natAbs) cs7)).setCell ⟨w.heap.size, 2, none⟩ (.int .i64 RE))) :=
        Lib.hid ⟨_, rfl, HF7.out _ _ _⟩
      clear HF7 HW7
      generalize hP : DyNew R RE w = PP at *
      clear hP
      unfold DyV at *
      generalize decide (R < 0) = nr at *
      generalize ln 32 R.natAbs = lr at *
      go_wp2
      refine bodyPost_ret (v := .tuple #[.agg #[.bool nr, .slice ao7 lr cs7, .int .i64 RE], .int .i64 0]) (by simp [results, Tryz.results31, go_sem, q0, q1, q2]) rfl HN.out

end Go.Proofs.YtphaikdbldfpaaaGreatDoor
end
