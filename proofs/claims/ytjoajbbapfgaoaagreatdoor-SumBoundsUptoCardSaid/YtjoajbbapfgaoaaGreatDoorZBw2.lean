/- Walk: SumBounds. Printed by wip/gen/bw2.py. -/
import Derived.Test.YtjoajbbapfgaoaaGreatDoorZBd4
import Derived.Test.YtjoajbbapfgaoaaGreatDoorZBw1
import Derived.Test.YtjoajbbapfgaoaaGreatDoorGX
import Derived.Test.YtjoajbbapfgaoaaGreatDoorZRk5
namespace Go.Proofs.YtjoajbbapfgaoaaGreatDoor
open Go.RowKit

theorem objT_off : ObjT 88 := by intro k; cases k <;> decide

theorem off_bd {l : List Nat} {way : Int} (hn : l.length ≤ 4096) (hf : l.all finB = true) (hw : finB (wayB way l) = true) :
    GoodD (hvZ (offZ way l)) (offG way l) ∧ bl (offX way l).natAbs ≤ 5000 ∧ -1074 ≤ offG way l ∧ offG way l ≤ 7000 := by
  have hs := prs_small (l := l) (by omega) hf l.length (Nat.le_refl _)
  rw [show (prs l).take l.length = prs l from List.take_of_length_le (by unfold prs; simp)] at hs
  have b1 := val_bl (b := wayB way l)
  have b2 := pE_bd hw
  have b3 := bl_plZ (z := valZ (wayB way l)) (e := pE (wayB way l)) (y := -(foldS (prs l)).1) (f := (foldS (prs l)).2)
  rw [Int.natAbs_neg] at b3
  have b4 : bl (offZ way l).natAbs ≤ 5000 := by unfold offZ; omega
  have b5 : -1074 ≤ offE way l ∧ offE way l ≤ 1100 := by unfold offE plE; constructor <;> (split; omega; split; omega; omega)
  have b6 := bl_hvZ (offZ way l)
  have b7 := hvE_bd (offZ way l) (offE way l)
  refine ⟨good_hv (by omega) (by omega) (by omega), ?_, ?_, ?_⟩
  · unfold offX; rw [Int.natAbs_natCast]; omega
  · unfold offG nrE; split <;> omega
  · unfold offG nrE; split <;> omega

/-- The array of what the ways are off: the first ones are laid. -/
def OffR (W : World) (b : Nat) (l : List Nat) (k : Nat) (cs : Array Value) : Prop :=
  BlkT W b 88 cs ∧ cs.size = 12 ∧ ∀ j, 1 ≤ j → j < k → ∃ q, b < q ∧ cs[j * 2]? = some (.pointer (some ⟨q, 0, none⟩)) ∧ cs[j * 2 + 1]? = some (.int .i64 (offG j l)) ∧ RInt W q (offX j l)
theorem OffR.below {W V : World} {b : Nat} {l : List Nat} {k : Nat} {cs : Array Value} (h : OffR W b l k cs) (hb : Below W.heap.size W V) : OffR V b l k cs :=
  ⟨h.1.below hb, h.2.1, fun j h1 h2 => by obtain ⟨q, h3, h4, h5, h6⟩ := h.2.2 j h1 h2; exact ⟨q, h3, h4, h5, h6.below hb⟩⟩
theorem OffR.put {W : World} {b q : Nat} {l : List Nat} {k : Nat} {cs : Array Value} (h : OffR W b l k cs) (hk : k ≤ 5) (hq : b < q) (hi : RInt W q (offX k l)) :
    ∃ cs', OffR ((W.setCell ⟨b, k * 2, none⟩ (.pointer (some ⟨q, 0, none⟩))).setCell ⟨b, k * 2 + 1, none⟩ (.int .i64 (offG k l))) b l (k + 1) cs' := by
  have keep : ∀ p z, b < p → RInt W p z → RInt ((W.setCell ⟨b, k * 2, none⟩ (.pointer (some ⟨q, 0, none⟩))).setCell ⟨b, k * 2 + 1, none⟩ (.int .i64 (offG k l))) p z := fun p z hp hz =>
    (hz.setOther h.1 objT_off (by omega) _).setOther (h.1.set (i := k * 2) _) objT_off (by omega) _
  refine ⟨(cs.setIfInBounds (k * 2) (.pointer (some ⟨q, 0, none⟩))).setIfInBounds (k * 2 + 1) (.int .i64 (offG k l)), (h.1.set (i := k * 2) _).set (i := k * 2 + 1) _, by simp [h.2.1], fun j h1 h2 => ?_⟩
  by_cases hj : j = k
  · subst hj
    refine ⟨q, hq, ?_, ?_, keep q _ hq hi⟩
    · rw [Array.getElem?_setIfInBounds_ne (by omega), Array.getElem?_setIfInBounds_self_of_lt (by rw [h.2.1]; omega)]
    · rw [Array.getElem?_setIfInBounds_self_of_lt (by simp [h.2.1]; omega)]
  · obtain ⟨p, g1, g2, g3, g4⟩ := h.2.2 j h1 (by omega)
    refine ⟨p, g1, ?_, ?_, keep p _ g1 g4⟩
    · rw [Array.getElem?_setIfInBounds_ne (by omega), Array.getElem?_setIfInBounds_ne (by omega)]; exact g2
    · rw [Array.getElem?_setIfInBounds_ne (by omega), Array.getElem?_setIfInBounds_ne (by omega)]; exact g3
theorem OffR.cells {W : World} {b : Nat} {l : List Nat} {k : Nat} {cs : Array Value} (h : OffR W b l k cs) (hk : k ≤ 5) : (∃ v, W.cell? ⟨b, k * 2, none⟩ = some v) ∧ (∃ v, W.cell? ⟨b, k * 2 + 1, none⟩ = some v) ∧ W.frozen? ⟨b, k * 2, none⟩ = false ∧ W.frozen? ⟨b, k * 2 + 1, none⟩ = false := by
  refine ⟨⟨cs[k * 2]'(by rw [h.2.1]; omega), ?_⟩, ⟨cs[k * 2 + 1]'(by rw [h.2.1]; omega), ?_⟩, h.1.frozen _, h.1.frozen _⟩
  · rw [h.1.cell]; exact Array.getElem?_eq_getElem _
  · rw [h.1.cell]; exact Array.getElem?_eq_getElem _

/-- One element of the array. -/
structure OffE (W : World) (b : Nat) (i : Nat) (q : Nat) (z e : Int) : Prop where
  c : W.cell? ⟨b, i, none⟩ = some (.pointer (some ⟨q, 0, none⟩))
  d : W.cell? ⟨b, i + 1, none⟩ = some (.int .i64 e)
  n : RInt W q z
  lt : b < W.heap.size
theorem OffE.below {W V : World} {b i q : Nat} {z e : Int} (h : OffE W b i q z e) (hb : Below W.heap.size W V) : OffE V b i q z e :=
  ⟨(hb.cell (p := ⟨b, i, none⟩) h.lt).trans h.c, (hb.cell (p := ⟨b, i + 1, none⟩) h.lt).trans h.d, h.n.below hb, Nat.lt_of_lt_of_le h.lt hb.size⟩
theorem OffR.elem {W : World} {b : Nat} {l : List Nat} {cs : Array Value} (h : OffR W b l 6 cs) (j : Nat) (h1 : 1 ≤ j) (h2 : j < 6) : ∃ q, OffE W b (j * 2) q (offX j l) (offG j l) := by
  obtain ⟨q, -, g2, g3, g4⟩ := h.2.2 j h1 h2
  exact ⟨q, by rw [h.1.cell]; exact g2, by rw [h.1.cell]; exact g3, g4, h.1.lt⟩


theorem law1 {l : List Nat} (hx : ∀ x ∈ l, x < 18446744073709551616) (hf : l.all finB = true) (hn : l.length ≤ 4096) (h1 : 0 < l.length) (hA : absL l < 9007199254740992 * unU) :
    (belP (offX 1 l) (offG 1 l) ((l.length - 1 : Nat) : Int) (foldS (mgs l)).1 (foldS (mgs l)).2).sign ≤ 0 := by
  obtain ⟨s, hs, -, hsf, hb⟩ := left_off hx hf hn h1 hA
  obtain ⟨a1, a2⟩ := off_x (way := 1) hf (way_fin hx hf hn h1 hA 1)
  obtain ⟨b1, b2⟩ := fold_abs hf
  have hw : wayB 1 l = s := by show cO (leftO l) = s; rw [hs]; exact canon_of_fin hsf
  rw [hw] at a2
  exact below_law a1 b1 a2 b2 (by omega) hb

theorem law2 {l : List Nat} (hx : ∀ x ∈ l, x < 18446744073709551616) (hf : l.all finB = true) (hn : l.length ≤ 4096) (h1 : 0 < l.length) (hA : absL l < 9007199254740992 * unU) (d : Nat) (hd : l.length ≤ 2 ^ d) (hd2 : d ≤ 64) :
    (belP (offX 2 l) (offG 2 l) (d : Int) (foldS (mgs l)).1 (foldS (mgs l)).2).sign ≤ 0 := by
  obtain ⟨-, hb⟩ := pairs_off l.length l d (Nat.le_refl _) h1 hd hd2 hx hf hA
  obtain ⟨a1, a2⟩ := off_x (way := 2) hf (way_fin hx hf hn h1 hA 2)
  obtain ⟨b1, b2⟩ := fold_abs hf
  exact below_law a1 b1 a2 b2 (by omega) hb

theorem law4 {l : List Nat} (hx : ∀ x ∈ l, x < 18446744073709551616) (hf : l.all finB = true) (hn : l.length ≤ 4096) (h1 : 0 < l.length) (hA : absL l < 9007199254740992 * unU) {m : Nat} (hm : l.length - 1 = m) :
    (plZ (plZ (offX 4 l) (offG 4 l) (-(((foldS (prs l)).1.natAbs : Int) * 1)) ((foldS (prs l)).2 + -53) * plZ 1 0 (-((m : Int) * 1)) (0 + -53) * plZ 1 0 (-((m : Int) * 1)) (0 + -53)) (plE (offX 4 l) (offG 4 l) (-(((foldS (prs l)).1.natAbs : Int) * 1)) ((foldS (prs l)).2 + -53) + plE 1 0 (-((m : Int) * 1)) (0 + -53) + plE 1 0 (-((m : Int) * 1)) (0 + -53))
      (-((m : Int) * 1 * ((m : Int) * 1) * (foldS (mgs l)).1)) (0 + -53 + (0 + -53) + (foldS (mgs l)).2)).sign ≤ 0 := by
  subst hm
  obtain ⟨r, hr, -, hrf, hb⟩ := neu_off hx hf hn h1 hA
  obtain ⟨a1, a2⟩ := off_x (way := 4) hf (way_fin hx hf hn h1 hA 4)
  obtain ⟨b1, b2⟩ := fold_abs hf
  obtain ⟨c1, c2⟩ := fold_sum hf
  have hw : wayB 4 l = r := by show cO (oA .add (neuF l).1 (neuF l).2) = r; rw [hr]; exact canon_of_fin hrf
  rw [hw] at a2
  exact neu_law a1 c1 b1 a2 (by rw [sc_natAbs, c2]; rfl) b2 (by omega) hb

theorem law5 {l : List Nat} (hx : ∀ x ∈ l, x < 18446744073709551616) (hf : l.all finB = true) (hn : l.length ≤ 4096) (h1 : 0 < l.length) (hA : absL l < 9007199254740992 * unU) :
    (plZ (offX 5 l) (offG 5 l) (-(plZ (((foldS (prs l)).1.natAbs : Int) * 1) ((foldS (prs l)).2 + -53) 1 (-1074))) (plE (((foldS (prs l)).1.natAbs : Int) * 1) ((foldS (prs l)).2 + -53) 1 (-1074))).sign ≤ 0 := by
  have hU := unU_pos
  obtain ⟨-, hb⟩ := exact_off hf (by
    have : (sumL l).natAbs ≤ absL l := sum_abs (nthI l) l.length
    generalize unU = U at *; omega)
  obtain ⟨a1, a2⟩ := off_x (way := 5) hf (way_fin hx hf hn h1 hA 5)
  obtain ⟨c1, c2⟩ := fold_sum hf
  have hw : wayB 5 l = exB l := by show (if 4096 < l.length then 0 else exB l) = exB l; rw [if_neg (by omega)]
  rw [hw] at a2
  exact exact_law a1 c1 a2 (by rw [sc_natAbs, c2]) hb

set_option maxRecDepth 100000 in
set_option maxHeartbeats 16000000 in
theorem sumBounds_any (v : Value) (l : List Nat) (w : World) (hl : USl w v l) (hT : Tab64 w) (hTs : 1 < w.heap.size) :
    Calls Tryz.prog 9 #[v] w (Gives (.bool true) w) := by
  have HTA : Hid (∀ W, Below w.heap.size w W → Tab64 W ∧ 1 < W.heap.size) := Lib.hid fun W hb => ⟨hT.below hTs hb, Nat.lt_of_lt_of_le hTs hb.size⟩
  have HL := Lib.hid hl
  have hx : ∀ x ∈ l, x < 18446744073709551616 := by obtain ⟨_, _, _, _, _, h, _⟩ := hl; exact h
  have HX := Lib.hid hx
  obtain ⟨ao, cap, rfl, -⟩ := hl
  clear hT hTs hx
  go_enter Tryz.func9, Tryz.ntmps9
  go_wp2_with fail
  refine (rOf64_any _ l _ HL.out).mono ?_
  rintro z1 w1 ⟨u, rfl, hfl, hb1⟩
  have HF := Lib.hid hfl
  have HB := Lib.hid hb1
  obtain ⟨fa, fc, rfl, -⟩ := hfl
  clear hb1 HL
  by_cases hlen : 600 < l.length
  · have hd : decide ((600 : Int) < (l.length : Int)) = true := by simp; omega
    clear hlen
    go_wp2_with fail
    refine (awake5_any _ (HTA.out _ HB.out).1 (HTA.out _ HB.out).2).mono ?_
    rintro z9 w9 ⟨rfl, hb9⟩
    have HBE := Lib.hid (HB.out.trans (hb9.mono HB.out.size))
    clear hb9
    go_wp2
    go_ret
    exact ⟨rfl, HBE.out⟩
  have hd : decide ((600 : Int) < (l.length : Int)) = false := by simp; omega
  by_cases h0 : l.length = 0
  · have hz : ((l.length : Int) == 0) = true := by rw [h0]; rfl
    clear h0 hlen
    go_wp2_with fail
    refine (awake5_any _ (HTA.out _ HB.out).1 (HTA.out _ HB.out).2).mono ?_
    rintro z9 w9 ⟨rfl, hb9⟩
    have HBE := Lib.hid (HB.out.trans (hb9.mono HB.out.size))
    clear hb9
    go_wp2
    go_ret
    exact ⟨rfl, HBE.out⟩
  have hz : ((l.length : Int) == 0) = false := by rw [beq_eq_false_iff_ne]; omega
  cases hall : l.all finB
  · go_wp2_with fail
    refine (rAllFinite_any _ l _ HF.out).mono ?_
    rintro z2 w2 ⟨rfl, hb2⟩
    rw [hall]
    replace HB := Lib.hid (HB.out.trans (hb2.mono HB.out.size))
    clear hb2 hall
    go_wp2_with fail
    refine (awake5_any _ (HTA.out _ HB.out).1 (HTA.out _ HB.out).2).mono ?_
    rintro z9 w9 ⟨rfl, hb9⟩
    have HBE := Lib.hid (HB.out.trans (hb9.mono HB.out.size))
    clear hb9
    go_wp2
    go_ret
    exact ⟨rfl, HBE.out⟩
  have HALL := Lib.hid hall
  have HLN := Lib.hid (And.intro hlen h0)
  have hms := mgs_small (l := l) (by omega) hall l.length (Nat.le_refl _)
  rw [show (mgs l).take l.length = mgs l from List.take_of_length_le (by unfold mgs; simp)] at hms
  have HMS := Lib.hid hms
  have KM := Lib.hid fun v W (h : FSl W v l) => rMags_any v l W h hall
  have HSMALL := Lib.hid (small_of hall)
  clear hall hlen h0 hms
  go_wp2_with fail
  refine (rAllFinite_any _ l _ HF.out).mono ?_
  rintro z2 w2 ⟨rfl, hb2⟩
  rw [HALL.out]
  replace HB := Lib.hid (HB.out.trans (hb2.mono HB.out.size))
  replace HF := Lib.hid (HF.out.below hb2)
  clear hb2
  go_wp2_with fail
  refine (KM.out _ _ HF.out).mono ?_
  rintro z3 w3 ⟨q5, rfl, hi3, hb3⟩
  obtain ⟨Y, hY⟩ : ∃ y, (foldS (mgs l)).1 = y := ⟨_, rfl⟩
  obtain ⟨f, hf⟩ : ∃ y, (foldS (mgs l)).2 = y := ⟨_, rfl⟩
  have HYF := Lib.hid (And.intro hY hf)
  rw [hY] at hi3
  rw [hf]
  rw [hY, hf] at HSMALL HMS
  have H5 : Hid (XB0 (w3.alloc (.cells #[.pointer (some ⟨q5, 0, none⟩), .int .i64 f] 34)) w3.heap.size q5 Y f) := Lib.hid (XB0.new hi3)
  replace HF := Lib.hid ((HF.out.below hb3).below (Below.alloc_self w3 (.cells #[.pointer (some ⟨q5, 0, none⟩), .int .i64 f] 34)))
  replace HB := Lib.hid ((HB.out.trans (hb3.mono HB.out.size)).trans ((Below.alloc_self w3 (.cells #[.pointer (some ⟨q5, 0, none⟩), .int .i64 f] 34)).mono (Nat.le_trans HB.out.size hb3.size)))
  clear hi3 hb3 KM hY hf
  have HCM := Lib.hid fun p q W (h1 : RInt W p Y) (h2 : RInt W q 1) => rCmpX_any p q Y f 1 1023 W h1 h2 (by have := HMS.out; omega) (by decide) (by have := HMS.out; omega) (by have := HMS.out; omega) (by decide) (by decide)
  obtain ⟨cg, hcg⟩ : ∃ c, (plZ Y f (-1) 1023).sign = c := ⟨_, rfl⟩
  rw [hcg] at HCM HSMALL
  clear hcg
  unfold ExV
  go_wp2
  generalize w3.alloc (.cells #[.pointer (some ⟨q5, 0, none⟩), .int .i64 f] 34) = W3 at H5 HF HB ⊢
  generalize w3.heap.size = b5 at H5 ⊢
  refine wp_region_pl (fun w' : World => w'.cell? ⟨b5, 0, none⟩ = some (.pointer (some ⟨q5, 0, none⟩)) ∧ w'.cell? ⟨b5, 1, none⟩ = some (.int .i64 f)) 2 (.take 0 (.run 1 .nil)) (by kernel_rfl) (by kernel_rfl) ?_
  replace H5 := Lib.hid (H5.out.below (drew_below _))
  replace HF := Lib.hid (HF.out.below (drew_below _))
  replace HB := Lib.hid (HB.out.trans ((drew_below _).mono HB.out.size))
  generalize World.drew _ = W4 at H5 HF HB ⊢
  have hS : (fun w' : World => w'.cell? ⟨b5, 0, none⟩ = some (.pointer (some ⟨q5, 0, none⟩)) ∧ w'.cell? ⟨b5, 1, none⟩ = some (.int .i64 f)) W4 := ⟨H5.out.1.cell 0, H5.out.1.cell 1⟩
  repeat (refine wpPl_takeL (v := ?_) rfl rfl (fun _ _ _ h => h) rfl (fun w' hSw => ?_) hS ?_; rotate_left; (focus (go_simp; with_reducible rfl)); simp only [List.setIfInBounds_toArray, List.set_cons_zero, List.set_cons_succ])
  clear hS
  refine wpPl_goL rfl rfl fun K' hK => ?_
  go_simp
  refine (rPower_any 1023 _).mono ?_
  rintro e1 V1 ⟨p6, rfl, -, hi, hb1⟩
  have HI6 := Lib.hid hi
  clear hi
  unfold ExV
  replace H5 := Lib.hid (H5.out.below hb1)
  replace HF := Lib.hid (HF.out.below hb1)
  replace HB := Lib.hid (HB.out.trans (hb1.mono HB.out.size))
  refine hK _ _ ⟨H5.out.1.cell 0, H5.out.1.cell 1⟩ ?_
  clear hK K' hb1
  refine wpPl_nil ?_
  simp only [List.drop_succ_cons, List.drop_zero]
  skip
  go_wp2_with fail
  refine (HCM.out _ _ _ H5.out.2 HI6.out).mono ?_
  rintro z7 w7 ⟨rfl, hb7⟩
  replace H5 := Lib.hid (H5.out.below hb7)
  replace HF := Lib.hid (HF.out.below hb7)
  replace HB := Lib.hid (HB.out.trans (hb7.mono HB.out.size))
  clear hb7 HI6 HCM
  by_cases hcg : 0 ≤ cg
  · have hd2 : decide (0 ≤ cg) = true := decide_eq_true hcg
    clear hcg HSMALL
    go_wp2_with fail
    refine (awake5_any _ (HTA.out _ HB.out).1 (HTA.out _ HB.out).2).mono ?_
    rintro z9 w9 ⟨rfl, hb9⟩
    have HBE := Lib.hid (HB.out.trans (hb9.mono HB.out.size))
    clear hb9
    go_wp2
    go_ret
    exact ⟨rfl, HBE.out⟩
  have hd2 : decide (0 ≤ cg) = false := decide_eq_false hcg
  have HA := Lib.hid (HSMALL.out (by omega))
  clear hcg HSMALL
  have HWF := Lib.hid (way_fin HX.out HALL.out (by have := HLN.out.1; omega) (by have := HLN.out.2; omega) HA.out)
  have HOB : Hid (∀ k : Nat, 1 ≤ k → k ≤ 5 → offBad (k : Int) l = 0) := Lib.hid fun k h1 h2 => offBad_ok (by omega) (by have := HLN.out.1; omega) HALL.out (HWF.out _)
  have HBD := Lib.hid fun way => off_bd (way := way) (by have := HLN.out.1; omega) HALL.out (HWF.out way)
  have HLW : Hid (∀ k : Nat, 1 ≤ k → k ≤ 5 → (Lit.int .i64 (k : Int)).wf = true) := Lib.hid fun k h1 h2 => by
    rcases (show k = 1 ∨ k = 2 ∨ k = 3 ∨ k = 4 ∨ k = 5 by omega) with rfl | rfl | rfl | rfl | rfl <;> decide
  have HAR : Hid (OffR (w7.alloc (.cells #[.pointer none, .int .i64 0, .pointer none, .int .i64 0, .pointer none, .int .i64 0, .pointer none, .int .i64 0, .pointer none, .int .i64 0, .pointer none, .int .i64 0] 88)) w7.heap.size l 1 #[.pointer none, .int .i64 0, .pointer none, .int .i64 0, .pointer none, .int .i64 0, .pointer none, .int .i64 0, .pointer none, .int .i64 0, .pointer none, .int .i64 0]) :=
    Lib.hid ⟨BlkT.new w7 _ _, rfl, fun j h1 h2 => by omega⟩
  have HB7 := Lib.hid (Below.alloc_self w7 (.cells #[.pointer none, .int .i64 0, .pointer none, .int .i64 0, .pointer none, .int .i64 0, .pointer none, .int .i64 0, .pointer none, .int .i64 0, .pointer none, .int .i64 0] 88))
  obtain ⟨b6, hb6⟩ : ∃ i, w7.heap.size = i := ⟨_, rfl⟩
  have HB6 := Lib.hid hb6
  have HTB : Hid (∀ W, Below b6 w7 W → Tab64 W ∧ 1 < W.heap.size) := Lib.hid fun W hb => HTA.out W (HB.out.trans (hb.mono (by rw [← hb6]; exact HB.out.size)))
  have HFB : Hid (∀ W, Below b6 w7 W → FSl W (.slice fa l.length fc) l) := Lib.hid fun W hb => HF.out.below (by rw [hb6]; exact hb)
  have HSZ : Hid (∀ W, Below b6 w7 W → b6 ≤ W.heap.size) := Lib.hid fun W hb => by rw [← hb6]; exact hb.size
  rw [hb6] at HAR HB7
  clear hb6
  go_wp2
  try rw [HB6.out]
  generalize w7.alloc (.cells #[.pointer none, .int .i64 0, .pointer none, .int .i64 0, .pointer none, .int .i64 0, .pointer none, .int .i64 0, .pointer none, .int .i64 0, .pointer none, .int .i64 0] 88) = W8 at HAR HB7 ⊢
  go_loopw [7] (fun i wr => ∃ (k : Nat) (cs : Array Value), 1 ≤ k ∧ k ≤ 6 ∧ i = .int .i64 k ∧ Hid (OffR wr b6 l k cs) ∧ Hid (Below b6 w7 wr)) (fun i _ => 6 - (intOf i).toNat)
  case atStart => exact ⟨1, _, by omega, by omega, rfl, HAR, HB7⟩
  case round =>
    clear HAR HB7
    obtain ⟨k, cs, hk1, hk6, rfl, HR, HW⟩ := hrel
    by_cases hlt : k ≤ 5
    · have HOF : Hid (∀ W, FSl W (.slice fa l.length fc) l → Tab64 W → 1 < W.heap.size → Calls Tryz.prog 71 #[.slice fa l.length fc, .int .i64 (k : Int)] W (OffOf 0 (offZ k l) (offE k l) W)) := Lib.hid fun W g1 g2 g3 => by
        have := off_any _ l (k : Int) W g1 (HLW.out k hk1 hlt) g2 g3
        rwa [HOB.out k hk1 hlt] at this
      have HGD := Lib.hid (HBD.out (k : Int)).1
      go_wp2_with fail
      refine (HOF.out _ (HFB.out _ HW.out) (HTB.out _ HW.out).1 (HTB.out _ HW.out).2).mono ?_
      rintro z8 w8 ⟨n8, a8, l8, c8, x8, rfl, hr8, hb8⟩
      have hd8 : DyAt w8 (.agg #[.bool n8, .slice a8 l8 c8, .int .i64 x8]) (hvZ (offZ k l)) (offG k l) := by
        rcases hr8 with ⟨-, ⟨-, h, -⟩ | ⟨-, -, -, h⟩⟩ | ⟨h, -, -⟩
        · exact h
        · cases h
        · exact absurd rfl h
      obtain ⟨sl, he, hraw⟩ := hd8
      simp only [DyV, Value.agg.injEq, Array.mk.injEq, List.cons.injEq, Value.bool.injEq, Value.int.injEq, true_and, and_true] at he
      obtain ⟨rfl, rfl, rfl⟩ := he
      have HMY : Hid (mayB (decide (hvZ (offZ k l) < 0)) (ln 32 (hvZ (offZ k l)).natAbs) (hvZ (offZ k l)).natAbs (offG k l) = true) := Lib.hid (may_good HGD.out)
      have HLE : Hid (ln 32 (hvZ (offZ k l)).natAbs ≤ 1073741824) := Lib.hid (Nat.le_trans (ln_le_bl 32 _ (by decide)) (Nat.le_trans HGD.out.2.1 (by decide)))
      have HIF : Hid ((if decide (hvZ (offZ k l) < 0) = true then -((hvZ (offZ k l)).natAbs : Int) else ((hvZ (offZ k l)).natAbs : Int)) = hvZ (offZ k l)) := Lib.hid (by
        by_cases h : hvZ (offZ k l) < 0
        · rw [decide_eq_true h, if_pos rfl]; omega
        · rw [decide_eq_false h, if_neg (by decide)]; omega)
      have HXD : Hid (((hvZ (offZ k l)).natAbs : Int) = offX k l) := Lib.hid rfl
      have HRW := Lib.hid (hraw.below (Below.alloc_self w8 (.cells #[.bool (decide (hvZ (offZ k l) < 0)), .slice a8 l8 c8, .int .i64 (offG k l)] 24)))
      have HBK : Hid (BlkT (w8.alloc (.cells #[.bool (decide (hvZ (offZ k l) < 0)), .slice a8 l8 c8, .int .i64 (offG k l)] 24)) w8.heap.size 24 #[.bool (decide (hvZ (offZ k l) < 0)), .slice a8 l8 c8, .int .i64 (offG k l)]) := Lib.hid (BlkT.new w8 _ _)
      replace HR := Lib.hid ((HR.out.below hb8).below (Below.alloc_self w8 (.cells #[.bool (decide (hvZ (offZ k l) < 0)), .slice a8 l8 c8, .int .i64 (offG k l)] 24)))
      replace HW := Lib.hid ((HW.out.trans (hb8.mono (HSZ.out _ HW.out))).trans ((Below.alloc_self w8 (.cells #[.bool (decide (hvZ (offZ k l) < 0)), .slice a8 l8 c8, .int .i64 (offG k l)] 24)).mono (Nat.le_trans (HSZ.out _ HW.out) hb8.size)))
      clear hr8 hb8 hraw HOF
      generalize hzz : hvZ (offZ k l) = zz at *
      generalize hgg : offG k l = gg at *
      generalize hxx : offX k l = xx at *
      have HXG := Lib.hid (And.intro hgg hxx)
      clear hzz hgg hxx
      obtain ⟨y0, y1, y2, y3, y4, y5⟩ := HBK.out.cells3
      obtain ⟨nn, hnn⟩ : ∃ b, decide (zz < 0) = b := ⟨_, rfl⟩
      rw [hnn] at HMY HIF HRW HBK HR HW y0 y1 y2 y3 y4 y5
      try rw [hnn]
      clear hnn
      go_wp2_with fail
      generalize w8.alloc (.cells #[.bool nn, .slice a8 l8 c8, .int .i64 gg] 24) = W9 at HRW HBK HR HW y0 y1 y2 y3 y4 y5 ⊢
      generalize w8.heap.size = b8 at HBK y0 y1 y2 y3 y4 y5 ⊢
      refine (rMay_any _ nn _ _ gg _ ⟨.slice a8 l8 c8, rfl, HRW.out, HLE.out⟩).mono ?_
      rintro z9 w9 ⟨rfl, hb9⟩
      rw [HMY.out]
      replace HRW := Lib.hid (HRW.out.below hb9)
      replace HBK := Lib.hid (HBK.out.below hb9)
      replace HR := Lib.hid (HR.out.below hb9)
      replace HW := Lib.hid (HW.out.trans (hb9.mono (HSZ.out _ HW.out)))
      clear hb9 y0 y1 y2 y3 y4 y5
      obtain ⟨y0, y1, y2, y3, y4, y5⟩ := HBK.out.cells3
      go_wp2_with fail
      refine (rIn_any nn gg (.slice a8 l8 c8) _ _ _ HRW.out HLE.out).mono ?_
      rintro z10 w10 ⟨pi, rfl, -, hi10, hb10⟩
      rw [HIF.out] at hi10
      have HI := Lib.hid hi10
      replace HR := Lib.hid (HR.out.below hb10)
      replace HW := Lib.hid (HW.out.trans (hb10.mono (HSZ.out _ HW.out)))
      clear hb10 hi10 HRW HBK y0 y1 y2 y3 y4 y5
      unfold ExV
      go_wp2_with fail
      refine (rAbsX_any _ _ _ _ HI.out).mono ?_
      rintro z11 w11 ⟨pa, rfl, hpa, hi11, hb11⟩
      rw [HXD.out] at hi11
      have HQ : Hid (b6 < pa) := Lib.hid (Nat.lt_of_lt_of_le HR.out.1.lt hpa)
      replace HR := Lib.hid (HR.out.below hb11)
      replace HW := Lib.hid (HW.out.trans (hb11.mono (HSZ.out _ HW.out)))
      have HPUT : Hid (∃ cs', OffR ((w11.setCell ⟨b6, k * 2, none⟩ (.pointer (some ⟨pa, 0, none⟩))).setCell ⟨b6, k * 2 + 1, none⟩ (.int .i64 gg)) b6 l (k + 1) cs') := Lib.hid (by
        have := HR.out.put hlt HQ.out (by rw [HXG.out.2]; exact hi11)
        rwa [HXG.out.1] at this)
      have HWP : Hid (Below b6 w7 ((w11.setCell ⟨b6, k * 2, none⟩ (.pointer (some ⟨pa, 0, none⟩))).setCell ⟨b6, k * 2 + 1, none⟩ (.int .i64 gg))) := Lib.hid ((HW.out.setCell (Nat.le_refl _) _).setCell (Nat.le_refl _) _)
      obtain ⟨⟨v0, c0⟩, ⟨v1, c1⟩, c2, c3⟩ := HR.out.cells hlt
      have g1 : (0 : Int) ≤ (k : Int) := by omega
      have g2 : (k : Int) < 6 := by omega
      clear hi11 hb11 hpa HI
      unfold ExV
      go_wp2
      go_roundw
      case rel =>
        obtain ⟨cs', hcs⟩ := HPUT.out
        exact ⟨k + 1, cs', by omega, by omega, by go_num, Lib.hid hcs, HWP⟩
      case measure => simp [intOf]; omega
    · obtain rfl : k = 6 := by omega
      obtain ⟨wo, rfl⟩ : ∃ wo : World, wo = wr := ⟨_, rfl⟩
      obtain ⟨q1, he1⟩ := HR.out.elem 1 (by omega) (by omega)
      obtain ⟨q2, he2⟩ := HR.out.elem 2 (by omega) (by omega)
      obtain ⟨q4, he4⟩ := HR.out.elem 4 (by omega) (by omega)
      obtain ⟨q5', he5⟩ := HR.out.elem 5 (by omega) (by omega)
      have HE1 : Hid (OffE wo b6 2 q1 (offX 1 l) (offG 1 l)) := Lib.hid he1
      have HE2 : Hid (OffE wo b6 4 q2 (offX 2 l) (offG 2 l)) := Lib.hid he2
      have HE4 : Hid (OffE wo b6 8 q4 (offX 4 l) (offG 4 l)) := Lib.hid he4
      have HE5 : Hid (OffE wo b6 10 q5' (offX 5 l) (offG 5 l)) := Lib.hid he5
      clear he1 he2 he4 he5 HR hlt
      obtain ⟨m, hm⟩ : ∃ m, l.length = m + 1 := ⟨l.length - 1, by have := HLN.out.2; omega⟩
      have HL1 := Lib.hid (law1 HX.out HALL.out (by have := HLN.out.1; omega) (by have := HLN.out.2; omega) HA.out)
      have HL2 := Lib.hid (law2 HX.out HALL.out (by have := HLN.out.1; omega) (by have := HLN.out.2; omega) HA.out)
      have HL4 := Lib.hid (law4 HX.out HALL.out (by have := HLN.out.1; omega) (by have := HLN.out.2; omega) HA.out (m := m) (by omega))
      have HL5 := Lib.hid (law5 HX.out HALL.out (by have := HLN.out.1; omega) (by have := HLN.out.2; omega) HA.out)
      rw [show l.length - 1 = m by omega] at HL1
      rw [HYF.out.1, HYF.out.2] at HL1 HL2 HL4
      have hsb := prs_small (l := l) (by have := HLN.out.1; omega) HALL.out l.length (Nat.le_refl _)
      rw [show (prs l).take l.length = prs l from List.take_of_length_le (by unfold prs; simp)] at hsb
      have KS := Lib.hid fun v W (h : FSl W v l) => rSum_any v l W h HALL.out
      have hm6 : m ≤ 600 := by have := HLN.out.1; omega
      have hbm : bl ((m : Int)).natAbs ≤ 10 := bl_le_of_lt (by omega)
      have hx4 := (HBD.out 4).2
      have hx1 := (HBD.out 1).2
      have hx2 := (HBD.out 2).2
      have hx5 := (HBD.out 5).2
      have hyf := HMS.out
      generalize (foldS (prs l)).2 = Es at *
      generalize (foldS (prs l)).1 = Ss at *
      obtain ⟨Sa, hSa⟩ : ∃ z : Int, ((Ss.natAbs : Nat) : Int) = z := ⟨_, rfl⟩
      have hba : bl Sa.natAbs ≤ 2139 := by rw [← hSa, Int.natAbs_natCast]; omega
      have KA := Lib.hid fun b W (h : RInt W b Ss) => rAbsX_any b Ss Es W h
      rw [hSa] at HL4 HL5 KA
      have K1 := Lib.hid fun p q W (h1 : RInt W p Sa) (h2 : RInt W q 1) => rMulX_any p q Sa Es 1 (-53) W h1 h2 (by omega) (by decide) (by omega) (by omega) (by decide) (by decide)
      have K2 := Lib.hid fun p q W (h1 : RInt W p (m : Int)) (h2 : RInt W q 1) => rMulX_any p q (m : Int) 0 1 (-53) W h1 h2 (by omega) (by decide) (by decide) (by decide) (by decide) (by decide)
      have eon : bl (Sa * 1).natAbs ≤ 2139 := by rw [Int.mul_one]; exact hba
      have eom : bl ((m : Int) * 1).natAbs ≤ 10 := by rw [Int.mul_one]; exact hbm
      obtain ⟨on1, hon⟩ : ∃ z, Sa * 1 = z := ⟨_, rfl⟩
      obtain ⟨eo, heo⟩ : ∃ z, Es + -53 = z := ⟨_, rfl⟩
      obtain ⟨m1, hm1⟩ : ∃ z, (m : Int) * 1 = z := ⟨_, rfl⟩
      obtain ⟨em, hem⟩ : ∃ z, (0 : Int) + -53 = z := ⟨_, rfl⟩
      rw [hon, heo] at K1 HL4 HL5
      rw [hm1, hem] at K2 HL4
      rw [hon] at eon
      rw [hm1] at eom
      have hem2 : em = -53 := by omega
      have heo2 : -1200 ≤ eo ∧ eo ≤ 1023 := by omega
      clear hon heo hm1 hem hSa hba hbm
      have K3 := Lib.hid fun p q W (h1 : RInt W p 1) (h2 : RInt W q (-m1)) => rAddX_any p q 1 0 (-m1) em W h1 h2 (by decide) (by rw [Int.natAbs_neg]; omega) (by decide) (by decide) (by omega) (by omega)
      have c1 := bl_plZ (z := 1) (e := 0) (y := -m1) (f := em)
      rw [Int.natAbs_neg, show bl (1 : Int).natAbs = 1 by decide] at c1
      have c2 := plE_bd (z := 1) (e := 0) (y := -m1) (f := em) (by omega) (by omega) (by omega) (by omega)
      have K4 := Lib.hid fun p q W (h1 : RInt W p (offX 4 l)) (h2 : RInt W q (-on1)) => rAddX_any p q (offX 4 l) (offG 4 l) (-on1) eo W h1 h2 (by omega) (by rw [Int.natAbs_neg]; omega) (by omega) (by omega) (by omega) (by omega)
      have c3 := bl_plZ (z := offX 4 l) (e := offG 4 l) (y := -on1) (f := eo)
      rw [Int.natAbs_neg] at c3
      have c4 := plE_bd (z := offX 4 l) (e := offG 4 l) (y := -on1) (f := eo) (by omega) (by omega) (by omega) (by omega)
      generalize plZ 1 0 (-m1) em = po at *
      generalize plE 1 0 (-m1) em = ep at *
      generalize plZ (offX 4 l) (offG 4 l) (-on1) eo = rr at *
      generalize plE (offX 4 l) (offG 4 l) (-on1) eo = er at *
      have K5 := Lib.hid fun p q W (h1 : RInt W p rr) (h2 : RInt W q po) => rMulX_any p q rr er po ep W h1 h2 (by omega) (by omega) (by omega) (by omega) (by omega) (by omega)
      have c5 := bl_mul rr.natAbs po.natAbs
      rw [← Int.natAbs_mul] at c5
      have K7 := Lib.hid fun p q W (h1 : RInt W p m1) (h2 : RInt W q m1) => rMulX_any p q m1 em m1 em W h1 h2 (by omega) (by omega) (by omega) (by omega) (by omega) (by omega)
      have c6 := bl_mul m1.natAbs m1.natAbs
      rw [← Int.natAbs_mul] at c6
      obtain ⟨r1, hr1⟩ : ∃ z, rr * po = z := ⟨_, rfl⟩
      obtain ⟨er1, her1⟩ : ∃ z, er + ep = z := ⟨_, rfl⟩
      obtain ⟨mm, hmm⟩ : ∃ z, m1 * m1 = z := ⟨_, rfl⟩
      obtain ⟨emm, hemm⟩ : ∃ z, em + em = z := ⟨_, rfl⟩
      rw [hr1, her1] at K5
      rw [hr1] at c5
      rw [hmm, hemm] at K7
      rw [hmm] at c6
      rw [hr1, her1, hmm, hemm] at HL4
      have her1' : -200000 ≤ er1 ∧ er1 ≤ 200000 := by omega
      have hemm' : emm = -106 := by omega
      have K6 := Lib.hid fun p q W (h1 : RInt W p r1) (h2 : RInt W q po) => rMulX_any p q r1 er1 po ep W h1 h2 (by omega) (by omega) (by omega) (by omega) (by omega) (by omega)
      have c7 := bl_mul r1.natAbs po.natAbs
      rw [← Int.natAbs_mul] at c7
      have K8 := Lib.hid fun p q W (h1 : RInt W p mm) (h2 : RInt W q Y) => rMulX_any p q mm emm Y f W h1 h2 (by omega) (by omega) (by omega) (by omega) (by omega) (by omega)
      have c8 := bl_mul mm.natAbs Y.natAbs
      rw [← Int.natAbs_mul] at c8
      obtain ⟨r2, hr2⟩ : ∃ z, r1 * po = z := ⟨_, rfl⟩
      obtain ⟨er2, her2⟩ : ∃ z, er1 + ep = z := ⟨_, rfl⟩
      obtain ⟨my, hmy⟩ : ∃ z, mm * Y = z := ⟨_, rfl⟩
      obtain ⟨emy, hemy⟩ : ∃ z, emm + f = z := ⟨_, rfl⟩
      rw [hr2, her2] at K6
      rw [hr2] at c7
      rw [hmy, hemy] at K8
      rw [hmy] at c8
      rw [hr2, her2, hmy, hemy] at HL4
      have K9 := Lib.hid fun p q W (h1 : RInt W p r2) (h2 : RInt W q my) => rCmpX_any p q r2 er2 my emy W h1 h2 (by omega) (by omega) (by omega) (by omega) (by omega) (by omega)
      obtain ⟨g4, hg4⟩ : ∃ z, (plZ r2 er2 (-my) emy).sign = z := ⟨_, rfl⟩
      rw [hg4] at K9 HL4
      have KB1 := Lib.hid fun p q W (h1 : RInt W p (offX 1 l)) (h2 : RInt W q Y) => below_any p q (offX 1 l) (offG 1 l) (m : Int) Y f W h1 h2 (by omega) (by omega) (by omega) (by omega) (by omega)
      rw [decide_eq_true HL1.out] at KB1
      have KB2 : Hid (∀ h : Nat, l.length ≤ 2 ^ h → h ≤ 10 → ∀ p q W, RInt W p (offX 2 l) → RInt W q Y → Calls Tryz.prog 73 #[ExV p (offG 2 l), .int .i64 (h : Int), ExV q f] W (Gives (.bool true) W)) := Lib.hid fun h hh h10 p q W h1 h2 => by
        have := below_any p q (offX 2 l) (offG 2 l) (h : Int) Y f W h1 h2 (by omega) (by omega) (by omega) (by omega) (by omega)
        rwa [decide_eq_true (HL2.out h hh (by omega))] at this
      have KC := Lib.hid fun p q W (h1 : RInt W p on1) (h2 : RInt W q 1) => rAddX_any p q on1 eo 1 (-1074) W h1 h2 (by omega) (by decide) (by omega) (by omega) (by decide) (by decide)
      have c9 := bl_plZ (z := on1) (e := eo) (y := 1) (f := -1074)
      rw [show bl (1 : Int).natAbs = 1 by decide] at c9
      have c10 := plE_bd (z := on1) (e := eo) (y := 1) (f := -1074) (by omega) (by omega) (by omega) (by omega)
      generalize plZ on1 eo 1 (-1074) = z5 at *
      generalize plE on1 eo 1 (-1074) = e5 at *
      have KD := Lib.hid fun p q W (h1 : RInt W p (offX 5 l)) (h2 : RInt W q z5) => rCmpX_any p q (offX 5 l) (offG 5 l) z5 e5 W h1 h2 (by omega) (by omega) (by omega) (by omega) (by omega) (by omega)
      obtain ⟨g5, hg5⟩ : ∃ z, (plZ (offX 5 l) (offG 5 l) (-z5) e5).sign = z := ⟨_, rfl⟩
      rw [hg5] at KD HL5
      have hg4n : decide (0 < g4) = false := decide_eq_false (by have := HL4.out; omega)
      have hg5n : decide (g5 ≤ 0) = true := decide_eq_true HL5.out
      have hmw : IntKind.i64.wrap ((l.length : Int) - 1) = (m : Int) := by rw [hm, IntWalk.i64_in _ (by omega)]; omega
      clear c1 c2 c3 c4 c5 c6 c7 c8 c9 c10 hr1 her1 hmm hemm hr2 her2 hmy hemy hg4 hg5 her1' hemm' hem2 heo2 eon eom hsb hx1 hx2 hx4 hx5 hyf HL1 HL2 HL4 HL5 HBD HWF HOB HLW HMS HYF
      have HM := Lib.hid hm
      clear hm
      generalize offX 1 l = X1 at *
      generalize offX 2 l = X2 at *
      generalize offX 4 l = X4 at *
      generalize offX 5 l = X5 at *
      generalize offG 1 l = G1 at *
      generalize offG 2 l = G2 at *
      generalize offG 4 l = G4 at *
      generalize offG 5 l = G5 at *
      go_wp2
      go_loop [10] (fun i => ∃ h : Nat, h ≤ 10 ∧ i = .int .i64 h) (fun i => 10 - (intOf i).toNat)
      case atStart => exact ⟨0, by omega, rfl⟩
      case round =>
        obtain ⟨h, hh10, rfl⟩ := hrel
        have hs1 : (0 : Int) ≤ (h : Int) := by omega
        have hs2 : (h : Int) ≤ 64 := by omega
        have hp10 : 2 ^ h ≤ 2 ^ 10 := Nat.pow_le_pow_right (by decide) hh10
        obtain ⟨P, hP⟩ : ∃ P : Nat, 2 ^ h = P := ⟨_, rfl⟩
        have hpi : (2 : Int) ^ h = (P : Int) := by rw [← hP, Int.natCast_pow]; rfl
        rw [hP] at hp10
        have hpb : (P : Int) ≤ 1024 := by omega
        have hpz : (0 : Int) ≤ (P : Int) := by omega
        by_cases hlt2 : P < l.length
        · have hdn : decide (P < l.length) = true := by simp; omega
          have h9 : h + 1 ≤ 10 := by
            rcases Nat.lt_or_ge h 10 with h9 | h9
            · exact h9
            · obtain rfl : h = 10 := by omega
              have := HLN.out.1
              simp at hP; omega
          clear hlt2 hp10 hP
          go_wp2
          go_round
          case rel => exact ⟨h + 1, h9, by go_num⟩
          case measure => simp [intOf]; omega
        · have hdn : decide (P < l.length) = false := by simp; omega
          have KB3 := Lib.hid (KB2.out h (by omega) hh10)
          clear hlt2 hp10 hP KB2
          go_wp2_with fail
          refine (rPower_any (-53) _).mono ?_
          rintro z12 w12 ⟨q11, rfl, -, hi12, hb12⟩
          have HY : Hid (Below w7.heap.size w7 (w12.alloc (.cells #[.pointer (some ⟨q11, 0, none⟩), .int .i64 (-53)] 34))) := Lib.hid (by
            have h1 := HW.out
            rw [← HB6.out] at h1
            exact (h1.trans (hb12.mono h1.size)).trans ((Below.alloc_self _ _).mono (Nat.le_trans h1.size hb12.size)))
          have H11 : Hid (XB0 (w12.alloc (.cells #[.pointer (some ⟨q11, 0, none⟩), .int .i64 (-53)] 34)) w12.heap.size q11 1 (-53)) := Lib.hid (XB0.new hi12)
          replace HE1 := Lib.hid ((HE1.out.below hb12).below (Below.alloc_self w12 (.cells #[.pointer (some ⟨q11, 0, none⟩), .int .i64 (-53)] 34)))
          replace HE2 := Lib.hid ((HE2.out.below hb12).below (Below.alloc_self w12 (.cells #[.pointer (some ⟨q11, 0, none⟩), .int .i64 (-53)] 34)))
          replace HE4 := Lib.hid ((HE4.out.below hb12).below (Below.alloc_self w12 (.cells #[.pointer (some ⟨q11, 0, none⟩), .int .i64 (-53)] 34)))
          replace HE5 := Lib.hid ((HE5.out.below hb12).below (Below.alloc_self w12 (.cells #[.pointer (some ⟨q11, 0, none⟩), .int .i64 (-53)] 34)))
          have HFY : Hid (∀ W, Below w7.heap.size w7 W → FSl W (.slice fa l.length fc) l) := Lib.hid fun W hb => HF.out.below hb
          have H5Y : Hid (∀ W, Below w7.heap.size w7 W → XB0 W b5 q5 Y f) := Lib.hid fun W hb => H5.out.below hb
          have HTY : Hid (∀ W, Below w7.heap.size w7 W → Tab64 W ∧ 1 < W.heap.size) := Lib.hid fun W hb => HTA.out W (HB.out.trans (hb.mono HB.out.size))
          have HWY : Hid (∀ W, Below w7.heap.size w7 W → Below w.heap.size w W) := Lib.hid fun W hb => HB.out.trans (hb.mono HB.out.size)
          have HM0 : Hid ((m : Int) ≤ 600 ∧ 0 ≤ (m : Int)) := Lib.hid ⟨by omega, by omega⟩
          clear hi12 hb12 HW HF H5 HTB HFB HSZ HB6 hpi hpb hpz hdn hs1 hs2 hm6 hk1 hk6
          unfold ExV
          go_wp2
          obtain ⟨W12, hW12⟩ : ∃ v, w12.alloc (.cells #[.pointer (some ⟨q11, 0, none⟩), .int .i64 (-53)] 34) = v := ⟨_, rfl⟩
          obtain ⟨b11, hb11⟩ : ∃ i, w12.heap.size = i := ⟨_, rfl⟩
          rw [hW12] at HY HE1 HE2 HE4 HE5
          rw [hW12, hb11] at H11
          rw [hW12]
          try rw [hb11]
          clear hW12 hb11
          refine wp_region_q (fun w' : World => w'.cell? ⟨b11, 0, none⟩ = some (.pointer (some ⟨q11, 0, none⟩)) ∧ w'.cell? ⟨b11, 1, none⟩ = some (.int .i64 (-53))) 6 (.take 0 (.take 3 (.bag [(1, 69, []), (2, 70, []), (4, 72, []), (5, 12, [])] .nil))) (by kernel_rfl) (by kernel_rfl) ?_
          replace HY := Lib.hid (HY.out.trans ((drew_below _).mono HY.out.size))
          replace HE1 := Lib.hid (HE1.out.below (drew_below _))
          replace HE2 := Lib.hid (HE2.out.below (drew_below _))
          replace HE4 := Lib.hid (HE4.out.below (drew_below _))
          replace HE5 := Lib.hid (HE5.out.below (drew_below _))
          replace H11 := Lib.hid (H11.out.below (drew_below _))
          generalize World.drew _ = W13 at HY HE1 HE2 HE4 HE5 H11 ⊢
          obtain ⟨B0, hB0⟩ : ∃ i, W13.heap.size = i := ⟨_, rfl⟩
          have HSZ : Hid (SzLe W13 B0) := Lib.hid (Nat.le_of_eq hB0.symm)
          have HB0' := Lib.hid hB0
          clear hB0
          have KHY := HY
          have KHE1 := HE1
          have KHE2 := HE2
          have KHE4 := HE4
          have KHE5 := HE5
          have KH11 := H11
          have hS : (fun w' : World => w'.cell? ⟨b11, 0, none⟩ = some (.pointer (some ⟨q11, 0, none⟩)) ∧ w'.cell? ⟨b11, 1, none⟩ = some (.int .i64 (-53))) W13 := ⟨H11.out.1.cell 0, H11.out.1.cell 1⟩
          repeat (refine wpPq_takeL (v := ?_) rfl rfl (fun _ _ _ h => h) rfl (fun w' hSw => ?_) hS ?_; rotate_left; (focus (go_simp; with_reducible rfl)); simp only [List.setIfInBounds_toArray, List.set_cons_zero, List.set_cons_succ])
          clear hS
          refine wpPq_bag (pick [(1, fun v w' => ∃ p, v = ExV p Es ∧ RInt w' p Ss), (2, fun v w' => ∃ p, v = ExV p Es ∧ RInt w' p Sa), (4, fun v w' => ∃ p, v = ExV p eo ∧ RInt w' p on1), (5, fun v w' => ∃ r, v = .pointer (some ⟨r, 0, none⟩) ∧ B0 ≤ r ∧ BlkT w' r 34 #[.pointer none, .int .i64 0])]) (pick_mono (bag_cons (fun v w1 w2 ⟨p1, hv1, hi1⟩ hb => ⟨p1, hv1, hi1.below hb⟩) (bag_cons (fun v w1 w2 ⟨p2, hv2, hi2⟩ hb => ⟨p2, hv2, hi2.below hb⟩) (bag_cons (fun v w1 w2 ⟨p4, hv4, hi4⟩ hb => ⟨p4, hv4, hi4.below hb⟩) (bag_cons (fun v w1 w2 ⟨r5, hv5, hl5, hB5⟩ hb => ⟨r5, hv5, hl5, hB5.below hb⟩) bag_nil))))) (fun w' hb => ⟨(H11.out.below hb).1.cell 0, (H11.out.below hb).1.cell 1⟩) (by simp [prE]) (fun _ _ _ _ _ h => h) (bag_cons (bag_one rfl ?_) (bag_cons (bag_one rfl ?_) (bag_cons (bag_one rfl ?_) (bag_cons (bag_one rfl ?_) bag_nil)))) bag_nil ?_
          · intro a' V hdf hin hdep hb1 K hK
            have i68 : a'.tmps[68]?.getD undef = .slice fa l.length fc := evT (hin 68 (by decide))
            clear hin hdep hdf
            have HY := Lib.hid (HY.out.trans (hb1.mono HY.out.size))
            have HE1 := Lib.hid (HE1.out.below hb1)
            have HE2 := Lib.hid (HE2.out.below hb1)
            have HE4 := Lib.hid (HE4.out.below hb1)
            have HE5 := Lib.hid (HE5.out.below hb1)
            have H11 := Lib.hid (H11.out.below hb1)
            have HSZ := Lib.hid (HSZ.out.below hb1)
            go_simp
            refine (KS.out _ _ (HFY.out _ HY.out)).mono ?_
            rintro e1 V2 ⟨p, rfl, hi, hb2⟩
            exact hK _ _ ⟨p, rfl, hi⟩ hb2
          · intro a' V hdf hin hdep hb1 K hK
            obtain ⟨p1, hv1, hi1⟩ : (fun (v : Value) (w' : World) => ∃ p, v = ExV p Es ∧ RInt w' p Ss) (a'.tmps.getD 69 undef) V := hdep ⟨1, .data⟩ (by simp) rfl 69 (by decide)
            replace hv1 := evT hv1
            clear hin hdep hdf
            have HY := Lib.hid (HY.out.trans (hb1.mono HY.out.size))
            have HE1 := Lib.hid (HE1.out.below hb1)
            have HE2 := Lib.hid (HE2.out.below hb1)
            have HE4 := Lib.hid (HE4.out.below hb1)
            have HE5 := Lib.hid (HE5.out.below hb1)
            have H11 := Lib.hid (H11.out.below hb1)
            have HSZ := Lib.hid (HSZ.out.below hb1)
            simp only [ExV] at hv1
            go_simp
            refine (KA.out _ _ hi1).mono ?_
            rintro e1 V2 ⟨p, rfl, -, hi, hb2⟩
            exact hK _ _ ⟨p, rfl, hi⟩ hb2
          · intro a' V hdf hin hdep hb1 K hK
            have i71 : a'.tmps[71]?.getD undef = ExV q11 (-53) := evT (hin 71 (by decide))
            obtain ⟨p2, hv2, hi2⟩ : (fun (v : Value) (w' : World) => ∃ p, v = ExV p Es ∧ RInt w' p Sa) (a'.tmps.getD 70 undef) V := hdep ⟨2, .data⟩ (by simp) rfl 70 (by decide)
            replace hv2 := evT hv2
            clear hin hdep hdf
            have HY := Lib.hid (HY.out.trans (hb1.mono HY.out.size))
            have HE1 := Lib.hid (HE1.out.below hb1)
            have HE2 := Lib.hid (HE2.out.below hb1)
            have HE4 := Lib.hid (HE4.out.below hb1)
            have HE5 := Lib.hid (HE5.out.below hb1)
            have H11 := Lib.hid (H11.out.below hb1)
            have HSZ := Lib.hid (HSZ.out.below hb1)
            simp only [ExV] at hv2
            go_simp
            refine (K1.out _ _ _ hi2 H11.out.2).mono ?_
            rintro e1 V2 ⟨p, rfl, -, hi, hb2⟩
            exact hK _ _ ⟨p, rfl, hi⟩ hb2
          · intro a' V hdf hin hdep hb1 K hK
            clear hin hdep hdf
            have HY := Lib.hid (HY.out.trans (hb1.mono HY.out.size))
            have HE1 := Lib.hid (HE1.out.below hb1)
            have HE2 := Lib.hid (HE2.out.below hb1)
            have HE4 := Lib.hid (HE4.out.below hb1)
            have HE5 := Lib.hid (HE5.out.below hb1)
            have H11 := Lib.hid (H11.out.below hb1)
            have HSZ := Lib.hid (HSZ.out.below hb1)
            go_simp
            exact hK _ _ ⟨_, rfl, HSZ.out, BlkT.new V _ _⟩ (Below.alloc_self _ _)
          intro vals B1 hb1 hR
          replace HY := Lib.hid (HY.out.trans (hb1.mono HY.out.size))
          replace HE1 := Lib.hid (HE1.out.below hb1)
          replace HE2 := Lib.hid (HE2.out.below hb1)
          replace HE4 := Lib.hid (HE4.out.below hb1)
          replace HE5 := Lib.hid (HE5.out.below hb1)
          replace H11 := Lib.hid (H11.out.below hb1)
          replace HSZ := Lib.hid (HSZ.out.below hb1)
          obtain ⟨p1, hv1, hi1⟩ : (fun (v : Value) (w' : World) => ∃ p, v = ExV p Es ∧ RInt w' p Ss) (vals 1) B1 := hR (1, 69) (by decide)
          obtain ⟨p2, hv2, hi2⟩ : (fun (v : Value) (w' : World) => ∃ p, v = ExV p Es ∧ RInt w' p Sa) (vals 2) B1 := hR (2, 70) (by decide)
          obtain ⟨p4, hv4, hi4⟩ : (fun (v : Value) (w' : World) => ∃ p, v = ExV p eo ∧ RInt w' p on1) (vals 4) B1 := hR (4, 72) (by decide)
          obtain ⟨r5, hv5, hl5, hB5⟩ : (fun (v : Value) (w' : World) => ∃ r, v = .pointer (some ⟨r, 0, none⟩) ∧ B0 ≤ r ∧ BlkT w' r 34 #[.pointer none, .int .i64 0]) (vals 5) B1 := hR (5, 12) (by decide)
          have HBB := Lib.hid hb1
          clear hb1 hR
          simp only [prE, List.flatMap_cons, List.flatMap_nil, List.cons_append, List.nil_append, List.append_nil, setD, List.setIfInBounds_toArray, List.set_cons_zero, List.set_cons_succ, hv1, hv2, hv4, hv5]
          clear vals hv1 hv2 hv4 hv5
          refine wpPq_nil ?_
          simp only [List.drop_succ_cons, List.drop_zero]
          skip
          have HNB : Hid (Below W13.heap.size W13 ((B1.setCell ⟨r5, 0, none⟩ (.pointer (some ⟨p4, 0, none⟩))).setCell ⟨r5, 1, none⟩ (.int .i64 eo))) := Lib.hid (((HBB.out).setCell (show W13.heap.size ≤ r5 from by rw [HB0'.out]; exact hl5) _).setCell (show W13.heap.size ≤ r5 from by rw [HB0'.out]; exact hl5) _)
          have H12 : Hid (XB0 ((B1.setCell ⟨r5, 0, none⟩ (.pointer (some ⟨p4, 0, none⟩))).setCell ⟨r5, 1, none⟩ (.int .i64 eo)) r5 p4 on1 eo) := Lib.hid (XB0.put (e := eo) hi4 hB5)
          replace HY := Lib.hid (KHY.out.trans (HNB.out.mono KHY.out.size))
          replace HE1 := Lib.hid (KHE1.out.below HNB.out)
          replace HE2 := Lib.hid (KHE2.out.below HNB.out)
          replace HE4 := Lib.hid (KHE4.out.below HNB.out)
          replace HE5 := Lib.hid (KHE5.out.below HNB.out)
          replace H11 := Lib.hid (KH11.out.below HNB.out)
          obtain ⟨t0, t1, t2, t3⟩ := hB5.cells2
          clear HNB HBB HSZ HB0' KHY KHE1 KHE2 KHE4 KHE5 KH11 hi1 hi2 hi4 hl5 hB5
          unfold ExV
          go_wp2
          obtain ⟨W14, hWn⟩ : ∃ v, (B1.setCell ⟨r5, 0, none⟩ (.pointer (some ⟨p4, 0, none⟩))).setCell ⟨r5, 1, none⟩ (.int .i64 eo) = v := ⟨_, rfl⟩
          rw [hWn] at HY HE1 HE2 HE4 HE5 H11 H12
          rw [hWn]
          clear hWn t0 t1 t2 t3
          obtain ⟨b12, hb12⟩ : ∃ i, r5 = i := ⟨_, rfl⟩
          obtain ⟨q12, hq12⟩ : ∃ i, p4 = i := ⟨_, rfl⟩
          rw [hb12, hq12] at H12
          rw [hb12, hq12]
          clear hb12 hq12
          clear B1
          refine wp_region_q (fun w' : World => w'.cell? ⟨b11, 0, none⟩ = some (.pointer (some ⟨q11, 0, none⟩)) ∧ w'.cell? ⟨b11, 1, none⟩ = some (.int .i64 (-53))) 6 (.take 0 (.take 1 (.take 3 (.bag [(2, 75, []), (4, 77, []), (5, 13, [])] .nil)))) (by kernel_rfl) (by kernel_rfl) ?_
          replace HY := Lib.hid (HY.out.trans ((drew_below _).mono HY.out.size))
          replace HE1 := Lib.hid (HE1.out.below (drew_below _))
          replace HE2 := Lib.hid (HE2.out.below (drew_below _))
          replace HE4 := Lib.hid (HE4.out.below (drew_below _))
          replace HE5 := Lib.hid (HE5.out.below (drew_below _))
          replace H11 := Lib.hid (H11.out.below (drew_below _))
          replace H12 := Lib.hid (H12.out.below (drew_below _))
          generalize World.drew _ = W15 at HY HE1 HE2 HE4 HE5 H11 H12 ⊢
          obtain ⟨B0, hB0⟩ : ∃ i, W15.heap.size = i := ⟨_, rfl⟩
          have HSZ : Hid (SzLe W15 B0) := Lib.hid (Nat.le_of_eq hB0.symm)
          have HB0' := Lib.hid hB0
          clear hB0
          have KHY := HY
          have KHE1 := HE1
          have KHE2 := HE2
          have KHE4 := HE4
          have KHE5 := HE5
          have KH11 := H11
          have KH12 := H12
          have hS : (fun w' : World => w'.cell? ⟨b11, 0, none⟩ = some (.pointer (some ⟨q11, 0, none⟩)) ∧ w'.cell? ⟨b11, 1, none⟩ = some (.int .i64 (-53))) W15 := ⟨H11.out.1.cell 0, H11.out.1.cell 1⟩
          repeat (refine wpPq_takeL (v := ?_) rfl rfl (fun _ _ _ h => h) rfl (fun w' hSw => ?_) hS ?_; rotate_left; (focus (go_simp; with_reducible rfl)); simp only [List.setIfInBounds_toArray, List.set_cons_zero, List.set_cons_succ])
          clear hS
          refine wpPq_bag (pick [(2, fun v w' => ∃ p, v = ExV p 0 ∧ RInt w' p (m : Int)), (4, fun v w' => ∃ p, v = ExV p em ∧ RInt w' p m1), (5, fun v w' => ∃ r, v = .pointer (some ⟨r, 0, none⟩) ∧ B0 ≤ r ∧ BlkT w' r 34 #[.pointer none, .int .i64 0])]) (pick_mono (bag_cons (fun v w1 w2 ⟨p2, hv2, hi2⟩ hb => ⟨p2, hv2, hi2.below hb⟩) (bag_cons (fun v w1 w2 ⟨p4, hv4, hi4⟩ hb => ⟨p4, hv4, hi4.below hb⟩) (bag_cons (fun v w1 w2 ⟨r5, hv5, hl5, hB5⟩ hb => ⟨r5, hv5, hl5, hB5.below hb⟩) bag_nil)))) (fun w' hb => ⟨(H11.out.below hb).1.cell 0, (H11.out.below hb).1.cell 1⟩) (by simp [prE]) (fun _ _ _ _ _ h => h) (bag_cons (bag_one rfl ?_) (bag_cons (bag_one rfl ?_) (bag_cons (bag_one rfl ?_) bag_nil))) bag_nil ?_
          · intro a' V hdf hin hdep hb1 K hK
            have i74 : a'.tmps[74]?.getD undef = .int .i64 (m : Int) := evT (hin 74 (by decide))
            clear hin hdep hdf
            have HY := Lib.hid (HY.out.trans (hb1.mono HY.out.size))
            have HE1 := Lib.hid (HE1.out.below hb1)
            have HE2 := Lib.hid (HE2.out.below hb1)
            have HE4 := Lib.hid (HE4.out.below hb1)
            have HE5 := Lib.hid (HE5.out.below hb1)
            have H11 := Lib.hid (H11.out.below hb1)
            have H12 := Lib.hid (H12.out.below hb1)
            have HSZ := Lib.hid (HSZ.out.below hb1)
            go_simp
            refine (rWhole_any (m : Int) _ (by have := HM0.out; omega) (by have := HM0.out; omega)).mono ?_
            rintro e1 V2 ⟨p, rfl, -, hi, hb2⟩
            exact hK _ _ ⟨p, rfl, hi⟩ hb2
          · intro a' V hdf hin hdep hb1 K hK
            have i76 : a'.tmps[76]?.getD undef = ExV q11 (-53) := evT (hin 76 (by decide))
            obtain ⟨p2, hv2, hi2⟩ : (fun (v : Value) (w' : World) => ∃ p, v = ExV p 0 ∧ RInt w' p (m : Int)) (a'.tmps.getD 75 undef) V := hdep ⟨2, .data⟩ (by simp) rfl 75 (by decide)
            replace hv2 := evT hv2
            clear hin hdep hdf
            have HY := Lib.hid (HY.out.trans (hb1.mono HY.out.size))
            have HE1 := Lib.hid (HE1.out.below hb1)
            have HE2 := Lib.hid (HE2.out.below hb1)
            have HE4 := Lib.hid (HE4.out.below hb1)
            have HE5 := Lib.hid (HE5.out.below hb1)
            have H11 := Lib.hid (H11.out.below hb1)
            have H12 := Lib.hid (H12.out.below hb1)
            have HSZ := Lib.hid (HSZ.out.below hb1)
            simp only [ExV] at hv2
            go_simp
            refine (K2.out _ _ _ hi2 H11.out.2).mono ?_
            rintro e1 V2 ⟨p, rfl, -, hi, hb2⟩
            exact hK _ _ ⟨p, rfl, hi⟩ hb2
          · intro a' V hdf hin hdep hb1 K hK
            clear hin hdep hdf
            have HY := Lib.hid (HY.out.trans (hb1.mono HY.out.size))
            have HE1 := Lib.hid (HE1.out.below hb1)
            have HE2 := Lib.hid (HE2.out.below hb1)
            have HE4 := Lib.hid (HE4.out.below hb1)
            have HE5 := Lib.hid (HE5.out.below hb1)
            have H11 := Lib.hid (H11.out.below hb1)
            have H12 := Lib.hid (H12.out.below hb1)
            have HSZ := Lib.hid (HSZ.out.below hb1)
            go_simp
            exact hK _ _ ⟨_, rfl, HSZ.out, BlkT.new V _ _⟩ (Below.alloc_self _ _)
          intro vals B1 hb1 hR
          replace HY := Lib.hid (HY.out.trans (hb1.mono HY.out.size))
          replace HE1 := Lib.hid (HE1.out.below hb1)
          replace HE2 := Lib.hid (HE2.out.below hb1)
          replace HE4 := Lib.hid (HE4.out.below hb1)
          replace HE5 := Lib.hid (HE5.out.below hb1)
          replace H11 := Lib.hid (H11.out.below hb1)
          replace H12 := Lib.hid (H12.out.below hb1)
          replace HSZ := Lib.hid (HSZ.out.below hb1)
          obtain ⟨p2, hv2, hi2⟩ : (fun (v : Value) (w' : World) => ∃ p, v = ExV p 0 ∧ RInt w' p (m : Int)) (vals 2) B1 := hR (2, 75) (by decide)
          obtain ⟨p4, hv4, hi4⟩ : (fun (v : Value) (w' : World) => ∃ p, v = ExV p em ∧ RInt w' p m1) (vals 4) B1 := hR (4, 77) (by decide)
          obtain ⟨r5, hv5, hl5, hB5⟩ : (fun (v : Value) (w' : World) => ∃ r, v = .pointer (some ⟨r, 0, none⟩) ∧ B0 ≤ r ∧ BlkT w' r 34 #[.pointer none, .int .i64 0]) (vals 5) B1 := hR (5, 13) (by decide)
          have HBB := Lib.hid hb1
          clear hb1 hR
          simp only [prE, List.flatMap_cons, List.flatMap_nil, List.cons_append, List.nil_append, List.append_nil, setD, List.setIfInBounds_toArray, List.set_cons_zero, List.set_cons_succ, hv2, hv4, hv5]
          clear vals hv2 hv4 hv5
          refine wpPq_nil ?_
          simp only [List.drop_succ_cons, List.drop_zero]
          skip
          have HNB : Hid (Below W15.heap.size W15 ((B1.setCell ⟨r5, 0, none⟩ (.pointer (some ⟨p4, 0, none⟩))).setCell ⟨r5, 1, none⟩ (.int .i64 em))) := Lib.hid (((HBB.out).setCell (show W15.heap.size ≤ r5 from by rw [HB0'.out]; exact hl5) _).setCell (show W15.heap.size ≤ r5 from by rw [HB0'.out]; exact hl5) _)
          have H13 : Hid (XB0 ((B1.setCell ⟨r5, 0, none⟩ (.pointer (some ⟨p4, 0, none⟩))).setCell ⟨r5, 1, none⟩ (.int .i64 em)) r5 p4 m1 em) := Lib.hid (XB0.put (e := em) hi4 hB5)
          replace HY := Lib.hid (KHY.out.trans (HNB.out.mono KHY.out.size))
          replace HE1 := Lib.hid (KHE1.out.below HNB.out)
          replace HE2 := Lib.hid (KHE2.out.below HNB.out)
          replace HE4 := Lib.hid (KHE4.out.below HNB.out)
          replace HE5 := Lib.hid (KHE5.out.below HNB.out)
          replace H11 := Lib.hid (KH11.out.below HNB.out)
          replace H12 := Lib.hid (KH12.out.below HNB.out)
          obtain ⟨t0, t1, t2, t3⟩ := hB5.cells2
          clear HNB HBB HSZ HB0' KHY KHE1 KHE2 KHE4 KHE5 KH11 KH12 hi2 hi4 hl5 hB5
          unfold ExV
          go_wp2
          obtain ⟨W16, hWn⟩ : ∃ v, (B1.setCell ⟨r5, 0, none⟩ (.pointer (some ⟨p4, 0, none⟩))).setCell ⟨r5, 1, none⟩ (.int .i64 em) = v := ⟨_, rfl⟩
          rw [hWn] at HY HE1 HE2 HE4 HE5 H11 H12 H13
          rw [hWn]
          clear hWn t0 t1 t2 t3
          obtain ⟨b13, hb13⟩ : ∃ i, r5 = i := ⟨_, rfl⟩
          obtain ⟨q13, hq13⟩ : ∃ i, p4 = i := ⟨_, rfl⟩
          rw [hb13, hq13] at H13
          rw [hb13, hq13]
          clear hb13 hq13
          clear B1
          refine wp_region_q (fun w' : World => w'.cell? ⟨b13, 0, none⟩ = some (.pointer (some ⟨q13, 0, none⟩)) ∧ w'.cell? ⟨b13, 1, none⟩ = some (.int .i64 em)) 5 (.take 1 (.bag [(0, 78, []), (2, 80, []), (3, 81, []), (4, 14, [])] .nil)) (by kernel_rfl) (by kernel_rfl) ?_
          replace HY := Lib.hid (HY.out.trans ((drew_below _).mono HY.out.size))
          replace HE1 := Lib.hid (HE1.out.below (drew_below _))
          replace HE2 := Lib.hid (HE2.out.below (drew_below _))
          replace HE4 := Lib.hid (HE4.out.below (drew_below _))
          replace HE5 := Lib.hid (HE5.out.below (drew_below _))
          replace H11 := Lib.hid (H11.out.below (drew_below _))
          replace H12 := Lib.hid (H12.out.below (drew_below _))
          replace H13 := Lib.hid (H13.out.below (drew_below _))
          generalize World.drew _ = W17 at HY HE1 HE2 HE4 HE5 H11 H12 H13 ⊢
          obtain ⟨B0, hB0⟩ : ∃ i, W17.heap.size = i := ⟨_, rfl⟩
          have HSZ : Hid (SzLe W17 B0) := Lib.hid (Nat.le_of_eq hB0.symm)
          have HB0' := Lib.hid hB0
          clear hB0
          have KHY := HY
          have KHE1 := HE1
          have KHE2 := HE2
          have KHE4 := HE4
          have KHE5 := HE5
          have KH11 := H11
          have KH12 := H12
          have KH13 := H13
          have hS : (fun w' : World => w'.cell? ⟨b13, 0, none⟩ = some (.pointer (some ⟨q13, 0, none⟩)) ∧ w'.cell? ⟨b13, 1, none⟩ = some (.int .i64 em)) W17 := ⟨H13.out.1.cell 0, H13.out.1.cell 1⟩
          repeat (refine wpPq_takeL (v := ?_) rfl rfl (fun _ _ _ h => h) rfl (fun w' hSw => ?_) hS ?_; rotate_left; (focus (go_simp; with_reducible rfl)); simp only [List.setIfInBounds_toArray, List.set_cons_zero, List.set_cons_succ])
          clear hS
          refine wpPq_bag (pick [(0, fun v w' => ∃ p, v = ExV p 0 ∧ RInt w' p 1), (2, fun v w' => ∃ p, v = ExV p em ∧ RInt w' p (-m1)), (3, fun v w' => ∃ p, v = ExV p ep ∧ RInt w' p po), (4, fun v w' => ∃ r, v = .pointer (some ⟨r, 0, none⟩) ∧ B0 ≤ r ∧ BlkT w' r 34 #[.pointer none, .int .i64 0])]) (pick_mono (bag_cons (fun v w1 w2 ⟨p0, hv0, hi0⟩ hb => ⟨p0, hv0, hi0.below hb⟩) (bag_cons (fun v w1 w2 ⟨p2, hv2, hi2⟩ hb => ⟨p2, hv2, hi2.below hb⟩) (bag_cons (fun v w1 w2 ⟨p3, hv3, hi3⟩ hb => ⟨p3, hv3, hi3.below hb⟩) (bag_cons (fun v w1 w2 ⟨r4, hv4, hl4, hB4⟩ hb => ⟨r4, hv4, hl4, hB4.below hb⟩) bag_nil))))) (fun w' hb => ⟨(H13.out.below hb).1.cell 0, (H13.out.below hb).1.cell 1⟩) (by simp [prE]) (fun _ _ _ _ _ h => h) (bag_cons (bag_one rfl ?_) (bag_cons (bag_one rfl ?_) (bag_cons (bag_one rfl ?_) (bag_cons (bag_one rfl ?_) bag_nil)))) bag_nil ?_
          · intro a' V hdf hin hdep hb1 K hK
            clear hin hdep hdf
            have HY := Lib.hid (HY.out.trans (hb1.mono HY.out.size))
            have HE1 := Lib.hid (HE1.out.below hb1)
            have HE2 := Lib.hid (HE2.out.below hb1)
            have HE4 := Lib.hid (HE4.out.below hb1)
            have HE5 := Lib.hid (HE5.out.below hb1)
            have H11 := Lib.hid (H11.out.below hb1)
            have H12 := Lib.hid (H12.out.below hb1)
            have H13 := Lib.hid (H13.out.below hb1)
            have HSZ := Lib.hid (HSZ.out.below hb1)
            go_simp
            refine (rWhole_any 1 _ (by decide) (by decide)).mono ?_
            rintro e1 V2 ⟨p, rfl, -, hi, hb2⟩
            exact hK _ _ ⟨p, rfl, hi⟩ hb2
          · intro a' V hdf hin hdep hb1 K hK
            have i79 : a'.tmps[79]?.getD undef = ExV q13 em := evT (hin 79 (by decide))
            clear hin hdep hdf
            have HY := Lib.hid (HY.out.trans (hb1.mono HY.out.size))
            have HE1 := Lib.hid (HE1.out.below hb1)
            have HE2 := Lib.hid (HE2.out.below hb1)
            have HE4 := Lib.hid (HE4.out.below hb1)
            have HE5 := Lib.hid (HE5.out.below hb1)
            have H11 := Lib.hid (H11.out.below hb1)
            have H12 := Lib.hid (H12.out.below hb1)
            have H13 := Lib.hid (H13.out.below hb1)
            have HSZ := Lib.hid (HSZ.out.below hb1)
            go_simp
            refine (rNegX_any _ _ _ _ H13.out.2).mono ?_
            rintro e1 V2 ⟨p, rfl, -, hi, hb2⟩
            exact hK _ _ ⟨p, rfl, hi⟩ hb2
          · intro a' V hdf hin hdep hb1 K hK
            obtain ⟨p0, hv0, hi0⟩ : (fun (v : Value) (w' : World) => ∃ p, v = ExV p 0 ∧ RInt w' p 1) (a'.tmps.getD 78 undef) V := hdep ⟨0, .data⟩ (by simp) rfl 78 (by decide)
            replace hv0 := evT hv0
            obtain ⟨p2, hv2, hi2⟩ : (fun (v : Value) (w' : World) => ∃ p, v = ExV p em ∧ RInt w' p (-m1)) (a'.tmps.getD 80 undef) V := hdep ⟨2, .data⟩ (by simp) rfl 80 (by decide)
            replace hv2 := evT hv2
            clear hin hdep hdf
            have HY := Lib.hid (HY.out.trans (hb1.mono HY.out.size))
            have HE1 := Lib.hid (HE1.out.below hb1)
            have HE2 := Lib.hid (HE2.out.below hb1)
            have HE4 := Lib.hid (HE4.out.below hb1)
            have HE5 := Lib.hid (HE5.out.below hb1)
            have H11 := Lib.hid (H11.out.below hb1)
            have H12 := Lib.hid (H12.out.below hb1)
            have H13 := Lib.hid (H13.out.below hb1)
            have HSZ := Lib.hid (HSZ.out.below hb1)
            simp only [ExV] at hv0 hv2
            go_simp
            refine (K3.out _ _ _ hi0 hi2).mono ?_
            rintro e1 V2 ⟨p, rfl, hi, hb2⟩
            exact hK _ _ ⟨p, rfl, hi⟩ hb2
          · intro a' V hdf hin hdep hb1 K hK
            clear hin hdep hdf
            have HY := Lib.hid (HY.out.trans (hb1.mono HY.out.size))
            have HE1 := Lib.hid (HE1.out.below hb1)
            have HE2 := Lib.hid (HE2.out.below hb1)
            have HE4 := Lib.hid (HE4.out.below hb1)
            have HE5 := Lib.hid (HE5.out.below hb1)
            have H11 := Lib.hid (H11.out.below hb1)
            have H12 := Lib.hid (H12.out.below hb1)
            have H13 := Lib.hid (H13.out.below hb1)
            have HSZ := Lib.hid (HSZ.out.below hb1)
            go_simp
            exact hK _ _ ⟨_, rfl, HSZ.out, BlkT.new V _ _⟩ (Below.alloc_self _ _)
          intro vals B1 hb1 hR
          replace HY := Lib.hid (HY.out.trans (hb1.mono HY.out.size))
          replace HE1 := Lib.hid (HE1.out.below hb1)
          replace HE2 := Lib.hid (HE2.out.below hb1)
          replace HE4 := Lib.hid (HE4.out.below hb1)
          replace HE5 := Lib.hid (HE5.out.below hb1)
          replace H11 := Lib.hid (H11.out.below hb1)
          replace H12 := Lib.hid (H12.out.below hb1)
          replace H13 := Lib.hid (H13.out.below hb1)
          replace HSZ := Lib.hid (HSZ.out.below hb1)
          obtain ⟨p0, hv0, hi0⟩ : (fun (v : Value) (w' : World) => ∃ p, v = ExV p 0 ∧ RInt w' p 1) (vals 0) B1 := hR (0, 78) (by decide)
          obtain ⟨p2, hv2, hi2⟩ : (fun (v : Value) (w' : World) => ∃ p, v = ExV p em ∧ RInt w' p (-m1)) (vals 2) B1 := hR (2, 80) (by decide)
          obtain ⟨p3, hv3, hi3⟩ : (fun (v : Value) (w' : World) => ∃ p, v = ExV p ep ∧ RInt w' p po) (vals 3) B1 := hR (3, 81) (by decide)
          obtain ⟨r4, hv4, hl4, hB4⟩ : (fun (v : Value) (w' : World) => ∃ r, v = .pointer (some ⟨r, 0, none⟩) ∧ B0 ≤ r ∧ BlkT w' r 34 #[.pointer none, .int .i64 0]) (vals 4) B1 := hR (4, 14) (by decide)
          have HBB := Lib.hid hb1
          clear hb1 hR
          simp only [prE, List.flatMap_cons, List.flatMap_nil, List.cons_append, List.nil_append, List.append_nil, setD, List.setIfInBounds_toArray, List.set_cons_zero, List.set_cons_succ, hv0, hv2, hv3, hv4]
          clear vals hv0 hv2 hv3 hv4
          refine wpPq_nil ?_
          simp only [List.drop_succ_cons, List.drop_zero]
          skip
          have HNB : Hid (Below W17.heap.size W17 ((B1.setCell ⟨r4, 0, none⟩ (.pointer (some ⟨p3, 0, none⟩))).setCell ⟨r4, 1, none⟩ (.int .i64 ep))) := Lib.hid (((HBB.out).setCell (show W17.heap.size ≤ r4 from by rw [HB0'.out]; exact hl4) _).setCell (show W17.heap.size ≤ r4 from by rw [HB0'.out]; exact hl4) _)
          have H14 : Hid (XB0 ((B1.setCell ⟨r4, 0, none⟩ (.pointer (some ⟨p3, 0, none⟩))).setCell ⟨r4, 1, none⟩ (.int .i64 ep)) r4 p3 po ep) := Lib.hid (XB0.put (e := ep) hi3 hB4)
          replace HY := Lib.hid (KHY.out.trans (HNB.out.mono KHY.out.size))
          replace HE1 := Lib.hid (KHE1.out.below HNB.out)
          replace HE2 := Lib.hid (KHE2.out.below HNB.out)
          replace HE4 := Lib.hid (KHE4.out.below HNB.out)
          replace HE5 := Lib.hid (KHE5.out.below HNB.out)
          replace H11 := Lib.hid (KH11.out.below HNB.out)
          replace H12 := Lib.hid (KH12.out.below HNB.out)
          replace H13 := Lib.hid (KH13.out.below HNB.out)
          obtain ⟨t0, t1, t2, t3⟩ := hB4.cells2
          clear HNB HBB HSZ HB0' KHY KHE1 KHE2 KHE4 KHE5 KH11 KH12 KH13 hi0 hi2 hi3 hl4 hB4
          unfold ExV
          go_wp2
          obtain ⟨W18, hWn⟩ : ∃ v, (B1.setCell ⟨r4, 0, none⟩ (.pointer (some ⟨p3, 0, none⟩))).setCell ⟨r4, 1, none⟩ (.int .i64 ep) = v := ⟨_, rfl⟩
          rw [hWn] at HY HE1 HE2 HE4 HE5 H11 H12 H13 H14
          rw [hWn]
          clear hWn t0 t1 t2 t3
          obtain ⟨b14, hb14⟩ : ∃ i, r4 = i := ⟨_, rfl⟩
          obtain ⟨q14, hq14⟩ : ∃ i, p3 = i := ⟨_, rfl⟩
          rw [hb14, hq14] at H14
          rw [hb14, hq14]
          clear hb14 hq14
          clear B1
          refine wp_region_q (fun w' : World => ((w'.cell? ⟨b6, 8, none⟩ = some (.pointer (some ⟨q4, 0, none⟩)) ∧ w'.cell? ⟨b6, 9, none⟩ = some (.int .i64 G4)) ∧ w'.cell? ⟨b12, 0, none⟩ = some (.pointer (some ⟨q12, 0, none⟩))) ∧ w'.cell? ⟨b12, 1, none⟩ = some (.int .i64 eo)) 6 (.take 0 (.take 1 (.take 2 (.bag [(3, 85, []), (4, 86, []), (5, 15, [])] .nil)))) (by kernel_rfl) (by kernel_rfl) ?_
          replace HY := Lib.hid (HY.out.trans ((drew_below _).mono HY.out.size))
          replace HE1 := Lib.hid (HE1.out.below (drew_below _))
          replace HE2 := Lib.hid (HE2.out.below (drew_below _))
          replace HE4 := Lib.hid (HE4.out.below (drew_below _))
          replace HE5 := Lib.hid (HE5.out.below (drew_below _))
          replace H11 := Lib.hid (H11.out.below (drew_below _))
          replace H12 := Lib.hid (H12.out.below (drew_below _))
          replace H13 := Lib.hid (H13.out.below (drew_below _))
          replace H14 := Lib.hid (H14.out.below (drew_below _))
          generalize World.drew _ = W19 at HY HE1 HE2 HE4 HE5 H11 H12 H13 H14 ⊢
          obtain ⟨B0, hB0⟩ : ∃ i, W19.heap.size = i := ⟨_, rfl⟩
          have HSZ : Hid (SzLe W19 B0) := Lib.hid (Nat.le_of_eq hB0.symm)
          have HB0' := Lib.hid hB0
          clear hB0
          have KHY := HY
          have KHE1 := HE1
          have KHE2 := HE2
          have KHE4 := HE4
          have KHE5 := HE5
          have KH11 := H11
          have KH12 := H12
          have KH13 := H13
          have KH14 := H14
          have hS : (fun w' : World => ((w'.cell? ⟨b6, 8, none⟩ = some (.pointer (some ⟨q4, 0, none⟩)) ∧ w'.cell? ⟨b6, 9, none⟩ = some (.int .i64 G4)) ∧ w'.cell? ⟨b12, 0, none⟩ = some (.pointer (some ⟨q12, 0, none⟩))) ∧ w'.cell? ⟨b12, 1, none⟩ = some (.int .i64 eo)) W19 := ⟨⟨⟨HE4.out.c, HE4.out.d⟩, H12.out.1.cell 0⟩, H12.out.1.cell 1⟩
          repeat (refine wpPq_takeL (v := ?_) rfl rfl (fun _ _ _ h => h) rfl (fun w' hSw => ?_) hS ?_; rotate_left; (focus (go_simp; with_reducible rfl)); simp only [List.setIfInBounds_toArray, List.set_cons_zero, List.set_cons_succ])
          clear hS
          refine wpPq_bag (pick [(3, fun v w' => ∃ p, v = ExV p eo ∧ RInt w' p (-on1)), (4, fun v w' => ∃ p, v = ExV p er ∧ RInt w' p rr), (5, fun v w' => ∃ r, v = .pointer (some ⟨r, 0, none⟩) ∧ B0 ≤ r ∧ BlkT w' r 34 #[.pointer none, .int .i64 0])]) (pick_mono (bag_cons (fun v w1 w2 ⟨p3, hv3, hi3⟩ hb => ⟨p3, hv3, hi3.below hb⟩) (bag_cons (fun v w1 w2 ⟨p4, hv4, hi4⟩ hb => ⟨p4, hv4, hi4.below hb⟩) (bag_cons (fun v w1 w2 ⟨r5, hv5, hl5, hB5⟩ hb => ⟨r5, hv5, hl5, hB5.below hb⟩) bag_nil)))) (fun w' hb => ⟨⟨⟨(HE4.out.below hb).c, (HE4.out.below hb).d⟩, (H12.out.below hb).1.cell 0⟩, (H12.out.below hb).1.cell 1⟩) (by simp [prE]) (fun _ _ _ _ _ h => h) (bag_cons (bag_one rfl ?_) (bag_cons (bag_one rfl ?_) (bag_cons (bag_one rfl ?_) bag_nil))) bag_nil ?_
          · intro a' V hdf hin hdep hb1 K hK
            have i84 : a'.tmps[84]?.getD undef = ExV q12 eo := evT (hin 84 (by decide))
            clear hin hdep hdf
            have HY := Lib.hid (HY.out.trans (hb1.mono HY.out.size))
            have HE1 := Lib.hid (HE1.out.below hb1)
            have HE2 := Lib.hid (HE2.out.below hb1)
            have HE4 := Lib.hid (HE4.out.below hb1)
            have HE5 := Lib.hid (HE5.out.below hb1)
            have H11 := Lib.hid (H11.out.below hb1)
            have H12 := Lib.hid (H12.out.below hb1)
            have H13 := Lib.hid (H13.out.below hb1)
            have H14 := Lib.hid (H14.out.below hb1)
            have HSZ := Lib.hid (HSZ.out.below hb1)
            go_simp
            refine (rNegX_any _ _ _ _ H12.out.2).mono ?_
            rintro e1 V2 ⟨p, rfl, -, hi, hb2⟩
            exact hK _ _ ⟨p, rfl, hi⟩ hb2
          · intro a' V hdf hin hdep hb1 K hK
            have i83 : a'.tmps[83]?.getD undef = ExV q4 G4 := evT (hin 83 (by decide))
            obtain ⟨p3, hv3, hi3⟩ : (fun (v : Value) (w' : World) => ∃ p, v = ExV p eo ∧ RInt w' p (-on1)) (a'.tmps.getD 85 undef) V := hdep ⟨3, .data⟩ (by simp) rfl 85 (by decide)
            replace hv3 := evT hv3
            clear hin hdep hdf
            have HY := Lib.hid (HY.out.trans (hb1.mono HY.out.size))
            have HE1 := Lib.hid (HE1.out.below hb1)
            have HE2 := Lib.hid (HE2.out.below hb1)
            have HE4 := Lib.hid (HE4.out.below hb1)
            have HE5 := Lib.hid (HE5.out.below hb1)
            have H11 := Lib.hid (H11.out.below hb1)
            have H12 := Lib.hid (H12.out.below hb1)
            have H13 := Lib.hid (H13.out.below hb1)
            have H14 := Lib.hid (H14.out.below hb1)
            have HSZ := Lib.hid (HSZ.out.below hb1)
            simp only [ExV] at hv3
            go_simp
            refine (K4.out _ _ _ HE4.out.n hi3).mono ?_
            rintro e1 V2 ⟨p, rfl, hi, hb2⟩
            exact hK _ _ ⟨p, rfl, hi⟩ hb2
          · intro a' V hdf hin hdep hb1 K hK
            clear hin hdep hdf
            have HY := Lib.hid (HY.out.trans (hb1.mono HY.out.size))
            have HE1 := Lib.hid (HE1.out.below hb1)
            have HE2 := Lib.hid (HE2.out.below hb1)
            have HE4 := Lib.hid (HE4.out.below hb1)
            have HE5 := Lib.hid (HE5.out.below hb1)
            have H11 := Lib.hid (H11.out.below hb1)
            have H12 := Lib.hid (H12.out.below hb1)
            have H13 := Lib.hid (H13.out.below hb1)
            have H14 := Lib.hid (H14.out.below hb1)
            have HSZ := Lib.hid (HSZ.out.below hb1)
            go_simp
            exact hK _ _ ⟨_, rfl, HSZ.out, BlkT.new V _ _⟩ (Below.alloc_self _ _)
          intro vals B1 hb1 hR
          replace HY := Lib.hid (HY.out.trans (hb1.mono HY.out.size))
          replace HE1 := Lib.hid (HE1.out.below hb1)
          replace HE2 := Lib.hid (HE2.out.below hb1)
          replace HE4 := Lib.hid (HE4.out.below hb1)
          replace HE5 := Lib.hid (HE5.out.below hb1)
          replace H11 := Lib.hid (H11.out.below hb1)
          replace H12 := Lib.hid (H12.out.below hb1)
          replace H13 := Lib.hid (H13.out.below hb1)
          replace H14 := Lib.hid (H14.out.below hb1)
          replace HSZ := Lib.hid (HSZ.out.below hb1)
          obtain ⟨p3, hv3, hi3⟩ : (fun (v : Value) (w' : World) => ∃ p, v = ExV p eo ∧ RInt w' p (-on1)) (vals 3) B1 := hR (3, 85) (by decide)
          obtain ⟨p4, hv4, hi4⟩ : (fun (v : Value) (w' : World) => ∃ p, v = ExV p er ∧ RInt w' p rr) (vals 4) B1 := hR (4, 86) (by decide)
          obtain ⟨r5, hv5, hl5, hB5⟩ : (fun (v : Value) (w' : World) => ∃ r, v = .pointer (some ⟨r, 0, none⟩) ∧ B0 ≤ r ∧ BlkT w' r 34 #[.pointer none, .int .i64 0]) (vals 5) B1 := hR (5, 15) (by decide)
          have HBB := Lib.hid hb1
          clear hb1 hR
          simp only [prE, List.flatMap_cons, List.flatMap_nil, List.cons_append, List.nil_append, List.append_nil, setD, List.setIfInBounds_toArray, List.set_cons_zero, List.set_cons_succ, hv3, hv4, hv5]
          clear vals hv3 hv4 hv5
          refine wpPq_nil ?_
          simp only [List.drop_succ_cons, List.drop_zero]
          skip
          have HNB : Hid (Below W19.heap.size W19 ((B1.setCell ⟨r5, 0, none⟩ (.pointer (some ⟨p4, 0, none⟩))).setCell ⟨r5, 1, none⟩ (.int .i64 er))) := Lib.hid (((HBB.out).setCell (show W19.heap.size ≤ r5 from by rw [HB0'.out]; exact hl5) _).setCell (show W19.heap.size ≤ r5 from by rw [HB0'.out]; exact hl5) _)
          have H15 : Hid (XB0 ((B1.setCell ⟨r5, 0, none⟩ (.pointer (some ⟨p4, 0, none⟩))).setCell ⟨r5, 1, none⟩ (.int .i64 er)) r5 p4 rr er) := Lib.hid (XB0.put (e := er) hi4 hB5)
          replace HY := Lib.hid (KHY.out.trans (HNB.out.mono KHY.out.size))
          replace HE1 := Lib.hid (KHE1.out.below HNB.out)
          replace HE2 := Lib.hid (KHE2.out.below HNB.out)
          replace HE4 := Lib.hid (KHE4.out.below HNB.out)
          replace HE5 := Lib.hid (KHE5.out.below HNB.out)
          replace H11 := Lib.hid (KH11.out.below HNB.out)
          replace H12 := Lib.hid (KH12.out.below HNB.out)
          replace H13 := Lib.hid (KH13.out.below HNB.out)
          replace H14 := Lib.hid (KH14.out.below HNB.out)
          obtain ⟨t0, t1, t2, t3⟩ := hB5.cells2
          clear HNB HBB HSZ HB0' KHY KHE1 KHE2 KHE4 KHE5 KH11 KH12 KH13 KH14 hi3 hi4 hl5 hB5
          unfold ExV
          go_wp2
          obtain ⟨W20, hWn⟩ : ∃ v, (B1.setCell ⟨r5, 0, none⟩ (.pointer (some ⟨p4, 0, none⟩))).setCell ⟨r5, 1, none⟩ (.int .i64 er) = v := ⟨_, rfl⟩
          rw [hWn] at HY HE1 HE2 HE4 HE5 H11 H12 H13 H14 H15
          rw [hWn]
          clear hWn t0 t1 t2 t3
          obtain ⟨b15, hb15⟩ : ∃ i, r5 = i := ⟨_, rfl⟩
          obtain ⟨q15, hq15⟩ : ∃ i, p4 = i := ⟨_, rfl⟩
          rw [hb15, hq15] at H15
          rw [hb15, hq15]
          clear hb15 hq15
          clear B1
          have H5 := Lib.hid (H5Y.out _ HY.out)
          refine wp_region_pl (fun w' : World => ((((((w'.cell? ⟨b15, 0, none⟩ = some (.pointer (some ⟨q15, 0, none⟩)) ∧ w'.cell? ⟨b15, 1, none⟩ = some (.int .i64 er)) ∧ w'.cell? ⟨b14, 0, none⟩ = some (.pointer (some ⟨q14, 0, none⟩))) ∧ w'.cell? ⟨b14, 1, none⟩ = some (.int .i64 ep)) ∧ w'.cell? ⟨b13, 0, none⟩ = some (.pointer (some ⟨q13, 0, none⟩))) ∧ w'.cell? ⟨b13, 1, none⟩ = some (.int .i64 em)) ∧ w'.cell? ⟨b5, 0, none⟩ = some (.pointer (some ⟨q5, 0, none⟩))) ∧ w'.cell? ⟨b5, 1, none⟩ = some (.int .i64 f)) 9 (.take 0 (.take 1 (.take 3 (.take 5 (.take 6 (.take 8 (.run 2 (.run 4 (.run 7 .nil))))))))) (by kernel_rfl) (by kernel_rfl) ?_
          replace HY := Lib.hid (HY.out.trans ((drew_below _).mono HY.out.size))
          replace HE1 := Lib.hid (HE1.out.below (drew_below _))
          replace HE2 := Lib.hid (HE2.out.below (drew_below _))
          replace HE5 := Lib.hid (HE5.out.below (drew_below _))
          replace H12 := Lib.hid (H12.out.below (drew_below _))
          replace H13 := Lib.hid (H13.out.below (drew_below _))
          replace H14 := Lib.hid (H14.out.below (drew_below _))
          replace H15 := Lib.hid (H15.out.below (drew_below _))
          replace H5 := Lib.hid (H5.out.below (drew_below _))
          generalize World.drew _ = W21 at HY HE1 HE2 HE5 H12 H13 H14 H15 H5 ⊢
          have hS : (fun w' : World => ((((((w'.cell? ⟨b15, 0, none⟩ = some (.pointer (some ⟨q15, 0, none⟩)) ∧ w'.cell? ⟨b15, 1, none⟩ = some (.int .i64 er)) ∧ w'.cell? ⟨b14, 0, none⟩ = some (.pointer (some ⟨q14, 0, none⟩))) ∧ w'.cell? ⟨b14, 1, none⟩ = some (.int .i64 ep)) ∧ w'.cell? ⟨b13, 0, none⟩ = some (.pointer (some ⟨q13, 0, none⟩))) ∧ w'.cell? ⟨b13, 1, none⟩ = some (.int .i64 em)) ∧ w'.cell? ⟨b5, 0, none⟩ = some (.pointer (some ⟨q5, 0, none⟩))) ∧ w'.cell? ⟨b5, 1, none⟩ = some (.int .i64 f)) W21 := ⟨⟨⟨⟨⟨⟨⟨H15.out.1.cell 0, H15.out.1.cell 1⟩, H14.out.1.cell 0⟩, H14.out.1.cell 1⟩, H13.out.1.cell 0⟩, H13.out.1.cell 1⟩, H5.out.1.cell 0⟩, H5.out.1.cell 1⟩
          repeat (refine wpPl_takeL (v := ?_) rfl rfl (fun _ _ _ h => h) rfl (fun w' hSw => ?_) hS ?_; rotate_left; (focus (go_simp; with_reducible rfl)); simp only [List.setIfInBounds_toArray, List.set_cons_zero, List.set_cons_succ])
          clear hS
          refine wpPl_goL rfl rfl fun K' hK => ?_
          go_simp
          refine (K5.out _ _ _ H15.out.2 H14.out.2).mono ?_
          rintro e1 V1 ⟨pa, rfl, -, hi, hb1⟩
          have HA2 := Lib.hid hi
          clear hi
          unfold ExV
          replace HY := Lib.hid (HY.out.trans (hb1.mono HY.out.size))
          replace HE1 := Lib.hid (HE1.out.below hb1)
          replace HE2 := Lib.hid (HE2.out.below hb1)
          replace HE5 := Lib.hid (HE5.out.below hb1)
          replace H12 := Lib.hid (H12.out.below hb1)
          replace H13 := Lib.hid (H13.out.below hb1)
          replace H14 := Lib.hid (H14.out.below hb1)
          replace H15 := Lib.hid (H15.out.below hb1)
          replace H5 := Lib.hid (H5.out.below hb1)
          refine hK _ _ ⟨⟨⟨⟨⟨⟨⟨H15.out.1.cell 0, H15.out.1.cell 1⟩, H14.out.1.cell 0⟩, H14.out.1.cell 1⟩, H13.out.1.cell 0⟩, H13.out.1.cell 1⟩, H5.out.1.cell 0⟩, H5.out.1.cell 1⟩ ?_
          clear hK K' hb1
          refine wpPl_goL rfl rfl fun K' hK => ?_
          go_simp
          refine (K6.out _ _ _ HA2.out H14.out.2).mono ?_
          rintro e1 V2 ⟨pb, rfl, -, hi, hb1⟩
          have HA4 := Lib.hid hi
          clear hi
          unfold ExV
          replace HY := Lib.hid (HY.out.trans (hb1.mono HY.out.size))
          replace HE1 := Lib.hid (HE1.out.below hb1)
          replace HE2 := Lib.hid (HE2.out.below hb1)
          replace HE5 := Lib.hid (HE5.out.below hb1)
          replace H12 := Lib.hid (H12.out.below hb1)
          replace H13 := Lib.hid (H13.out.below hb1)
          replace H14 := Lib.hid (H14.out.below hb1)
          replace H15 := Lib.hid (H15.out.below hb1)
          replace H5 := Lib.hid (H5.out.below hb1)
          replace HA2 := Lib.hid (HA2.out.below hb1)
          refine hK _ _ ⟨⟨⟨⟨⟨⟨⟨H15.out.1.cell 0, H15.out.1.cell 1⟩, H14.out.1.cell 0⟩, H14.out.1.cell 1⟩, H13.out.1.cell 0⟩, H13.out.1.cell 1⟩, H5.out.1.cell 0⟩, H5.out.1.cell 1⟩ ?_
          clear hK K' hb1
          refine wpPl_goL rfl rfl fun K' hK => ?_
          go_simp
          refine (K7.out _ _ _ H13.out.2 H13.out.2).mono ?_
          rintro e1 V3 ⟨pc, rfl, -, hi, hb1⟩
          have HA7 := Lib.hid hi
          clear hi
          unfold ExV
          replace HY := Lib.hid (HY.out.trans (hb1.mono HY.out.size))
          replace HE1 := Lib.hid (HE1.out.below hb1)
          replace HE2 := Lib.hid (HE2.out.below hb1)
          replace HE5 := Lib.hid (HE5.out.below hb1)
          replace H12 := Lib.hid (H12.out.below hb1)
          replace H13 := Lib.hid (H13.out.below hb1)
          replace H14 := Lib.hid (H14.out.below hb1)
          replace H15 := Lib.hid (H15.out.below hb1)
          replace H5 := Lib.hid (H5.out.below hb1)
          replace HA2 := Lib.hid (HA2.out.below hb1)
          replace HA4 := Lib.hid (HA4.out.below hb1)
          refine hK _ _ ⟨⟨⟨⟨⟨⟨⟨H15.out.1.cell 0, H15.out.1.cell 1⟩, H14.out.1.cell 0⟩, H14.out.1.cell 1⟩, H13.out.1.cell 0⟩, H13.out.1.cell 1⟩, H5.out.1.cell 0⟩, H5.out.1.cell 1⟩ ?_
          clear hK K' hb1
          refine wpPl_nil ?_
          simp only [List.drop_succ_cons, List.drop_zero]
          skip
          go_wp2_with fail
          refine (K8.out _ _ _ HA7.out H5.out.2).mono ?_
          rintro z21 w21 ⟨pd, rfl, -, hi21, hb21⟩
          have HA9 := Lib.hid hi21
          replace HA4 := Lib.hid (HA4.out.below hb21)
          replace HY := Lib.hid (HY.out.trans (hb21.mono HY.out.size))
          replace HE1 := Lib.hid (HE1.out.below hb21)
          replace HE2 := Lib.hid (HE2.out.below hb21)
          replace HE5 := Lib.hid (HE5.out.below hb21)
          replace H12 := Lib.hid (H12.out.below hb21)
          replace H5 := Lib.hid (H5.out.below hb21)
          clear hi21 hb21 HA2 HA7 H13 H14 H15
          unfold ExV
          go_wp2_with fail
          refine (K9.out _ _ _ HA4.out HA9.out).mono ?_
          rintro z22 w22 ⟨rfl, hb22⟩
          replace HY := Lib.hid (HY.out.trans (hb22.mono HY.out.size))
          replace HE1 := Lib.hid (HE1.out.below hb22)
          replace HE2 := Lib.hid (HE2.out.below hb22)
          replace HE5 := Lib.hid (HE5.out.below hb22)
          replace H12 := Lib.hid (H12.out.below hb22)
          replace H5 := Lib.hid (H5.out.below hb22)
          clear hb22 HA4 HA9 K1 K2 K3 K4 K5 K6 K7 K8 K9 KS KA
          go_wp2
          refine wp_region_pl (fun w' : World => ((((((((w'.cell? ⟨b6, 2, none⟩ = some (.pointer (some ⟨q1, 0, none⟩)) ∧ w'.cell? ⟨b6, 3, none⟩ = some (.int .i64 G1)) ∧ w'.cell? ⟨b6, 4, none⟩ = some (.pointer (some ⟨q2, 0, none⟩))) ∧ w'.cell? ⟨b6, 5, none⟩ = some (.int .i64 G2)) ∧ w'.cell? ⟨b6, 10, none⟩ = some (.pointer (some ⟨q5', 0, none⟩))) ∧ w'.cell? ⟨b6, 11, none⟩ = some (.int .i64 G5)) ∧ w'.cell? ⟨b5, 0, none⟩ = some (.pointer (some ⟨q5, 0, none⟩))) ∧ w'.cell? ⟨b5, 1, none⟩ = some (.int .i64 f)) ∧ w'.cell? ⟨b12, 0, none⟩ = some (.pointer (some ⟨q12, 0, none⟩))) ∧ w'.cell? ⟨b12, 1, none⟩ = some (.int .i64 eo)) 19 (.take 0 (.take 1 (.take 2 (.take 3 (.take 4 (.run 5 (.take 6 (.take 7 (.take 8 (.take 9 (.take 10 (.run 11 (.take 12 (.take 13 (.take 14 (.take 15 (.take 16 (.run 17 (.run 18 .nil))))))))))))))))))) (by kernel_rfl) (by kernel_rfl) ?_
          replace HY := Lib.hid (HY.out.trans ((drew_below _).mono HY.out.size))
          replace HE1 := Lib.hid (HE1.out.below (drew_below _))
          replace HE2 := Lib.hid (HE2.out.below (drew_below _))
          replace HE5 := Lib.hid (HE5.out.below (drew_below _))
          replace H12 := Lib.hid (H12.out.below (drew_below _))
          replace H5 := Lib.hid (H5.out.below (drew_below _))
          generalize World.drew _ = W22 at HY HE1 HE2 HE5 H12 H5 ⊢
          have hS : (fun w' : World => ((((((((w'.cell? ⟨b6, 2, none⟩ = some (.pointer (some ⟨q1, 0, none⟩)) ∧ w'.cell? ⟨b6, 3, none⟩ = some (.int .i64 G1)) ∧ w'.cell? ⟨b6, 4, none⟩ = some (.pointer (some ⟨q2, 0, none⟩))) ∧ w'.cell? ⟨b6, 5, none⟩ = some (.int .i64 G2)) ∧ w'.cell? ⟨b6, 10, none⟩ = some (.pointer (some ⟨q5', 0, none⟩))) ∧ w'.cell? ⟨b6, 11, none⟩ = some (.int .i64 G5)) ∧ w'.cell? ⟨b5, 0, none⟩ = some (.pointer (some ⟨q5, 0, none⟩))) ∧ w'.cell? ⟨b5, 1, none⟩ = some (.int .i64 f)) ∧ w'.cell? ⟨b12, 0, none⟩ = some (.pointer (some ⟨q12, 0, none⟩))) ∧ w'.cell? ⟨b12, 1, none⟩ = some (.int .i64 eo)) W22 := ⟨⟨⟨⟨⟨⟨⟨⟨⟨HE1.out.c, HE1.out.d⟩, HE2.out.c⟩, HE2.out.d⟩, HE5.out.c⟩, HE5.out.d⟩, H5.out.1.cell 0⟩, H5.out.1.cell 1⟩, H12.out.1.cell 0⟩, H12.out.1.cell 1⟩
          repeat (refine wpPl_takeL (v := ?_) rfl rfl (fun _ _ _ h => h) rfl (fun w' hSw => ?_) hS ?_; rotate_left; (focus (go_simp; with_reducible rfl)); simp only [List.setIfInBounds_toArray, List.set_cons_zero, List.set_cons_succ])
          clear hS
          refine wpPl_goL rfl rfl fun K' hK => ?_
          go_simp
          refine (KB1.out _ _ _ HE1.out.n H5.out.2).mono ?_
          rintro e1 V1 ⟨rfl, hb1⟩
          replace HY := Lib.hid (HY.out.trans (hb1.mono HY.out.size))
          replace HE1 := Lib.hid (HE1.out.below hb1)
          replace HE2 := Lib.hid (HE2.out.below hb1)
          replace HE5 := Lib.hid (HE5.out.below hb1)
          replace H12 := Lib.hid (H12.out.below hb1)
          replace H5 := Lib.hid (H5.out.below hb1)
          refine hK _ _ ⟨⟨⟨⟨⟨⟨⟨⟨⟨HE1.out.c, HE1.out.d⟩, HE2.out.c⟩, HE2.out.d⟩, HE5.out.c⟩, HE5.out.d⟩, H5.out.1.cell 0⟩, H5.out.1.cell 1⟩, H12.out.1.cell 0⟩, H12.out.1.cell 1⟩ ?_
          clear hK K' hb1
          have hS : (fun w' : World => ((((((((w'.cell? ⟨b6, 2, none⟩ = some (.pointer (some ⟨q1, 0, none⟩)) ∧ w'.cell? ⟨b6, 3, none⟩ = some (.int .i64 G1)) ∧ w'.cell? ⟨b6, 4, none⟩ = some (.pointer (some ⟨q2, 0, none⟩))) ∧ w'.cell? ⟨b6, 5, none⟩ = some (.int .i64 G2)) ∧ w'.cell? ⟨b6, 10, none⟩ = some (.pointer (some ⟨q5', 0, none⟩))) ∧ w'.cell? ⟨b6, 11, none⟩ = some (.int .i64 G5)) ∧ w'.cell? ⟨b5, 0, none⟩ = some (.pointer (some ⟨q5, 0, none⟩))) ∧ w'.cell? ⟨b5, 1, none⟩ = some (.int .i64 f)) ∧ w'.cell? ⟨b12, 0, none⟩ = some (.pointer (some ⟨q12, 0, none⟩))) ∧ w'.cell? ⟨b12, 1, none⟩ = some (.int .i64 eo)) V1 := ⟨⟨⟨⟨⟨⟨⟨⟨⟨HE1.out.c, HE1.out.d⟩, HE2.out.c⟩, HE2.out.d⟩, HE5.out.c⟩, HE5.out.d⟩, H5.out.1.cell 0⟩, H5.out.1.cell 1⟩, H12.out.1.cell 0⟩, H12.out.1.cell 1⟩
          repeat (refine wpPl_takeL (v := ?_) rfl rfl (fun _ _ _ h => h) rfl (fun w' hSw => ?_) hS ?_; rotate_left; (focus (go_simp; with_reducible rfl)); simp only [List.setIfInBounds_toArray, List.set_cons_zero, List.set_cons_succ])
          clear hS
          refine wpPl_goL rfl rfl fun K' hK => ?_
          go_simp
          refine (KB3.out _ _ _ HE2.out.n H5.out.2).mono ?_
          rintro e1 V2 ⟨rfl, hb1⟩
          replace HY := Lib.hid (HY.out.trans (hb1.mono HY.out.size))
          replace HE1 := Lib.hid (HE1.out.below hb1)
          replace HE2 := Lib.hid (HE2.out.below hb1)
          replace HE5 := Lib.hid (HE5.out.below hb1)
          replace H12 := Lib.hid (H12.out.below hb1)
          replace H5 := Lib.hid (H5.out.below hb1)
          refine hK _ _ ⟨⟨⟨⟨⟨⟨⟨⟨⟨HE1.out.c, HE1.out.d⟩, HE2.out.c⟩, HE2.out.d⟩, HE5.out.c⟩, HE5.out.d⟩, H5.out.1.cell 0⟩, H5.out.1.cell 1⟩, H12.out.1.cell 0⟩, H12.out.1.cell 1⟩ ?_
          clear hK K' hb1
          have hS : (fun w' : World => ((((((((w'.cell? ⟨b6, 2, none⟩ = some (.pointer (some ⟨q1, 0, none⟩)) ∧ w'.cell? ⟨b6, 3, none⟩ = some (.int .i64 G1)) ∧ w'.cell? ⟨b6, 4, none⟩ = some (.pointer (some ⟨q2, 0, none⟩))) ∧ w'.cell? ⟨b6, 5, none⟩ = some (.int .i64 G2)) ∧ w'.cell? ⟨b6, 10, none⟩ = some (.pointer (some ⟨q5', 0, none⟩))) ∧ w'.cell? ⟨b6, 11, none⟩ = some (.int .i64 G5)) ∧ w'.cell? ⟨b5, 0, none⟩ = some (.pointer (some ⟨q5, 0, none⟩))) ∧ w'.cell? ⟨b5, 1, none⟩ = some (.int .i64 f)) ∧ w'.cell? ⟨b12, 0, none⟩ = some (.pointer (some ⟨q12, 0, none⟩))) ∧ w'.cell? ⟨b12, 1, none⟩ = some (.int .i64 eo)) V2 := ⟨⟨⟨⟨⟨⟨⟨⟨⟨HE1.out.c, HE1.out.d⟩, HE2.out.c⟩, HE2.out.d⟩, HE5.out.c⟩, HE5.out.d⟩, H5.out.1.cell 0⟩, H5.out.1.cell 1⟩, H12.out.1.cell 0⟩, H12.out.1.cell 1⟩
          repeat (refine wpPl_takeL (v := ?_) rfl rfl (fun _ _ _ h => h) rfl (fun w' hSw => ?_) hS ?_; rotate_left; (focus (go_simp; with_reducible rfl)); simp only [List.setIfInBounds_toArray, List.set_cons_zero, List.set_cons_succ])
          clear hS
          refine wpPl_goL rfl rfl fun K' hK => ?_
          go_simp
          refine (rPower_any (-1074) _).mono ?_
          rintro e1 V3 ⟨pe, rfl, -, hi, hb1⟩
          have HA17 := Lib.hid hi
          clear hi
          unfold ExV
          replace HY := Lib.hid (HY.out.trans (hb1.mono HY.out.size))
          replace HE1 := Lib.hid (HE1.out.below hb1)
          replace HE2 := Lib.hid (HE2.out.below hb1)
          replace HE5 := Lib.hid (HE5.out.below hb1)
          replace H12 := Lib.hid (H12.out.below hb1)
          replace H5 := Lib.hid (H5.out.below hb1)
          refine hK _ _ ⟨⟨⟨⟨⟨⟨⟨⟨⟨HE1.out.c, HE1.out.d⟩, HE2.out.c⟩, HE2.out.d⟩, HE5.out.c⟩, HE5.out.d⟩, H5.out.1.cell 0⟩, H5.out.1.cell 1⟩, H12.out.1.cell 0⟩, H12.out.1.cell 1⟩ ?_
          clear hK K' hb1
          refine wpPl_goL rfl rfl fun K' hK => ?_
          go_simp
          refine (KC.out _ _ _ H12.out.2 HA17.out).mono ?_
          rintro e1 V4 ⟨pg, rfl, hi, hb1⟩
          have HA18 := Lib.hid hi
          clear hi
          unfold ExV
          replace HY := Lib.hid (HY.out.trans (hb1.mono HY.out.size))
          replace HE1 := Lib.hid (HE1.out.below hb1)
          replace HE2 := Lib.hid (HE2.out.below hb1)
          replace HE5 := Lib.hid (HE5.out.below hb1)
          replace H12 := Lib.hid (H12.out.below hb1)
          replace H5 := Lib.hid (H5.out.below hb1)
          replace HA17 := Lib.hid (HA17.out.below hb1)
          refine hK _ _ ⟨⟨⟨⟨⟨⟨⟨⟨⟨HE1.out.c, HE1.out.d⟩, HE2.out.c⟩, HE2.out.d⟩, HE5.out.c⟩, HE5.out.d⟩, H5.out.1.cell 0⟩, H5.out.1.cell 1⟩, H12.out.1.cell 0⟩, H12.out.1.cell 1⟩ ?_
          clear hK K' hb1
          refine wpPl_nil ?_
          simp only [List.drop_succ_cons, List.drop_zero]
          skip
          go_wp2_with fail
          refine (KD.out _ _ _ HE5.out.n HA18.out).mono ?_
          rintro z23 w23 ⟨rfl, hb23⟩
          replace HY := Lib.hid (HY.out.trans (hb23.mono HY.out.size))
          clear hb23
          go_wp2_with fail
          refine (awake5_any _ (HTY.out _ HY.out).1 (HTY.out _ HY.out).2).mono ?_
          rintro z24 w24 ⟨rfl, hb24⟩
          have HBE := Lib.hid (HWY.out _ (HY.out.trans (hb24.mono HY.out.size)))
          clear hb24
          go_wp2
          go_ret
          exact ⟨rfl, HBE.out⟩

end Go.Proofs.YtjoajbbapfgaoaaGreatDoor
