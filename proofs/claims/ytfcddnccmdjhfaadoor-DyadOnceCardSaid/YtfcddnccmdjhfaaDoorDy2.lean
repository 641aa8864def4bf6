/- Walks: an exact number made odd. -/
import Derived.Test.YtfcddnccmdjhfaaDoorDy1
namespace Go.Proofs.YtfcddnccmdjhfaaDoor
open Go.RowKit

/-- Since w0 a result's block rb and a whole number's block ib are the call's own; nothing that was there has changed. -/
structure Own2 (w0 wr : World) (rb rt : Nat) (rcs : Array Value) (ib : Nat) (y : Int) : Prop where
  int : IntAt wr ib 0 y
  res : BlkT wr rb rt rcs
  objT : ObjT rt
  below : Below w0.heap.size w0 wr
  ne : rb ≠ ib
  rge : w0.heap.size ≤ rb
  ige : w0.heap.size ≤ ib

theorem Own2.puts {w0 wr w2 : World} {rb rt ib : Nat} {rcs : Array Value} {y x : Int} (h : Own2 w0 wr rb rt rcs ib y) (hi : IntAt w2 ib 0 x) (hm : Mod ib 0 wr w2) : Own2 w0 w2 rb rt rcs ib x :=
  ⟨hi, h.res.mod hm h.ne, h.objT, hm.below h.below h.ige h.below.size, h.ne, h.rge, h.ige⟩

theorem Own2.later {w0 wr w2 : World} {rb rt ib : Nat} {rcs : Array Value} {y : Int} (h : Own2 w0 wr rb rt rcs ib y) (hb : Below wr.heap.size wr w2) : Own2 w0 w2 rb rt rcs ib y :=
  ⟨h.int.below hb, h.res.below hb, h.objT, h.below.trans (hb.mono h.below.size), h.ne, h.rge, h.ige⟩

theorem Own2.store2 {w0 wr : World} {rb rt ib : Nat} {rcs : Array Value} {y : Int} (h : Own2 w0 wr rb rt rcs ib y) (x0 x1 : Value) :
    IntAt ((wr.setCell ⟨rb, 0, none⟩ x0).setCell ⟨rb, 1, none⟩ x1) ib 0 y ∧ Below w0.heap.size w0 ((wr.setCell ⟨rb, 0, none⟩ x0).setCell ⟨rb, 1, none⟩ x1) :=
  ⟨(h.int.setOther h.res h.objT h.ne.symm _).setOther (h.res.set _) h.objT h.ne.symm _, (h.below.setCell h.rge _).setCell h.rge _⟩

theorem drew_below (w : World) : Below w.heap.size w w.drew := (Below.refl _ _).drew

theorem hv_hv (y f : Int) : hvZ (hvZ y) = hvZ y ∧ hvE (hvZ y) (hvE y f) = hvE y f := by
  by_cases h : y = 0
  · subst h; exact ⟨by decide, by rw [hvZ_zero]; unfold hvE; simp [tzb_zero]⟩
  · have h1 := hvZ_mod h
    exact ⟨hvZ_of_odd h1, hvE_of_odd h1⟩

theorem bit0 (y : Int) : (y.natAbs / 2 ^ 0 % 2 : Nat) = if y % 2 = 1 then 1 else 0 := by
  rw [Nat.pow_zero, Nat.div_one]; split <;> omega

theorem tzb_pos {y : Int} (h0 : y ≠ 0) (h : ¬ y % 2 = 1) : 0 < tzb y.natAbs := by
  rcases Nat.eq_zero_or_pos (tzb y.natAbs) with h1 | h1
  · obtain ⟨m, hm⟩ := tzb_spec (N := y.natAbs) (by omega)
    rw [h1] at hm; omega
  · exact h1

theorem ln_of_bl {N B : Nat} (h : bl N ≤ B) : ln 64 N ≤ B := Nat.le_trans (ln_le_bl 64 N (by decide)) h

/-- The state of halve's loop. -/
def HalfRel (z e : Int) (ib : Nat) (w0 wr : World) (y f : Int) : Prop :=
  hvZ y = hvZ z ∧ hvE y f = hvE z e ∧ y.natAbs ≤ z.natAbs ∧ Own2 w0 wr (w0.heap.size + 1) 51 #[.pointer none, .int .i64 0] ib y

theorem Tab64.below {w w' : World} (h : Tab64 w) (hs : 1 < w.heap.size) (hb : Below w.heap.size w w') : Tab64 w' :=
  fun j hj => (hb.cell (p := ⟨_, j, none⟩) hs).trans (h j hj)

theorem sign_ne {y : Int} (h : y ≠ 0) : (y.sign != 0) = true := by
  rcases Int.lt_trichotomy y 0 with h1 | h1 | h1
  · rw [Int.sign_eq_neg_one_of_neg h1]; rfl
  · exact absurd h1 h
  · rw [Int.sign_eq_one_of_pos h1]; rfl

set_option maxRecDepth 100000 in
set_option maxHeartbeats 800000 in
theorem halve_any (b : Nat) (z e : Int) (w : World) (hx : IntAt w b 0 z) (hl : bl z.natAbs ≤ 68719476736) (h1 : -1099511627776 ≤ e) (h2 : e ≤ 1099511627776) (hT : Tab64 w) (hTs : 1 < w.heap.size) :
    Calls Tryd.prog 43 #[ExV b e] w (ExNew (hvZ z) (hvE z e) w) := by
  have HX := Lib.hid hx
  have HL := Lib.hid hl
  have HT := Lib.hid hT
  have HTs := Lib.hid hTs
  have HEB : Hid (hvE z e ≤ e + 68719476736) := Lib.hid (by unfold hvE; have := tzb_le (N := z.natAbs); omega)
  clear hx hl hT hTs
  unfold ExV
  go_enter Tryd.func43, Tryd.ntmps43
  go_wp2
  refine wp_region_plan (fun w' : World => w'.cell? ⟨w.heap.size, 0, none⟩ = some (.pointer (some ⟨b, 0, none⟩)) ∧ w'.cell? ⟨w.heap.size, 1, none⟩ = some (.int .i64 e)) 7 [(1, true), (2, true), (4, true), (5, true), (0, false), (3, false), (6, true)] (by kernel_rfl) (by kernel_rfl) ?_
  generalize hW : ((w.alloc (.cells #[.pointer (some ⟨b, 0, none⟩), .int .i64 e] 51)).alloc (.cells #[.pointer none, .int .i64 0] 51)).drew = W
  have HW : Hid (BlkT W w.heap.size 51 #[.pointer (some ⟨b, 0, none⟩), .int .i64 e] ∧ BlkT W (w.heap.size + 1) 51 #[.pointer none, .int .i64 0] ∧ Below w.heap.size w W) := by
    subst hW
    refine Lib.hid ⟨((BlkT.new w _ _).alloc _).below (drew_below _), ?_, (((Below.refl _ _).alloc (Nat.le_refl _) _).alloc (by simp) _).drew⟩
    have := (BlkT.new (w.alloc (.cells #[.pointer (some ⟨b, 0, none⟩), .int .i64 e] 51)) #[.pointer none, .int .i64 0] 51).below (drew_below _)
    simpa using this
  have hS : (fun w' : World => w'.cell? ⟨w.heap.size, 0, none⟩ = some (.pointer (some ⟨b, 0, none⟩)) ∧ w'.cell? ⟨w.heap.size, 1, none⟩ = some (.int .i64 e)) W := ⟨HW.out.1.cell 0, HW.out.1.cell 1⟩
  clear hW
  repeat (refine wpPlan_take (v := ?_) rfl (fun _ _ _ h => h) rfl (fun w' hSw => ?_) hS ?_; rotate_left; focus (go_simp; with_reducible rfl); try simp only [Act.put, List.setIfInBounds_toArray, List.set_cons_zero, List.set_cons_succ])
  refine wpPlan_run rfl fun K' hK => ?_
  go_simp
  have HW1 : Hid (BlkT (W.alloc (.cells #[.bool false, .slice none 0 0] 60)) w.heap.size 51 #[.pointer (some ⟨b, 0, none⟩), .int .i64 e]) := Lib.hid (HW.out.1.alloc _)
  refine hK _ _ ⟨HW1.out.cell 0, HW1.out.cell 1⟩ ?_
  clear hK K' hS
  have HO : Hid (Own2 w (W.alloc (.cells #[.bool false, .slice none 0 0] 60)) (w.heap.size + 1) 51 #[.pointer none, .int .i64 0] W.heap.size 0) :=
    Lib.hid ⟨IntK.zero W _ objT_int, HW.out.2.1.alloc _, objT_exact, HW.out.2.2.alloc HW.out.2.2.size _, by have := HW.out.2.1.lt; omega, by omega, HW.out.2.2.size⟩
  refine wpPlan_run rfl fun K' hK => ?_
  go_simp
  refine (Set_any _ 0 _ 0 z _ HO.out.int.1 ((HX.out.below HW.out.2.2).below (Below.alloc_self _ _)) (ln_of_bl HL.out)).mono ?_
  rintro e1 w1 ⟨rfl, hi1, hm1⟩
  have HO1 := Lib.hid (HO.out.puts hi1 hm1)
  have HW2 := Lib.hid (HW1.out.mod hm1 (by have := HW.out.1.lt; omega))
  refine hK _ _ ⟨HW2.out.cell 0, HW2.out.cell 1⟩ ?_
  have hS : (fun w' : World => w'.cell? ⟨w.heap.size, 0, none⟩ = some (.pointer (some ⟨b, 0, none⟩)) ∧ w'.cell? ⟨w.heap.size, 1, none⟩ = some (.int .i64 e)) w1 := ⟨HW2.out.cell 0, HW2.out.cell 1⟩
  clear hK K' hi1 hm1
  repeat (refine wpPlan_take (v := ?_) rfl (fun _ _ _ h => h) rfl (fun w' hSw => ?_) hS ?_; rotate_left; focus (go_simp; with_reducible rfl); try simp only [Act.put, List.setIfInBounds_toArray, List.set_cons_zero, List.set_cons_succ])
  clear hS
  refine wpPlan_nil ?_
  simp only [List.drop_succ_cons, List.drop_zero]
  generalize W.heap.size = ib at HO1
  go_wp2
  clear HW HW1 HO HW2
  have HR1 : Hid (HalfRel z e ib w w1 z e) := Lib.hid ⟨rfl, rfl, Nat.le_refl _, HO1.out⟩
  go_loopw [4] (fun i wr => ∃ (y f : Int), i = .int .i64 f ∧ f ≤ hvE z e ∧ e ≤ f ∧ Hid (HalfRel z e ib w wr y f))
    (fun i _ => (hvE z e - intOf i).toNat)
  case atStart => exact ⟨z, e, rfl, by unfold hvE; omega, Int.le_refl _, HR1⟩
  case round =>
    obtain ⟨y, f, rfl, hfE, hef, HR⟩ := hrel
    obtain ⟨r0, r1, r2, r3⟩ := HR.out.2.2.2.res.cells2
    have HLy : Hid (bl y.natAbs ≤ 68719476736) := Lib.hid (Nat.le_trans (bl_mono HR.out.2.2.1) HL.out)
    have HEB2 := HEB.out
    by_cases h0 : y = 0
    · have HS0 : Hid (y.sign = 0) := Lib.hid (by subst h0; rfl)
      have HE : Hid (ExV ib f = ExV ib (hvE z e) ∧ hvZ z = y) := by
        refine Lib.hid ⟨?_, by rw [← HR.out.1, h0]; exact hvZ_zero⟩
        rw [← HR.out.2.1, h0]; unfold hvE; simp [tzb_zero]
      clear h0
      go_wp2_with fail
      refine (Sign_any _ 0 y _ HR.out.2.2.2.int).mono ?_
      rintro e2 w2 ⟨rfl, rfl⟩
      rw [HS0.out]
      go_wp2
      refine bodyPost_ret (v := ExV ib f) (by simp [results, Tryd.results43, go_sem, r0, r1, ExV]) rfl ⟨ib, by rw [HE.out.1], HR.out.2.2.2.ige, ?_, ?_⟩
      · rw [HE.out.2]; exact (HR.out.2.2.2.store2 _ _).1
      · exact (HR.out.2.2.2.store2 _ _).2
    · obtain ⟨sg, HS, hsg⟩ : ∃ sg, Hid (y.sign = sg) ∧ (sg != 0) = true := ⟨_, Lib.hid rfl, sign_ne h0⟩
      by_cases hodd : y % 2 = 1
      · have HB : Hid ((y.natAbs / 2 ^ 0 % 2 : Nat) = 1) := Lib.hid (by rw [bit0, if_pos hodd])
        have HE : Hid (ExV ib f = ExV ib (hvE z e) ∧ hvZ z = y) := by
          refine Lib.hid ⟨?_, by rw [← HR.out.1]; exact hvZ_of_odd hodd⟩
          rw [← HR.out.2.1, hvE_of_odd hodd]
        clear h0 hodd
        go_wp2_with fail
        refine (Sign_any _ 0 y _ HR.out.2.2.2.int).mono ?_
        rintro e2 w2 ⟨rfl, rfl⟩
        rw [HS.out]
        go_wp2_with fail
        refine (Bit_any _ 0 0 y _ HR.out.2.2.2.int (by omega)).mono ?_
        rintro e2 w2 ⟨rfl, rfl⟩
        rw [HB.out]
        go_wp2
        refine bodyPost_ret (v := ExV ib f) (by simp [results, Tryd.results43, go_sem, r0, r1, ExV]) rfl ⟨ib, by rw [HE.out.1], HR.out.2.2.2.ige, ?_, ?_⟩
        · rw [HE.out.2]; exact (HR.out.2.2.2.store2 _ _).1
        · exact (HR.out.2.2.2.store2 _ _).2
      · have HB : Hid ((y.natAbs / 2 ^ 0 % 2 : Nat) = 0) := Lib.hid (by rw [bit0, if_neg hodd])
        have htp := tzb_pos h0 hodd
        have HfE : Hid (f + tzb y.natAbs = hvE z e) := Lib.hid (by rw [← HR.out.2.1]; rfl)
        have HT2 := Lib.hid (HT.out.below HTs.out HR.out.2.2.2.below)
        have ht3 : tzb y.natAbs ≤ 68719476736 := Nat.le_trans (tzb_le (N := y.natAbs)) HLy.out
        generalize htz : tzb y.natAbs = t at *
        have HTZ := Lib.hid htz
        have ht2 : f + t ≤ 1168231104512 := by have := HfE.out; omega
        clear h0 hodd htz
        go_wp2_with fail
        refine (Sign_any _ 0 y _ HR.out.2.2.2.int).mono ?_
        rintro e2 w2 ⟨rfl, rfl⟩
        rw [HS.out]
        go_wp2_with fail
        refine (Bit_any _ 0 0 y _ HR.out.2.2.2.int (by omega)).mono ?_
        rintro e2 w2 ⟨rfl, rfl⟩
        rw [HB.out]
        go_wp2_with fail
        refine (TrailingZeroBits_any _ 0 y _ HR.out.2.2.2.int HT2.out (ln_of_bl HLy.out)).mono ?_
        rintro e2 w2 ⟨rfl, rfl⟩
        rw [HTZ.out]
        go_wp2_with fail
        refine (Rsh_any _ 0 _ 0 t y _ HR.out.2.2.2.int.1 HR.out.2.2.2.int (ln_of_bl HLy.out) (by omega)).mono ?_
        rintro e2 w2 ⟨rfl, hi2, hm2⟩
        have HR2 : Hid (HalfRel z e ib w w2 (hvZ y) (f + t)) := by
          have h3 : y / 2 ^ t = hvZ y := by rw [← HTZ.out]; rfl
          have h4 : hvE y f = f + t := by rw [← HTZ.out]; rfl
          rw [h3] at hi2
          refine Lib.hid ⟨by rw [(hv_hv y f).1]; exact HR.out.1, by rw [← h4, (hv_hv y f).2]; exact HR.out.2.1, Nat.le_trans hvZ_natAbs_le HR.out.2.2.1, HR.out.2.2.2.puts hi2 hm2⟩
        clear hi2 hm2
        go_wp2
        go_roundw
        case rel => exact ⟨hvZ y, f + t, rfl, by rw [HfE.out]; exact Int.le_refl _, by omega, HR2⟩
        case measure => simp [intOf]; have := HfE.out; omega

end Go.Proofs.YtfcddnccmdjhfaaDoor
