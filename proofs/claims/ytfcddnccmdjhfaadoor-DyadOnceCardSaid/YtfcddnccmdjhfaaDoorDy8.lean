/- Walks: a number's class, its parts, its dyad. -/
import Derived.Test.YtfcddnccmdjhfaaDoorDy7
import Derived.Test.YtfcddnccmdjhfaaDoorPrt2
namespace Go.Proofs.YtfcddnccmdjhfaaDoor
open Go.RowKit

theorem fbits_eq (n : Nat) (w : World) : (callFunc 39 #[.float .f64 n]).run Tryd.prog w = .ok (.value (.int .u64 n)) w := by
  rw [run_callFunc_extern Tryd.func39 (by kernel_rfl) (by kernel_rfl) (by kernel_rfl) (e := Extern.MathFloatBits.float64bits) (by kernel_rfl)]
  rfl

theorem ffrom_eq (n : Nat) (w : World) : (callFunc 7 #[.int .u64 n]).run Tryd.prog w = .ok (.value (.float .f64 n)) w := by
  rw [run_callFunc_extern Tryd.func7 (by kernel_rfl) (by kernel_rfl) (by kernel_rfl) (e := Extern.MathFloatBits.float64frombits) (by kernel_rfl)]
  rfl

set_option maxRecDepth 100000 in
set_option maxHeartbeats 400000 in
theorem Class_any (b : Nat) (w : World) (h : b < 18446744073709551616) :
    Calls Tryd.prog 40 #[.float .f64 b] w (Gives (.int .i64 (clsB b)) w) := by
  have hf := fbits_eq b
  have HC := Lib.hid fun w => class_any b w h
  have HO := Lib.hid fun w => of_any w
  unfold F64 at HC HO
  clear h
  go_enter Tryd.func40, Tryd.ntmps40
  go_wp2_with fail
  refine (HO.out _).mono ?_
  rintro e1 w1 ⟨rfl, hb1⟩
  have HB1 := Lib.hid hb1
  clear hb1
  go_wp2_with fail
  refine (HC.out _).mono ?_
  rintro e2 w2 ⟨rfl, hb2⟩
  have HB2 := Lib.hid (HB1.out.trans (hb2.mono HB1.out.size))
  clear hb2
  go_wp2
  go_ret
  exact ⟨rfl, HB2.out⟩

/-- Neither infinite nor a NaN. -/
def finB (b : Nat) : Bool := decide (expF b ≠ 2047)

theorem cls_fin (b : Nat) : (finB b = true → (clsB b == 1) = false ∧ (clsB b == 2) = false) ∧ (finB b = false → (clsB b == 1) = true ∨ ((clsB b == 1) = false ∧ (clsB b == 2) = true)) := by
  have key : expF (canonB b) = 2047 ↔ expF b = 2047 := by
    constructor
    · intro h; apply Classical.byContradiction; intro h2
      rw [canonB_fin h2] at h; exact h2 h
    · intro h; apply Classical.byContradiction; intro h2
      exact fin_of_canonB h2 h
  unfold finB
  simp only [decide_eq_true_eq, decide_eq_false_iff_not, Decidable.not_not, beq_eq_false_iff_ne, beq_iff_eq]
  have hh := (clsOf_cases (expF (canonB b)) (fracF (canonB b))).2.2.2.2
  unfold clsB
  rw [key] at hh
  constructor
  · intro h
    exact ⟨fun e => h (hh.2 (.inl e)), fun e => h (hh.2 (.inr e))⟩
  · intro h
    rcases hh.1 h with e | e
    · exact .inl e
    · exact .inr ⟨by rw [e]; decide, e⟩

/-- A slice of numbers, by their bits. -/
def FSl (w : World) (v : Value) (l : List Nat) : Prop :=
  ∃ ao cap, v = .slice ao l.length cap ∧ l.length ≤ cap ∧ l.length ≤ 1099511627776 ∧ (∀ x ∈ l, x < 18446744073709551616) ∧
    (0 < l.length → ∃ b off, ao = some ⟨b, off, none⟩ ∧ b < w.heap.size ∧ ∀ i (h : i < l.length), w.cell? ⟨b, off + i, none⟩ = some (.float .f64 l[i]))

theorem FSl.below {w w' : World} {v : Value} {l : List Nat} (h : FSl w v l) (hb : Below w.heap.size w w') : FSl w' v l := by
  obtain ⟨ao, cap, h1, h2, h3, h4, h5⟩ := h
  refine ⟨ao, cap, h1, h2, h3, h4, fun h0 => ?_⟩
  obtain ⟨b, off, e, hlt, hc⟩ := h5 h0
  exact ⟨b, off, e, Nat.lt_of_lt_of_le hlt hb.size, fun i hi => (hb.cell (p := ⟨b, off + i, none⟩) hlt).trans (hc i hi)⟩

theorem all_take_succ {l : List Nat} {k : Nat} (h : k < l.length) (h1 : (l.take k).all finB = true) (h2 : finB l[k] = true) : (l.take (k + 1)).all finB = true := by
  rw [List.take_succ_eq_append_getElem h, List.all_append, h1]; simp [h2]

set_option maxRecDepth 100000 in
set_option maxHeartbeats 800000 in
theorem Finite_any (v : Value) (l : List Nat) (w : World) (hl : FSl w v l) :
    Calls Tryd.prog 20 #[v] w (Gives (.bool (l.all finB)) w) := by
  obtain ⟨ao, cap, rfl, hcap, hn, hx, hc⟩ := hl
  have HC := Lib.hid hc
  have HX := Lib.hid hx
  generalize hv : l.all finB = r
  have HV := Lib.hid hv
  clear hc hx hv
  go_enter Tryd.func20, Tryd.ntmps20
  go_wp2
  go_loopw [8] (fun i wr => ∃ k : Nat, k ≤ l.length ∧ i = .int .i64 k ∧ Hid ((l.take k).all finB = true) ∧ Hid (Below w.heap.size w wr)) (fun i _ => l.length - (intOf i).toNat)
  case atStart => exact ⟨0, Nat.zero_le _, rfl, Lib.hid (by simp), Lib.hid (Below.refl _ _)⟩
  case round =>
    obtain ⟨k, hk, rfl, HA, HB⟩ := hrel
    by_cases hlt : k < l.length
    · obtain ⟨b, off, rfl, hb, hcc⟩ := HC.out (by omega)
      have hck := (HB.out.cell (p := ⟨b, off + k, none⟩) hb).trans (hcc k hlt)
      have HXk : Hid (l[k] < 18446744073709551616) := Lib.hid (HX.out _ (List.getElem_mem _))
      have HN : Hid (finB l[k] = true → (l.take (k + 1)).all finB = true) := Lib.hid (all_take_succ hlt HA.out)
      have HM : Hid (finB l[k] = false → r = false) := by
        refine Lib.hid fun h => ?_
        rw [← HV.out, List.all_eq_false]
        exact ⟨l[k], List.getElem_mem _, by rw [h]; simp⟩
      clear hcc
      generalize l[k] = x at *
      obtain ⟨f1, f2⟩ := cls_fin x
      generalize hcx : clsB x = cx at *
      have HCX := Lib.hid hcx
      clear hcx
      by_cases hf : finB x = true
      · obtain ⟨g1, g2⟩ := f1 hf
        have HF := Lib.hid hf
        clear f1 f2 hf
        go_wp2_with fail
        refine (Class_any x _ HXk.out).mono ?_
        rintro e1 w1 ⟨rfl, hb1⟩
        rw [HCX.out]
        have HB1 := Lib.hid (HB.out.trans (hb1.mono HB.out.size))
        clear hb1
        go_wp2
        go_roundw
        case rel => exact ⟨k + 1, by omega, by go_num, Lib.hid (HN.out HF.out), HB1⟩
        case measure => simp [intOf]; omega
      · have hf2 : finB x = false := by simpa using hf
        have HR := Lib.hid (HM.out hf2)
        have ff := f2 hf2
        clear f1 f2 hf hf2
        rcases ff with g1 | ⟨g1, g2⟩
        · go_wp2_with fail
          refine (Class_any x _ HXk.out).mono ?_
          rintro e1 w1 ⟨rfl, hb1⟩
          rw [HCX.out]
          have HB1 := Lib.hid (HB.out.trans (hb1.mono HB.out.size))
          clear hb1
          go_wp2
          go_ret
          exact ⟨by rw [HR.out]; rfl, HB1.out⟩
        · go_wp2_with fail
          refine (Class_any x _ HXk.out).mono ?_
          rintro e1 w1 ⟨rfl, hb1⟩
          rw [HCX.out]
          have HB1 := Lib.hid (HB.out.trans (hb1.mono HB.out.size))
          clear hb1
          go_wp2
          go_ret
          exact ⟨by rw [HR.out]; rfl, HB1.out⟩
    · obtain rfl : k = l.length := by omega
      have HR : Hid (r = true) := by
        refine Lib.hid ?_
        have := HA.out
        rw [List.take_length] at this
        rw [← HV.out]; exact this
      go_wp2
      go_ret
      exact ⟨by rw [HR.out]; rfl, HB.out⟩

theorem mantB_lt (b : Nat) : mantB b < 9007199254740992 := by
  have : fracF b < kHid := Nat.mod_lt _ (by decide)
  unfold mantB kHid at *; split <;> omega

theorem pM_spec (b : Nat) : (mantB b = 0 ∧ pM b = 0 ∧ pE b = 0) ∨ (mantB b ≠ 0 ∧ pM b % 2 = 1 ∧ mantB b = pM b * 2 ^ Lib.ctz 64 (mantB b) ∧ pE b = expB b + Lib.ctz 64 (mantB b)) := by
  unfold pM pE
  by_cases h : mantB b = 0
  · refine .inl ⟨h, ?_, ?_⟩
    · rw [h]; simp
    · rw [if_pos h]
  · refine .inr ⟨h, ?_, ?_, by rw [if_neg h]⟩
    all_goals
      have hlt := mantB_lt b
      generalize mantB b = m at *
      obtain ⟨k, h1, h2⟩ := Lib.ctzFrom_spec 64 m (by omega) (by omega)
      have h3 : Lib.ctz 64 m = Lib.ctzFrom 64 m := by unfold Lib.ctz; rw [if_neg h]
      rw [h3]
      generalize Lib.ctzFrom 64 m = t at *
      rw [h1, Nat.mul_div_cancel_left _ (Nat.two_pow_pos t)]
    · omega
    · exact Nat.mul_comm _ _

/-- The whole part of a finite number's dyad. -/
def valZ (b : Nat) : Int := if sgnB b then -(pM b : Int) else pM b

theorem pM_le (b : Nat) : pM b ≤ mantB b := Nat.div_le_self _ _

theorem expB_bd {b : Nat} (h : finB b = true) : -1074 ≤ expB b ∧ expB b ≤ 971 := by
  unfold finB at h
  have h1 : expF b < 2048 := Nat.mod_lt _ (by decide)
  have h2 : expF b ≠ 2047 := of_decide_eq_true h
  unfold expB; split <;> omega

theorem ctz_lt {m : Nat} (h0 : m ≠ 0) (h : m < 9007199254740992) : Lib.ctz 64 m < 53 := by
  obtain ⟨k, h1, h2⟩ := Lib.ctzFrom_spec 64 m (by omega) (by omega)
  have h3 : Lib.ctz 64 m = Lib.ctzFrom 64 m := by unfold Lib.ctz; rw [if_neg h0]
  rw [h3]
  generalize Lib.ctzFrom 64 m = t at *
  have h4 : 2 ^ t ≤ m := by rw [h1]; exact Nat.le_mul_of_pos_right _ (by omega)
  have h5 : 2 ^ t < 2 ^ 53 := Nat.lt_of_le_of_lt h4 h
  exact (Nat.pow_lt_pow_iff_right (by decide)).1 h5

theorem pE_bd {b : Nat} (h : finB b = true) : -1074 ≤ pE b ∧ pE b ≤ 1023 := by
  have h1 := expB_bd h
  rcases pM_spec b with ⟨-, -, h2⟩ | ⟨h0, -, -, h2⟩
  · rw [h2]; decide
  · have := ctz_lt h0 (mantB_lt b)
    omega

theorem valZ_natAbs (b : Nat) : (valZ b).natAbs = pM b := by unfold valZ; split <;> omega

theorem good_of {b : Nat} (h : finB b = true) : GoodD (valZ b) (pE b) := by
  have h1 := pE_bd h
  refine ⟨?_, ?_, by omega, by omega⟩
  · rcases pM_spec b with ⟨-, h2, h3⟩ | ⟨-, h2, -, -⟩
    · exact .inl ⟨by unfold valZ; rw [h2]; simp, h3⟩
    · refine .inr ?_
      unfold valZ; split <;> omega
  · rw [valZ_natAbs]
    refine Nat.le_trans (bl_le_of_lt (k := 53) ?_) (by decide)
    exact Nat.lt_of_le_of_lt (pM_le b) (mantB_lt b)

theorem canon_fin {b : Nat} (h : finB b = true) : canonB b = b := canonB_fin (of_decide_eq_true h)

theorem parts_fin (b : Nat) (w : World) (h : b < 18446744073709551616) (hf : finB b = true) (hT : Tab64 w) (hTs : 1 < w.heap.size) :
    Calls Tryd.prog 65 #[.int .u64 b, F64] w (Gives (PartsV b) w) := by
  have hc := canon_fin hf
  have h2 : expF b ≠ 2047 := of_decide_eq_true hf
  unfold PartsV pM pE mantB expB
  by_cases he : expF b = 0
  · by_cases h0 : fracF b = 0
    · have hcl : clsB b = 3 := by unfold clsB clsOf; rw [hc, if_neg (by omega), if_pos he, if_pos h0]
      have := parts_zero b w h hcl
      rw [hc] at this
      rw [if_pos he, if_pos h0, h0]
      simpa using this
    · have hcl : clsB b = 4 := by unfold clsB clsOf; rw [hc, if_neg (by omega), if_pos he, if_neg h0]
      have := parts_sub b w h hcl hT hTs
      rw [hc] at this
      rw [if_pos he, if_neg h0, if_pos he]
      exact this
  · have hcl : clsB b = 5 := by unfold clsB clsOf; rw [hc, if_neg h2, if_neg he]
    have := parts_norm b w h hcl hT hTs
    rw [hc] at this
    rw [if_neg he, if_neg (by unfold kHid; omega), if_neg he]
    exact this

set_option maxRecDepth 100000 in
set_option maxHeartbeats 400000 in
theorem Parts_any (b : Nat) (w : World) (h : b < 18446744073709551616) (hf : finB b = true) (hT : Tab64 w) (hTs : 1 < w.heap.size) :
    Calls Tryd.prog 41 #[.float .f64 b] w (Gives (PartsV b) w) := by
  have hfb := fbits_eq b
  have HC := Lib.hid fun W hW => parts_fin b W h hf hW
  have HO := Lib.hid fun w => of_any w
  unfold F64 PartsV at *
  have HT := Lib.hid (And.intro hT hTs)
  clear h hf hT hTs
  generalize sgnB b = s at *
  generalize pM b = m at *
  generalize pE b = pe at *
  have HW0 := Lib.hid (BlkT.new w #[.bool false, .int .u64 0, .int .i64 0] 75)
  go_enter Tryd.func41, Tryd.ntmps41
  go_wp2_with fail
  refine (HO.out _).mono ?_
  rintro e1 w1 ⟨rfl, hb1⟩
  have HB1 := Lib.hid ((below1 w _).trans (hb1.mono (by simp)))
  have HW1 := Lib.hid (HW0.out.below hb1)
  clear hb1
  go_wp2_with fail
  refine (HC.out _ (HT.out.1.below HT.out.2 HB1.out) (Nat.lt_of_lt_of_le HT.out.2 HB1.out.size)).mono ?_
  rintro e2 w2 ⟨rfl, hb2⟩
  have HB2 := Lib.hid (HB1.out.trans (hb2.mono HB1.out.size))
  have HW2 := Lib.hid (HW1.out.below hb2)
  obtain ⟨q0, q1, q2, q3, q4, q5⟩ := HW2.out.cells3
  clear hb2
  go_wp2
  refine bodyPost_ret (v := .tuple #[.agg #[.bool s, .int .u64 m, .int .i64 pe], .int .i64 0]) (by simp [results, Tryd.results41, go_sem, q0, q1, q2]) rfl ⟨rfl, ?_⟩
  exact ((HB2.out.setCell (Nat.le_refl _) _).setCell (Nat.le_refl _) _).setCell (Nat.le_refl _) _

end Go.Proofs.YtfcddnccmdjhfaaDoor
