/- Walks: anatomy's fields of a number. Printed by wip/gen/fld.py. -/
import Derived.Test.YtfcddnccmdjhfaaDoorFmt
namespace Go.Proofs.YtfcddnccmdjhfaaDoor
open Go.RowKit

/-- A NaN's bits; the bits, those of one NaN for any; the fields. -/
def nanB (b : Nat) : Bool := decide (kInf < b % kSign)
def canonB (b : Nat) : Nat := if nanB b then kNone else b
def sgnB (b : Nat) : Bool := decide (kSign ≤ b)
def expF (b : Nat) : Nat := b / kHid % 2048
def fracF (b : Nat) : Nat := b % kHid

theorem andNot_sign {b : Nat} (h : b < 18446744073709551616) : bits .andNot .u64 (b : Int) (kSign : Int) = ((b % kSign : Nat) : Int) := by
  have e1 : (BitVec.ofInt 64 (b : Int)).toNat = b := by
    rw [BitVec.ofInt_natCast, BitVec.toNat_ofNat]; exact Nat.mod_eq_of_lt h
  have e2 : (BitVec.ofInt 64 ((kSign : Nat) : Int)) = BitVec.twoPow 64 63 := by decide
  show IntKind.u64.wrap ((BitVec.ofInt 64 (b : Int) &&& ~~~BitVec.ofInt 64 ((kSign : Nat) : Int)).toNat : Int) = _
  have e3 : (BitVec.ofInt 64 (b : Int) &&& ~~~BitVec.ofInt 64 ((kSign : Nat) : Int)).toNat = b % kSign := by
    rw [e2]
    apply Nat.eq_of_testBit_eq
    intro i
    rw [BitVec.testBit_toNat, BitVec.getLsbD_and, BitVec.getLsbD_not, BitVec.getLsbD_twoPow, ← BitVec.testBit_toNat, e1, show kSign = 2 ^ 63 from rfl, Nat.testBit_mod_two_pow]
    by_cases h1 : i < 63
    · simp [h1, show i < 64 from by omega, show ¬ (63 = i) from by omega]
    · by_cases h2 : i = 63
      · subst h2; simp
      · have : b.testBit i = false := Nat.testBit_lt_two_pow (Nat.lt_of_lt_of_le h (show (2 : Nat) ^ 64 ≤ 2 ^ i from Nat.pow_le_pow_right (by decide) (by omega)))
        simp [this]
  rw [e3]
  exact wrap_u64_lt _ (Nat.lt_of_le_of_lt (Nat.mod_le _ _) h)

theorem and_sign {b : Nat} (h : b < 18446744073709551616) : (bits .and .u64 (b : Int) (kSign : Int) != 0) = sgnB b := by
  have h0 := bits_and_u64_nat b kSign h (by decide)
  rw [h0]
  have h1 : b &&& kSign = (b.testBit 63).toNat * 2 ^ 63 := by
    apply Nat.eq_of_testBit_eq
    intro i
    rw [Nat.testBit_and, show kSign = 2 ^ 63 from rfl, Nat.testBit_two_pow]
    by_cases hi : 63 = i
    · subst hi
      cases b.testBit 63 <;> decide
    · cases b.testBit 63
      · simp [hi]
      · rw [Bool.toNat_true, Nat.one_mul, Nat.testBit_two_pow]; simp [hi]
  rw [h1, Nat.testBit_eq_decide_div_mod_eq]
  unfold sgnB
  by_cases h2 : kSign ≤ b
  · have : b / 2 ^ 63 % 2 = 1 := by unfold kSign at h2; omega
    simp [this, h2]
  · have : b / 2 ^ 63 % 2 = 0 := by unfold kSign at h2; omega
    simp [this, h2]

theorem and_exp (b : Nat) (h : b < 18446744073709551616) : bits .and .u64 ((b : Int) / 4503599627370496) 2047 = ((expF b : Nat) : Int) := by
  have e : (b : Int) / 4503599627370496 = ((b / 4503599627370496 : Nat) : Int) := by omega
  rw [e]
  have h0 := bits_and_u64_nat (b / 4503599627370496) 2047 (by omega) (by decide)
  rw [show (2047 : Nat) = 2 ^ 11 - 1 from rfl, Nat.and_two_pow_sub_one_eq_mod] at h0
  exact h0

theorem and_frac (b : Nat) (h : b < 18446744073709551616) : bits .and .u64 (b : Int) ((kHid : Int) - 1) = ((fracF b : Nat) : Int) := by
  have h0 := bits_and_u64_nat b (kHid - 1) h (by decide)
  rw [show kHid - 1 = 2 ^ 52 - 1 from rfl, Nat.and_two_pow_sub_one_eq_mod] at h0
  exact h0

theorem canonB_lt {b : Nat} (h : b < 18446744073709551616) : canonB b < 18446744073709551616 := by
  unfold canonB; split
  · decide
  · exact h

set_option maxRecDepth 100000 in
set_option maxHeartbeats 400000 in
theorem nan_any (b : Nat) (w : World) (h : b < 18446744073709551616) :
    Calls Tryd.prog 94 #[.int .u64 b, F64] w (Gives (.bool (nanB b)) w) := by
  have H0 := Lib.hid (Fmt3.new w 99)
  have HI := Lib.hid fun w => infinite_any w
  have HH := Lib.hid fun w => sign_any w
  unfold F64 at HI HH ⊢
  have hop := andNot_sign h
  have HN : Hid (decide ((kInf : Int) < ((b % kSign : Nat) : Int)) = nanB b) := Lib.hid (by unfold nanB; rw [decide_eq_decide]; omega)
  go_enter Tryd.func94, Tryd.ntmps94
  go_wp2
  refine wp_region_plan (fun w' : World => w'.cell? ⟨w.heap.size, 0, none⟩ = some (.int .u64 52) ∧ w'.cell? ⟨w.heap.size, 1, none⟩ = some (.int .i64 2047) ∧ w'.cell? ⟨w.heap.size, 2, none⟩ = some (.int .i64 1075)) 6 [(0, true), (1, true), (4, true), (2, false), (3, true), (5, false)] (by kernel_rfl) (by kernel_rfl) ?_
  generalize hW : (w.alloc (Obj.cells #[Value.int .u64 52, Value.int .i64 2047, Value.int .i64 1075] 99)).drew = W
  have HF : Hid (Fmt3 W w.heap.size ∧ Below w.heap.size w W) := by
    subst hW; exact Lib.hid ⟨H0.out.below ((Below.refl _ _).drew), (Below.alloc_self _ _).drew⟩
  have hS : (fun w' : World => w'.cell? ⟨w.heap.size, 0, none⟩ = some (.int .u64 52) ∧ w'.cell? ⟨w.heap.size, 1, none⟩ = some (.int .i64 2047) ∧ w'.cell? ⟨w.heap.size, 2, none⟩ = some (.int .i64 1075)) W := HF.out.1.2
  clear hW
  repeat (refine wpPlan_take (v := ?_) rfl (fun _ _ _ h => h) rfl (fun w' hSw => ?_) hS ?_; rotate_left; focus (go_simp; with_reducible rfl); try simp only [Act.put, List.setIfInBounds_toArray, List.set_cons_zero, List.set_cons_succ])
  refine wpPlan_run rfl fun K' hK => ?_
  go_simp
  refine (HH.out W).mono ?_
  rintro e w1 ⟨rfl, hb⟩
  have HF1 := Lib.hid (And.intro (HF.out.1.below hb) (HF.out.2.trans (hb.mono (by have := HF.out.1.1; omega))))
  refine hK _ _ (HF1.out.1.2) ?_
  clear hK K' hS
  clear hb
  have hS : (fun w' : World => w'.cell? ⟨w.heap.size, 0, none⟩ = some (.int .u64 52) ∧ w'.cell? ⟨w.heap.size, 1, none⟩ = some (.int .i64 2047) ∧ w'.cell? ⟨w.heap.size, 2, none⟩ = some (.int .i64 1075)) w1 := HF1.out.1.2
  try simp only [Act.put, List.setIfInBounds_toArray, List.set_cons_zero, List.set_cons_succ]
  repeat (refine wpPlan_take (v := ?_) rfl (fun _ _ _ h => h) rfl (fun w' hSw => ?_) hS ?_; rotate_left; focus (go_simp; with_reducible rfl); try simp only [Act.put, List.setIfInBounds_toArray, List.set_cons_zero, List.set_cons_succ])
  refine wpPlan_run rfl fun K' hK => ?_
  go_simp
  refine (HI.out w1).mono ?_
  rintro e w2 ⟨rfl, hb⟩
  have HF2 := Lib.hid (And.intro (HF1.out.1.below hb) (HF1.out.2.trans (hb.mono (by have := HF1.out.1.1; omega))))
  refine hK _ _ (HF2.out.1.2) ?_
  clear hK K' hS
  clear hb
  have hS : (fun w' : World => w'.cell? ⟨w.heap.size, 0, none⟩ = some (.int .u64 52) ∧ w'.cell? ⟨w.heap.size, 1, none⟩ = some (.int .i64 2047) ∧ w'.cell? ⟨w.heap.size, 2, none⟩ = some (.int .i64 1075)) w2 := HF2.out.1.2
  try simp only [Act.put, List.setIfInBounds_toArray, List.set_cons_zero, List.set_cons_succ]
  repeat (refine wpPlan_take (v := ?_) rfl (fun _ _ _ h => h) rfl (fun w' hSw => ?_) hS ?_; rotate_left; focus (go_simp; with_reducible rfl); try simp only [Act.put, List.setIfInBounds_toArray, List.set_cons_zero, List.set_cons_succ])
  clear hS
  refine wpPlan_nil ?_
  simp only [List.drop_succ_cons, List.drop_zero]
  go_wp2
  go_ret
  exact ⟨congrArg Ending.returned (congrArg Value.bool HN.out), HF2.out.2⟩

set_option maxRecDepth 100000 in
set_option maxHeartbeats 400000 in
theorem canon_any (b : Nat) (w : World) (h : b < 18446744073709551616) :
    Calls Tryd.prog 91 #[.int .u64 b, F64] w (Gives (.int .u64 (canonB b)) w) := by
  have H0 := Lib.hid (Fmt3.new w 99)
  have HN := Lib.hid fun w => nan_any b w h
  have HO := Lib.hid fun w => none_any w
  unfold F64 at HN HO ⊢
  obtain ⟨c0, c1, c2⟩ := H0.out.2
  cases hb : nanB b
  · have HC : Hid (canonB b = b) := Lib.hid (by unfold canonB; rw [hb]; rfl)
    rw [hb] at HN
    clear hb h
    go_enter Tryd.func91, Tryd.ntmps91
    go_wp2_with fail
    refine (HN.out _).mono ?_
    rintro e w1 ⟨rfl, hb1⟩
    have HB := Lib.hid ((Below.alloc_self w _).trans (hb1.mono (by simp)))
    clear hb1 c0 c1 c2
    go_wp2
    go_ret
    exact ⟨by rw [HC.out]; rfl, HB.out⟩
  · have HC : Hid (canonB b = kNone) := Lib.hid (by unfold canonB; rw [hb]; rfl)
    rw [hb] at HN
    clear hb h
    go_enter Tryd.func91, Tryd.ntmps91
    go_wp2_with fail
    refine (HN.out _).mono ?_
    rintro e w1 ⟨rfl, hb1⟩
    have HB := Lib.hid ((Below.alloc_self w _).trans (hb1.mono (by simp)))
    obtain ⟨-, d0, d1, d2⟩ := H0.out.below hb1
    clear hb1 c0 c1 c2
    go_wp2_with fail
    refine (HO.out _).mono ?_
    rintro e w2 ⟨rfl, hb2⟩
    have HB2 := Lib.hid (HB.out.trans (hb2.mono HB.out.size))
    clear hb2 d0 d1 d2
    go_wp2
    go_ret
    exact ⟨by rw [HC.out]; rfl, HB2.out⟩

set_option maxRecDepth 100000 in
set_option maxHeartbeats 1000000 in
theorem split_any (b : Nat) (w : World) (h : b < 18446744073709551616) :
    Calls Tryd.prog 85 #[.int .u64 b, F64] w (Gives (.tuple #[.bool (sgnB (canonB b)), .int .i64 (expF (canonB b)), .int .u64 (fracF (canonB b))]) w) := by
  have H0 := Lib.hid (Fmt3.new w 99)
  have HC := Lib.hid fun w => canon_any b w h
  have HI := Lib.hid fun w => hidden_any w
  have HH := Lib.hid fun w => sign_any w
  unfold F64 at HC HI HH ⊢
  obtain ⟨c0, c1, c2⟩ := H0.out.2
  have hx := canonB_lt h
  generalize canonB b = x at *
  have h1 := and_sign hx
  have h2 := and_exp x hx
  have h3 := and_frac x hx
  have hk : IntKind.u64.wrap ((kHid : Int) - 1) = (kHid : Int) - 1 := by decide
  have hl : expF x < 2048 := Nat.mod_lt _ (by decide)
  have HE := Lib.hid h2
  clear hx h
  go_enter Tryd.func85, Tryd.ntmps85
  go_wp2_with fail
  refine (HC.out _).mono ?_
  rintro e wc ⟨rfl, hbc⟩
  have HB := Lib.hid ((Below.alloc_self w _).trans (hbc.mono (by simp)))
  have HFc := Lib.hid (H0.out.below hbc)
  clear hbc c0 c1 c2
  go_wp2_with fail
  refine wp_region_plan (fun w' : World => w'.cell? ⟨w.heap.size, 0, none⟩ = some (.int .u64 52) ∧ w'.cell? ⟨w.heap.size, 1, none⟩ = some (.int .i64 2047) ∧ w'.cell? ⟨w.heap.size, 2, none⟩ = some (.int .i64 1075)) 21 [(0, true), (1, true), (5, true), (6, true), (7, true), (8, true), (9, true), (10, true), (11, true), (12, true), (13, true), (14, true), (15, true), (2, false), (3, true), (4, true), (16, false), (17, true), (18, true), (19, true), (20, true)] (by kernel_rfl) (by kernel_rfl) ?_
  have HF : Hid (Fmt3 wc.drew w.heap.size ∧ Below w.heap.size w wc.drew) := Lib.hid ⟨HFc.out.below ((Below.refl _ _).drew), HB.out.drew⟩
  have hS : (fun w' : World => w'.cell? ⟨w.heap.size, 0, none⟩ = some (.int .u64 52) ∧ w'.cell? ⟨w.heap.size, 1, none⟩ = some (.int .i64 2047) ∧ w'.cell? ⟨w.heap.size, 2, none⟩ = some (.int .i64 1075)) wc.drew := HF.out.1.2
  repeat (refine wpPlan_take (v := ?_) rfl (fun _ _ _ h => h) rfl (fun w' hSw => ?_) hS ?_; rotate_left; focus (go_simp; with_reducible rfl); try simp only [Act.put, List.setIfInBounds_toArray, List.set_cons_zero, List.set_cons_succ])
  refine wpPlan_run rfl fun K' hK => ?_
  go_simp
  refine (HH.out wc.drew).mono ?_
  rintro e w1 ⟨rfl, hb⟩
  have HF1 := Lib.hid (And.intro (HF.out.1.below hb) (HF.out.2.trans (hb.mono (by have := HF.out.1.1; omega))))
  refine hK _ _ (HF1.out.1.2) ?_
  clear hK K' hS
  clear hb
  have hS : (fun w' : World => w'.cell? ⟨w.heap.size, 0, none⟩ = some (.int .u64 52) ∧ w'.cell? ⟨w.heap.size, 1, none⟩ = some (.int .i64 2047) ∧ w'.cell? ⟨w.heap.size, 2, none⟩ = some (.int .i64 1075)) w1 := HF1.out.1.2
  try simp only [Act.put, List.setIfInBounds_toArray, List.set_cons_zero, List.set_cons_succ]
  repeat (refine wpPlan_take (v := ?_) rfl (fun _ _ _ h => h) rfl (fun w' hSw => ?_) hS ?_; rotate_left; focus (go_simp; with_reducible rfl); try simp only [Act.put, List.setIfInBounds_toArray, List.set_cons_zero, List.set_cons_succ])
  refine wpPlan_run rfl fun K' hK => ?_
  go_simp
  refine (HI.out w1).mono ?_
  rintro e w2 ⟨rfl, hb⟩
  have HF2 := Lib.hid (And.intro (HF1.out.1.below hb) (HF1.out.2.trans (hb.mono (by have := HF1.out.1.1; omega))))
  refine hK _ _ (HF2.out.1.2) ?_
  clear hK K' hS
  clear hb
  have hS : (fun w' : World => w'.cell? ⟨w.heap.size, 0, none⟩ = some (.int .u64 52) ∧ w'.cell? ⟨w.heap.size, 1, none⟩ = some (.int .i64 2047) ∧ w'.cell? ⟨w.heap.size, 2, none⟩ = some (.int .i64 1075)) w2 := HF2.out.1.2
  try simp only [Act.put, List.setIfInBounds_toArray, List.set_cons_zero, List.set_cons_succ]
  repeat (refine wpPlan_take (v := ?_) rfl (fun _ _ _ h => h) rfl (fun w' hSw => ?_) hS ?_; rotate_left; focus (go_simp; with_reducible rfl); try simp only [Act.put, List.setIfInBounds_toArray, List.set_cons_zero, List.set_cons_succ])
  clear hS
  refine wpPlan_nil ?_
  simp only [List.drop_succ_cons, List.drop_zero]
  go_wp2
  go_ret3
  exact ⟨by rw [← HE.out]; rfl, HF2.out.2⟩

end Go.Proofs.YtfcddnccmdjhfaaDoor
