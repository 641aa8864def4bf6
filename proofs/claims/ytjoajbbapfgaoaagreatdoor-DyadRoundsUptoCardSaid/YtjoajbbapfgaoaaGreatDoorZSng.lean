/- Walks: anatomy's format, fields, join of singles. Printed by wip/gen/sng.py. -/
import Derived.Test.YtjoajbbapfgaoaaGreatDoorZRd2
namespace Go.Proofs.YtjoajbbapfgaoaaGreatDoor
open Go.RowKit

/-- The format of singles. -/
def F32v : Value := .agg #[.int .u64 23, .int .i64 255, .int .i64 150]

theorem wrap_u32_lt (n : Nat) (h : n < 4294967296) : IntKind.u32.wrap (n : Int) = n := by rw [IntKind.wrap_u32]; omega

theorem fmt_index1 (w : World) : (Instr.index 213 (.agg #[.int .u64 52, .int .i64 2047, .int .i64 1075, .int .u64 23, .int .i64 255, .int .i64 150]) (.int .i64 1)).run Tryz.prog w = .ok (.agg #[.int .u64 23, .int .i64 255, .int .i64 150]) w := by kernel_rfl

set_option maxRecDepth 100000 in
set_option maxHeartbeats 400000 in
theorem ofS_any (w : World) :
    Calls Tryz.prog 165 #[.int .i64 1] w (Gives F32v w) := by
  unfold F32v
  have hix := fmt_index1
  go_enter Tryz.func165, Tryz.ntmps165
  go_wp2
  refine bodyPost_ret (v := .agg #[.int .u64 23, .int .i64 255, .int .i64 150]) (by simp [results, Tryz.results165, go_sem]) rfl ⟨rfl, ?_⟩
  exact (Below.refl _ _).alloc (Nat.le_refl _) _

set_option maxRecDepth 100000 in
set_option maxHeartbeats 400000 in
theorem hiddenS_any (w : World) :
    Calls Tryz.prog 216 #[F32v] w (Gives (.int .u64 jHid) w) := by
  unfold F32v
  go_enter Tryz.func216, Tryz.ntmps216
  go_wp2
  go_ret
  exact ⟨rfl, Below.alloc_self _ _⟩

set_option maxRecDepth 100000 in
set_option maxHeartbeats 400000 in
theorem signS_any (w : World) :
    Calls Tryz.prog 232 #[F32v] w (Gives (.int .u64 jSign) w) := by
  unfold F32v
  go_enter Tryz.func232, Tryz.ntmps232
  go_wp2
  go_ret
  exact ⟨rfl, Below.alloc_self _ _⟩

set_option maxRecDepth 100000 in
set_option maxHeartbeats 400000 in
theorem infiniteS_any (w : World) :
    Calls Tryz.prog 236 #[F32v] w (Gives (.int .u64 jInf) w) := by
  unfold F32v
  go_enter Tryz.func236, Tryz.ntmps236
  go_wp2
  go_ret
  exact ⟨rfl, Below.alloc_self _ _⟩

/-- The cells of a boxed format. -/
def FmtS (w : World) (b : Nat) : Prop := b < w.heap.size ∧ w.cell? ⟨b, 0, none⟩ = some (.int .u64 23) ∧ w.cell? ⟨b, 1, none⟩ = some (.int .i64 255) ∧ w.cell? ⟨b, 2, none⟩ = some (.int .i64 150)

theorem FmtS.new (w : World) (t : Nat) : FmtS (w.alloc (.cells #[.int .u64 23, .int .i64 255, .int .i64 150] t)) w.heap.size :=
  ⟨by simp, by rw [World.cell?_alloc_new]; rfl, by rw [World.cell?_alloc_new]; rfl, by rw [World.cell?_alloc_new]; rfl⟩

theorem FmtS.below {w w' : World} {b : Nat} (h : FmtS w b) (hb : Below w.heap.size w w') : FmtS w' b :=
  ⟨Nat.lt_of_lt_of_le h.1 hb.size, (hb.cell (p := ⟨b, 0, none⟩) h.1).trans h.2.1, (hb.cell (p := ⟨b, 1, none⟩) h.1).trans h.2.2.1, (hb.cell (p := ⟨b, 2, none⟩) h.1).trans h.2.2.2⟩

theorem andNot_signS {b : Nat} (h : b < 4294967296) : bits .andNot .u64 (b : Int) (jSign : Int) = ((b % jSign : Nat) : Int) := by
  have e1 : (BitVec.ofInt 64 (b : Int)).toNat = b := by
    rw [BitVec.ofInt_natCast, BitVec.toNat_ofNat]; exact Nat.mod_eq_of_lt (by omega)
  have e2 : (BitVec.ofInt 64 ((jSign : Nat) : Int)) = BitVec.twoPow 64 31 := by decide
  show IntKind.u64.wrap ((BitVec.ofInt 64 (b : Int) &&& ~~~BitVec.ofInt 64 ((jSign : Nat) : Int)).toNat : Int) = _
  have e3 : (BitVec.ofInt 64 (b : Int) &&& ~~~BitVec.ofInt 64 ((jSign : Nat) : Int)).toNat = b % jSign := by
    rw [e2]
    apply Nat.eq_of_testBit_eq
    intro i
    rw [BitVec.testBit_toNat, BitVec.getLsbD_and, BitVec.getLsbD_not, BitVec.getLsbD_twoPow, ← BitVec.testBit_toNat, e1, show jSign = 2 ^ 31 from rfl, Nat.testBit_mod_two_pow]
    by_cases h1 : i < 31
    · simp [h1, show i < 64 from by omega, show ¬ (31 = i) from by omega]
    · by_cases h2 : i = 31
      · subst h2; simp
      · have : b.testBit i = false := Nat.testBit_lt_two_pow (Nat.lt_of_lt_of_le h (show (2 : Nat) ^ 32 ≤ 2 ^ i from Nat.pow_le_pow_right (by decide) (by omega)))
        simp [this]
  rw [e3]
  exact wrap_u64_lt _ (Nat.lt_of_le_of_lt (Nat.mod_le _ _) (by omega))

def nanS (b : Nat) : Bool := decide (jInf < b % jSign)

set_option maxRecDepth 100000 in
set_option maxHeartbeats 400000 in
theorem nanS_any (b : Nat) (w : World) (h : b < 4294967296) :
    Calls Tryz.prog 244 #[.int .u32 b, F32v] w (Gives (.bool (nanS b)) w) := by
  have H0 := Lib.hid (FmtS.new w 178)
  have HI := Lib.hid fun w => infiniteS_any w
  have HH := Lib.hid fun w => signS_any w
  unfold F32v at HI HH ⊢
  have hwb := wrap_u64_lt b (Nat.lt_trans h (by decide))
  have hop := andNot_signS h
  have HN : Hid (decide ((jInf : Int) < ((b % jSign : Nat) : Int)) = nanS b) := Lib.hid (by unfold nanS; rw [decide_eq_decide]; omega)
  go_enter Tryz.func244, Tryz.ntmps244
  go_wp2
  refine wp_region_plan (fun w' : World => w'.cell? ⟨w.heap.size, 0, none⟩ = some (.int .u64 23) ∧ w'.cell? ⟨w.heap.size, 1, none⟩ = some (.int .i64 255) ∧ w'.cell? ⟨w.heap.size, 2, none⟩ = some (.int .i64 150)) 7 [(0, true), (1, true), (2, true), (5, true), (3, false), (4, true), (6, false)] (by kernel_rfl) (by kernel_rfl) ?_
  generalize hW : (w.alloc (Obj.cells #[Value.int .u64 23, Value.int .i64 255, Value.int .i64 150] 178)).drew = W
  have HF : Hid (FmtS W w.heap.size ∧ Below w.heap.size w W) := by
    subst hW; exact Lib.hid ⟨H0.out.below ((Below.refl _ _).drew), (Below.alloc_self _ _).drew⟩
  have hS : (fun w' : World => w'.cell? ⟨w.heap.size, 0, none⟩ = some (.int .u64 23) ∧ w'.cell? ⟨w.heap.size, 1, none⟩ = some (.int .i64 255) ∧ w'.cell? ⟨w.heap.size, 2, none⟩ = some (.int .i64 150)) W := HF.out.1.2
  clear hW
  repeat (refine wpPlan_take (v := ?_) rfl (fun _ _ _ h => h) rfl (fun w' hSw => ?_) hS ?_; rotate_left; focus (go_simp; with_reducible rfl); try simp only [Act.put, List.setIfInBounds_toArray, List.set_cons_zero, List.set_cons_succ])
  refine wpPlan_run rfl fun K' hK => ?_
  go_simp
  refine (HH.out W).mono ?_
  rintro e w1 ⟨rfl, hb⟩
  have HF1 := Lib.hid (And.intro (HF.out.1.below hb) (HF.out.2.trans (hb.mono (by have := HF.out.1.1; omega))))
  refine hK _ _ (HF1.out.1.2) ?_
  clear hK K' hS
  clear hb
  have hS : (fun w' : World => w'.cell? ⟨w.heap.size, 0, none⟩ = some (.int .u64 23) ∧ w'.cell? ⟨w.heap.size, 1, none⟩ = some (.int .i64 255) ∧ w'.cell? ⟨w.heap.size, 2, none⟩ = some (.int .i64 150)) w1 := HF1.out.1.2
  try simp only [Act.put, List.setIfInBounds_toArray, List.set_cons_zero, List.set_cons_succ]
  repeat (refine wpPlan_take (v := ?_) rfl (fun _ _ _ h => h) rfl (fun w' hSw => ?_) hS ?_; rotate_left; focus (go_simp; with_reducible rfl); try simp only [Act.put, List.setIfInBounds_toArray, List.set_cons_zero, List.set_cons_succ])
  refine wpPlan_run rfl fun K' hK => ?_
  go_simp
  refine (HI.out w1).mono ?_
  rintro e w2 ⟨rfl, hb⟩
  have HF2 := Lib.hid (And.intro (HF1.out.1.below hb) (HF1.out.2.trans (hb.mono (by have := HF1.out.1.1; omega))))
  refine hK _ _ (HF2.out.1.2) ?_
  clear hK K' hS
  clear hb
  have hS : (fun w' : World => w'.cell? ⟨w.heap.size, 0, none⟩ = some (.int .u64 23) ∧ w'.cell? ⟨w.heap.size, 1, none⟩ = some (.int .i64 255) ∧ w'.cell? ⟨w.heap.size, 2, none⟩ = some (.int .i64 150)) w2 := HF2.out.1.2
  try simp only [Act.put, List.setIfInBounds_toArray, List.set_cons_zero, List.set_cons_succ]
  repeat (refine wpPlan_take (v := ?_) rfl (fun _ _ _ h => h) rfl (fun w' hSw => ?_) hS ?_; rotate_left; focus (go_simp; with_reducible rfl); try simp only [Act.put, List.setIfInBounds_toArray, List.set_cons_zero, List.set_cons_succ])
  clear hS
  refine wpPlan_nil ?_
  simp only [List.drop_succ_cons, List.drop_zero]
  go_wp2
  go_ret
  exact ⟨congrArg Ending.returned (congrArg Value.bool HN.out), HF2.out.2⟩

set_option maxRecDepth 100000 in
set_option maxHeartbeats 400000 in
theorem canonS_any (b : Nat) (w : World) (h : b < 4294967296) (hn : nanS b = false) :
    Calls Tryz.prog 233 #[.int .u32 b, F32v] w (Gives (.int .u32 b) w) := by
  have H0 := Lib.hid (FmtS.new w 178)
  have HN := Lib.hid fun w => nanS_any b w h
  unfold F32v at HN ⊢
  obtain ⟨c0, c1, c2⟩ := H0.out.2
  rw [hn] at HN
  clear hn h
  go_enter Tryz.func233, Tryz.ntmps233
  go_wp2_with fail
  refine (HN.out _).mono ?_
  rintro e w1 ⟨rfl, hb1⟩
  have HB := Lib.hid ((Below.alloc_self w _).trans (hb1.mono (by simp)))
  clear hb1 c0 c1 c2
  go_wp2
  go_ret
  exact ⟨rfl, HB.out⟩

theorem joinS_or {e f : Nat} (he : e < 256) (hf : f < jHid) : bits .or .u64 ((e * jHid : Nat) : Int) (f : Int) = ((e * jHid + f : Nat) : Int) := by
  unfold jHid at *
  have h0 := bits_or_u64_nat (e * 8388608) f (by omega) (by omega)
  rw [h0]
  congr 1
  have := Nat.two_pow_add_eq_or_of_lt (i := 23) (b := f) hf e
  rw [Nat.mul_comm] at this
  exact this.symm

theorem joinS_sign {x : Nat} (hx : x < jSign) : bits .or .u64 (x : Int) (jSign : Int) = ((jSign + x : Nat) : Int) := by
  unfold jSign at *
  have h0 := bits_or_u64_nat x 2147483648 (by omega) (by omega)
  rw [h0]
  congr 1
  have := Nat.two_pow_add_eq_or_of_lt (i := 31) (b := x) hx 1
  rw [Nat.or_comm]; exact this.symm

theorem joinS_fields {neg : Bool} {e f : Nat} (he : e < 255) (hf : f < jHid) : nanS (joinS neg e f) = false ∧ joinS neg e f < 4294967296 := by
  unfold joinS nanS jSign jHid jInf at *
  cases neg
  · simp only [Bool.false_eq_true, if_false, decide_eq_false_iff_not]; omega
  · simp only [if_true, decide_eq_false_iff_not]; omega

set_option maxRecDepth 100000 in
set_option maxHeartbeats 800000 in
theorem joinS_any (neg : Bool) (e f : Nat) (w : World) (he : e < 255) (hf : f < jHid) :
    Calls Tryz.prog 218 #[.bool neg, .int .i64 e, .int .u32 f, F32v] w (Gives (.tuple #[.int .u32 (joinS neg e f : Nat), .int .i64 0]) w) := by
  obtain ⟨f1, f4⟩ := joinS_fields (neg := neg) he hf
  have HCN := Lib.hid f1
  have HWX : Hid (((joinS neg e f : Nat) : Int) % 4294967296 = (joinS neg e f : Nat)) := Lib.hid (by omega)
  have hwf := wrap_u64_lt f (Nat.lt_trans hf (by decide))
  have H4 := Lib.hid f4
  have HO : Hid (bits .or .u64 ((e : Int) * 8388608) (f : Int) = ((e * jHid + f : Nat) : Int)) := Lib.hid (by have := joinS_or (show e < 256 by omega) hf; rw [Int.natCast_mul] at this; exact this)
  have HCA := Lib.hid fun b h h2 w => canonS_any b w h h2
  have HJ : Hid ((neg = false → joinS neg e f = e * jHid + f) ∧ (neg = true → joinS neg e f = jSign + (e * jHid + f))) := Lib.hid ⟨fun h => by unfold joinS; rw [h]; simp, fun h => by unfold joinS; rw [h]; simp; omega⟩
  have HJS := Lib.hid (joinS_sign (show e * jHid + f < jSign by unfold jHid jSign at *; omega))
  have HH := Lib.hid fun w => hiddenS_any w
  have HSg := Lib.hid fun w => signS_any w
  have H0 := Lib.hid (FmtS.new w 178)
  unfold F32v at *
  obtain ⟨c0, c1, c2⟩ := H0.out.2
  have hge : decide ((jHid : Int) ≤ (f : Int)) = false := by simp; omega
  clear f1 f4
  generalize e * jHid + f = x at HO HJ HJS
  generalize jHid = kh at hge HH hf
  generalize jSign = ks at HSg HJS HJ
  generalize joinS neg e f = R at *
  cases neg
  · obtain rfl : R = x := HJ.out.1 rfl
    go_enter Tryz.func218, Tryz.ntmps218
    go_wp2_with fail
    refine (HH.out _).mono ?_
    rintro e1 w1 ⟨rfl, hb1⟩
    have HB1 := Lib.hid ((below1 w _).trans (hb1.mono (by simp)))
    have HF1 := Lib.hid (H0.out.below hb1)
    obtain ⟨-, d0, d1, d2⟩ := HF1.out
    clear c0 c1 c2 hb1
    go_wp2_with fail
    rw [HO.out, HWX.out]
    refine (HCA.out R H4.out HCN.out _).mono ?_
    rintro e2 w2 ⟨rfl, hb2⟩
    have HB2 := Lib.hid (HB1.out.trans (hb2.mono HB1.out.size))
    clear hb2
    go_wp2
    go_ret2
    exact ⟨rfl, HB2.out⟩
  · obtain rfl : R = ks + x := HJ.out.2 rfl
    go_enter Tryz.func218, Tryz.ntmps218
    go_wp2_with fail
    refine (HH.out _).mono ?_
    rintro e1 w1 ⟨rfl, hb1⟩
    have HB1 := Lib.hid ((below1 w _).trans (hb1.mono (by simp)))
    have HF1 := Lib.hid (H0.out.below hb1)
    obtain ⟨-, d0, d1, d2⟩ := HF1.out
    clear c0 c1 c2 hb1
    go_wp2_with fail
    rw [HO.out]
    refine (HSg.out _).mono ?_
    rintro e2 w2 ⟨rfl, hb2⟩
    have HB2 := Lib.hid (HB1.out.trans (hb2.mono HB1.out.size))
    have HF2 := Lib.hid (HF1.out.below hb2)
    clear d0 d1 d2 hb2
    obtain ⟨-, d0, d1, d2⟩ := HF2.out
    go_wp2_with fail
    rw [HJS.out, HWX.out]
    refine (HCA.out _ H4.out HCN.out _).mono ?_
    rintro e2 w3 ⟨rfl, hb3⟩
    have HB3 := Lib.hid (HB2.out.trans (hb3.mono HB2.out.size))
    clear hb3
    go_wp2
    go_ret2
    exact ⟨rfl, HB3.out⟩

set_option maxRecDepth 100000 in
set_option maxHeartbeats 800000 in
theorem madeS_zero (neg : Bool) (e : Int) (w : World) :
    Calls Tryz.prog 168 #[.agg #[.bool neg, .int .u64 0, .int .i64 e], F32v] w (Gives (.tuple #[.int .u32 (joinS neg 0 0 : Nat), .int .i64 0]) w) := by
  have HJ := Lib.hid fun W => joinS_any neg 0 0 W (by decide) (by decide)
  unfold F32v at *
  go_enter Tryz.func168, Tryz.ntmps168
  go_wp2_with fail
  refine (HJ.out _).mono ?_
  rintro e1 w1 ⟨rfl, hb1⟩
  have HB1 := Lib.hid ((below2 w _ _).trans (hb1.mono (below2 w _ _).size))
  clear hb1
  go_wp2
  go_ret2
  exact ⟨rfl, HB1.out⟩

end Go.Proofs.YtjoajbbapfgaoaaGreatDoor
