/- Walks: rounding a dyad to a number that is not too great. -/
import Derived.Test.YtfcddnccmdjhfaaDoorDye
namespace Go.Proofs.YtfcddnccmdjhfaaDoor
open Go.RowKit

theorem bl_mul_pow {a : Nat} (h : a ≠ 0) (t : Nat) : bl (a * 2 ^ t) = bl a + t := by
  refine Nat.le_antisymm (bl_mul_two_pow a t) ?_
  rcases Nat.lt_or_ge (bl (a * 2 ^ t)) (bl a + t) with h1 | h1
  · exfalso
    have h0 := bl_pos h
    have h2 : a * 2 ^ t < 2 ^ (bl a - 1 + t) := (bl_le_iff (k := bl a - 1 + t)).1 (by omega)
    rw [Nat.pow_add] at h2
    have h3 := Nat.lt_of_mul_lt_mul_right h2
    have := (bl_le_iff (k := bl a - 1)).2 h3
    omega
  · exact h1

theorem ctz_spec {m : Nat} (h0 : m ≠ 0) (h : m < 18446744073709551616) : m = m / 2 ^ Lib.ctz 64 m * 2 ^ Lib.ctz 64 m ∧ m / 2 ^ Lib.ctz 64 m % 2 = 1 := by
  obtain ⟨k, h1, h2⟩ := Lib.ctzFrom_spec 64 m (by omega) h
  have h3 : Lib.ctz 64 m = Lib.ctzFrom 64 m := by unfold Lib.ctz; rw [if_neg h0]
  rw [h3]
  generalize Lib.ctzFrom 64 m = t at *
  have h4 : m / 2 ^ t = 2 * k + 1 := by rw [h1, Nat.mul_div_cancel_left _ (Nat.two_pow_pos t)]
  rw [h4]
  exact ⟨by rw [Nat.mul_comm]; exact h1, by omega⟩

/-- There is such a number. -/
def FitsB (m : Nat) (e : Int) : Prop := m ≠ 0 → m < 18446744073709551616 ∧ bl (m / 2 ^ Lib.ctz 64 m) ≤ 53 ∧ -1074 ≤ e + Lib.ctz 64 m ∧ e + bl m ≤ 1024 ∧ -2150 ≤ e ∧ e ≤ 2150

theorem madeB_any (neg : Bool) (m : Nat) (e : Int) (w : World) (hf : FitsB m e) (hT : Tab64 w) (hTs : 1 < w.heap.size) :
    Calls Tryd.prog 61 #[.agg #[.bool neg, .int .u64 m, .int .i64 e], F64] w (Gives (.tuple #[.int .u64 (mkB neg m e : Nat), .int .i64 0]) w) := by
  unfold mkB
  by_cases h0 : m = 0
  · subst h0; rw [if_pos rfl]; exact made_zero neg e w
  · rw [if_neg h0]
    obtain ⟨h1, h2, h3, h4, h5, h6⟩ := hf h0
    obtain ⟨k1, k2⟩ := ctz_spec h0 h1
    have hb : bl m = bl (m / 2 ^ Lib.ctz 64 m) + Lib.ctz 64 m := by
      conv => lhs; rw [k1]
      exact bl_mul_pow (by omega) _
    have ha := lt_bl (m / 2 ^ Lib.ctz 64 m)
    have ha0 : m / 2 ^ Lib.ctz 64 m ≠ 0 := by omega
    have hML : ∀ D : Nat, bl (m / 2 ^ Lib.ctz 64 m * 2 ^ D) = bl (m / 2 ^ Lib.ctz 64 m) + D := fun D => bl_mul_pow ha0 D
    obtain ⟨D, hD⟩ : ∃ D : Nat, min (53 - (bl (m / 2 ^ Lib.ctz 64 m) : Int)) (e + Lib.ctz 64 m + 1074) = (D : Int) := ⟨(min (53 - (bl (m / 2 ^ Lib.ctz 64 m) : Int)) (e + Lib.ctz 64 m + 1074)).toNat, by omega⟩
    have hm1 : m / 2 ^ Lib.ctz 64 m * 2 ^ D < 2 ^ 53 := (bl_le_iff (k := 53)).1 (by rw [hML]; omega)
    have hE : ¬ m / 2 ^ Lib.ctz 64 m * 2 ^ D < kHid → 53 ≤ bl (m / 2 ^ Lib.ctz 64 m) + D := by
      intro h
      rcases Nat.lt_or_ge (bl (m / 2 ^ Lib.ctz 64 m) + D) 53 with h7 | h7
      · exact absurd ((bl_le_iff (k := 52)).1 (by rw [hML]; omega)) h
      · exact h7
    have := made_walk neg m (Lib.ctz 64 m) (m / 2 ^ Lib.ctz 64 m) (bl (m / 2 ^ Lib.ctz 64 m)) D _ e (e + Lib.ctz 64 m) w h0 h1 rfl rfl rfl rfl hD rfl h2 h3 h5 h6 hm1
      (fun h => by have := hE h; omega) (fun h => by omega) hT hTs
    simp only [hD, Int.toNat_natCast]
    exact this

set_option maxRecDepth 100000 in
set_option maxHeartbeats 400000 in
theorem number_any (b : Nat) (k : Int) (w : World) :
    Calls Tryd.prog 60 #[.int .u64 b, .int .i64 k] w fun e w' => e = .returned (.tuple #[.float .f64 b, .int .i64 k]) ∧ w = w' := by
  have hf := ffrom_eq b
  go_enter Tryd.func60, Tryd.ntmps60
  go_wp2
  go_ret2
  exact ⟨rfl, rfl⟩

set_option maxRecDepth 100000 in
set_option maxHeartbeats 800000 in
theorem aOf_any (neg : Bool) (m : Nat) (e : Int) (w : World) (hf : FitsB m e) (hT : Tab64 w) (hTs : 1 < w.heap.size) :
    Calls Tryd.prog 37 #[.agg #[.bool neg, .int .u64 m, .int .i64 e]] w (Gives (.tuple #[.float .f64 (mkB neg m e), .int .i64 0]) w) := by
  have HC := Lib.hid fun W hW => madeB_any neg m e W hf hW
  have HO := Lib.hid fun w => of_any w
  have HT := Lib.hid (And.intro hT hTs)
  have HN := Lib.hid fun b k w => number_any b k w
  unfold F64 at *
  generalize mkB neg m e = R at *
  have HW0 := Lib.hid (BlkT.new w #[.bool neg, .int .u64 m, .int .i64 e] 75)
  clear hf hT hTs
  go_enter Tryd.func37, Tryd.ntmps37
  go_wp2
  refine wp_region_pl (fun w' : World => (w'.cell? ⟨w.heap.size, 0, none⟩ = some (.bool neg) ∧ w'.cell? ⟨w.heap.size, 1, none⟩ = some (.int .u64 m)) ∧ w'.cell? ⟨w.heap.size, 2, none⟩ = some (.int .i64 e)) 8 (.take 0 (.run 1 (.run 2 (.take 3 (.take 4 (.run 5 (.take 6 (.take 7 .nil)))))))) (by kernel_rfl) (by kernel_rfl) ?_
  have HW1 : Hid (BlkT (w.alloc (.cells #[.bool neg, .int .u64 m, .int .i64 e] 75)).drew w.heap.size 75 #[.bool neg, .int .u64 m, .int .i64 e] ∧ Below w.heap.size w (w.alloc (.cells #[.bool neg, .int .u64 m, .int .i64 e] 75)).drew) := Lib.hid ⟨HW0.out.below (drew_below _), (below1 _ _).drew⟩
  clear HW0
  generalize (w.alloc (.cells #[.bool neg, .int .u64 m, .int .i64 e] 75)).drew = W at HW1 ⊢
  have hS : (fun w' : World => (w'.cell? ⟨w.heap.size, 0, none⟩ = some (.bool neg) ∧ w'.cell? ⟨w.heap.size, 1, none⟩ = some (.int .u64 m)) ∧ w'.cell? ⟨w.heap.size, 2, none⟩ = some (.int .i64 e)) W := ⟨⟨HW1.out.1.cell 0, HW1.out.1.cell 1⟩, HW1.out.1.cell 2⟩
  repeat (refine wpPl_take (v := ?_) rfl (fun _ _ _ h => h) rfl (fun w' hSw => ?_) hS ?_; rotate_left; focus (go_simp; with_reducible rfl); try simp only [Act.put, List.setIfInBounds_toArray, List.set_cons_zero, List.set_cons_succ])
  clear hS
  refine wpPl_run rfl fun K' hK => ?_
  go_simp
  refine (HO.out _).mono ?_
  rintro e1 w1 ⟨rfl, hb1⟩
  have HW2 : Hid (BlkT w1 w.heap.size 75 #[.bool neg, .int .u64 m, .int .i64 e] ∧ Below w.heap.size w w1) := Lib.hid ⟨HW1.out.1.below hb1, HW1.out.2.trans (hb1.mono HW1.out.2.size)⟩
  refine hK _ _ ⟨⟨HW2.out.1.cell 0, HW2.out.1.cell 1⟩, HW2.out.1.cell 2⟩ ?_
  clear hK K' hb1 HW1
  refine wpPl_run rfl fun K' hK => ?_
  go_simp
  refine (HC.out _ (HT.out.1.below HT.out.2 HW2.out.2) (Nat.lt_of_lt_of_le HT.out.2 HW2.out.2.size)).mono ?_
  rintro e2 w2 ⟨rfl, hb2⟩
  have HW3 : Hid (BlkT w2 w.heap.size 75 #[.bool neg, .int .u64 m, .int .i64 e] ∧ Below w.heap.size w w2) := Lib.hid ⟨HW2.out.1.below hb2, HW2.out.2.trans (hb2.mono HW2.out.2.size)⟩
  have hS : (fun w' : World => (w'.cell? ⟨w.heap.size, 0, none⟩ = some (.bool neg) ∧ w'.cell? ⟨w.heap.size, 1, none⟩ = some (.int .u64 m)) ∧ w'.cell? ⟨w.heap.size, 2, none⟩ = some (.int .i64 e)) w2 := ⟨⟨HW3.out.1.cell 0, HW3.out.1.cell 1⟩, HW3.out.1.cell 2⟩
  refine hK _ _ hS ?_
  clear hK K' hb2 HW2
  repeat (refine wpPl_take (v := ?_) rfl (fun _ _ _ h => h) rfl (fun w' hSw => ?_) hS ?_; rotate_left; focus (go_simp; with_reducible rfl); try simp only [Act.put, List.setIfInBounds_toArray, List.set_cons_zero, List.set_cons_succ])
  refine wpPl_run rfl fun K' hK => ?_
  go_simp
  refine (HN.out R 0 _).mono ?_
  rintro e3 w3 ⟨rfl, rfl⟩
  refine hK _ _ hS ?_
  clear hK K'
  repeat (refine wpPl_take (v := ?_) rfl (fun _ _ _ h => h) rfl (fun w' hSw => ?_) hS ?_; rotate_left; focus (go_simp; with_reducible rfl); try simp only [Act.put, List.setIfInBounds_toArray, List.set_cons_zero, List.set_cons_succ])
  clear hS
  refine wpPl_nil ?_
  simp only [List.drop_succ_cons, List.drop_zero]
  go_wp2
  go_ret2
  exact ⟨rfl, HW3.out.2⟩

set_option maxRecDepth 100000 in
set_option maxHeartbeats 400000 in
theorem known_any (mode : Int) (w : World) (h1 : 0 ≤ mode) (h2 : mode ≤ 4) :
    Calls Tryd.prog 30 #[.int .i64 mode] w fun e w' => e = .returned (.bool true) ∧ w = w' := by
  have k1 : decide ((0 : Int) ≤ mode) = true := decide_eq_true h1
  have k2 : decide (mode ≤ (4 : Int)) = true := decide_eq_true h2
  go_enter Tryd.func30, Tryd.ntmps30
  go_wp2
  go_ret
  exact ⟨rfl, rfl⟩

theorem lt_of_bl {N k : Nat} (h : bl N ≤ k) : N < 2 ^ k := bl_le_iff.1 h

theorem upB_le (N d : Nat) (neg : Bool) (mode : Int) : (if upB N d neg mode then 1 else 0) ≤ 1 := by split <;> omega

/-- A rounded amount has few digits. -/
theorem roundZ_le (z e digits least mode : Int) (k : Nat) (hd : digits = k) : roundZ z e digits least mode ≤ 2 ^ k := by
  subst hd
  unfold roundZ cutZ
  have hl : e + bl z.natAbs - k ≤ lastE z e k least := by unfold lastE; omega
  generalize lastE z e k least = last at *
  by_cases h : last - e ≤ 0
  · rw [if_pos h]
    refine Nat.le_of_lt (lt_of_bl (Nat.le_trans (bl_mul_two_pow _ _) ?_))
    omega
  · rw [if_neg h]
    have h1 : z.natAbs / 2 ^ (last - e).toNat < 2 ^ k := by
      rw [Nat.div_lt_iff_lt_mul (Nat.two_pow_pos _), ← Nat.pow_add]
      exact lt_of_bl (by omega)
    have h2 := upB_le z.natAbs (last - e).toNat (decide (z < 0)) mode
    omega

theorem bl_two_pow (k : Nat) : bl (2 ^ k) = k + 1 := by
  have := bl_mul_pow (a := 1) (by decide) k
  rw [Nat.one_mul] at this
  rw [this, show bl 1 = 1 by decide]; omega

theorem ctz_two_pow53 : Lib.ctz 64 9007199254740992 = 53 := by decide

theorem fits_round {z e mode : Int} (h : lastE z e 53 (-1074) + bl (roundZ z e 53 (-1074) mode) ≤ 1024) (h2 : lastE z e 53 (-1074) ≤ 2150) : FitsB (roundZ z e 53 (-1074) mode) (lastE z e 53 (-1074)) := by
  intro h0
  have h1 := roundZ_le z e 53 (-1074) mode 53 rfl
  have h3 : -1074 ≤ lastE z e 53 (-1074) := by unfold lastE; omega
  generalize roundZ z e 53 (-1074) mode = m at *
  generalize lastE z e 53 (-1074) = last at *
  refine ⟨by omega, ?_, by omega, h, by omega, h2⟩
  by_cases h4 : m = 9007199254740992
  · subst h4; rw [ctz_two_pow53]; decide
  · exact bl_le_of_lt (Nat.lt_of_le_of_lt (Nat.div_le_self _ _) (by omega))

end Go.Proofs.YtfcddnccmdjhfaaDoor
