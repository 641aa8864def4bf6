/- Walks: big's left, right. -/
import Derived.Test.YtfcddnccmdjhfaaDoorBig3
namespace Go.Proofs.YtfcddnccmdjhfaaDoor
open Go.RowKit

theorem shr_cast (a m : Nat) : (a : Int) / 2 ^ m = ((a / 2 ^ m : Nat) : Int) := by simp

theorem or_shl {d a r : Nat} (hd : d < 2 ^ r) (hr : r ≤ 64) : bits .or .u64 (d : Int) (IntKind.u64.wrap ((a : Int) * 2 ^ r)) = ((d + a * 2 ^ r % 2 ^ 64 : Nat) : Int) := by
  have e : IntKind.u64.wrap ((a : Int) * 2 ^ r) = ((a * 2 ^ r % 2 ^ 64 : Nat) : Int) := by rw [IntKind.wrap_u64]; simp
  have h1 := shl_lo_le (a := a) (d := d) hr hd
  rw [two64] at h1 e ⊢
  rw [e, bits_or_u64_nat _ _ (by omega) (by omega)]
  congr 1
  rw [← two64, (shl_parts hr).1, Nat.or_comm, ← Nat.two_pow_add_eq_or_of_lt hd, Nat.add_comm]

set_option maxRecDepth 100000 in
set_option maxHeartbeats 400000 in
theorem left_any (vx : Value) (X n : Nat) (w : World) (hx : Raw .u64 64 w vx (ln 64 X) X) (hn : n ≤ 1099511627776) (hnx : ln 64 X ≤ 68719476736) :
    Calls Tryd.prog 77 #[vx, .int .u64 n] w (Makes .u64 64 (ln 64 (X * 2 ^ n)) (X * 2 ^ n) w) := by
  obtain ⟨ax, cx, rfl, -, -, -, hcx⟩ := hx
  have HCX := Lib.hid hcx
  have hlx : Hid (ln 64 X = 0 → X = 0) := Lib.hid (ln_eq_zero (by decide)).1
  have hlt0 : Hid (X < 2 ^ (64 * ln 64 X)) := Lib.hid (lt_ln (by decide))
  clear hcx
  generalize ln 64 X = nx at *
  by_cases h0 : nx = 0
  · have hX := hlx.out h0
    subst hX
    have hfin : Makes .u64 64 (ln 64 (0 * 2 ^ n)) (0 * 2 ^ n) w (.returned (.slice none 0 0)) w := by
      rw [Nat.zero_mul, ln_zero]
      exact Makes.mk (Below.refl _ _) ⟨none, 0, rfl, by omega, by simp, by omega, fun h => absurd h (by omega)⟩
    have HF := Lib.hid hfin
    subst h0
    clear hfin hlx hlt0
    go_enter Tryd.func77, Tryd.ntmps77
    go_wp2
    go_ret
    exact HF.out
  have hnx0 : 0 < nx := by omega
  have hb1 : ((nx : Int) == 0) = false := by simp; omega
  obtain ⟨W, r, hW, hr, hq1, hq2, hnWr⟩ : ∃ W r : Nat, W ≤ 17179869184 ∧ r < 64 ∧ (n : Int) / 64 = (W : Int) ∧ (n : Int) % 64 = (r : Int) ∧ Hid (n = 64 * W + r) :=
    ⟨n / 64, n % 64, by omega, by omega, by omega, by omega, Lib.hid (by omega)⟩
  have hmk := run_make_row' (P := Tryd.prog) 58 22 (.int .u64 0) 8 Tryd.underlying58 Tryd.info22 rfl .i64 .i64 (W + nx + 1) (by omega) (by omega)
  rw [show ((W + nx + 1 : Nat) : Int) = (W : Int) + (nx : Int) + 1 from by omega] at hmk
  clear h0 hlx
  go_enter Tryd.func77, Tryd.ntmps77
  go_wp2
  clear hmk hb1
  have HR := Lib.hid (Row.made .u64 64 (W + nx + 1) w)
  go_loopw [26] (fun i wr => ∃ k : Nat, k ≤ nx ∧ i = .int .i64 k ∧ Hid (Row .u64 64 w.heap.size (W + nx + 1) (X % 2 ^ (64 * k) * 2 ^ n) wr) ∧ Below w.heap.size w wr)
    (fun i _ => nx - (intOf i).toNat)
  case atStart => exact ⟨0, Nat.zero_le _, rfl, Lib.hid (by simp only [Nat.mul_zero, Nat.pow_zero, Nat.mod_one, Nat.zero_mul]; exact HR.out), (Below.refl _ _).alloc (Nat.le_refl _) _⟩
  case round =>
    clear HR
    obtain ⟨k, hk, rfl, HR, hbel⟩ := hrel
    have hs := HR.out.2.lt
    have hf := fun p => HR.out.2.frozen p
    by_cases hlt : k < nx
    · obtain ⟨bx, ox, rfl, hbx, -, hcx⟩ := HCX.out (by omega)
      have hxk : wr.cell? ⟨bx, ox + k, none⟩ = some (.int .u64 (dg 64 X k : Nat)) := (hbel.cell (p := ⟨bx, ox + k, none⟩) hbx).trans (hcx k hlt)
      have hz1 : wr.cell? ⟨w.heap.size, W + k, none⟩ = some (.int .u64 (dg 64 (X % 2 ^ (64 * k) * 2 ^ n) (W + k) : Nat)) := HR.out.2.cell (by omega)
      have hz2 : ∃ v, wr.cell? ⟨w.heap.size, W + k + 1, none⟩ = some v := ⟨_, HR.out.2.cell (by omega)⟩
      obtain ⟨v2, hz2⟩ := hz2
      have hf1 := hf (W + k)
      have hf2 := hf (W + k + 1)
      have HB := Lib.hid hbel
      clear hbel hf hcx
      go_wp2
      go_roundw
      case rel =>
        refine ⟨k + 1, by omega, by go_num, Lib.hid ?_, ?_⟩
        · rw [or_shl (left_low hnWr.out (by omega)).1 (by omega), ← left_step hnWr.out (by omega), shr_cast]
          exact (HR.out.set (shl_lo_le (by omega) (left_low hnWr.out (by omega)).1) (by omega)).set (Nat.lt_of_le_of_lt (Nat.div_le_self _ _) (dg_lt _ _ _)) (by omega)
        · exact (HB.out.setCell (Nat.le_refl _) _).setCell (Nat.le_refl _) _
      case measure => simp [intOf]; omega
    · obtain rfl : k = nx := by omega
      have hraw := HR.out.raw (by omega)
      rw [Nat.mod_eq_of_lt hlt0.out] at hraw
      have HB := Lib.hid hbel
      clear hbel hf
      go_wp2_with fail
      refine (norm_any _ _ _ _ hraw).mono ?_
      rintro e w1 ⟨v, rfl, rfl, hr2⟩
      have HRaw := Lib.hid hr2
      clear hr2 hraw
      go_wp2
      go_ret
      exact ⟨v, rfl, HB.out, HRaw.out⟩

theorem mask_u64 {d r : Nat} (hd : d < 18446744073709551616) (hr : r < 64) : bits .and .u64 (d : Int) (IntKind.u64.wrap (IntKind.u64.wrap (2 ^ r) - 1)) = ((d % 2 ^ r : Nat) : Int) := by
  have h1 : 2 ^ r < 2 ^ 64 := Nat.pow_lt_pow_right (by decide) hr
  have h2 : 0 < 2 ^ r := Nat.two_pow_pos r
  have e : ((2 : Int) ^ r) = ((2 ^ r : Nat) : Int) := by simp
  rw [two64] at h1
  rw [e, wrap_u64_lt _ h1, show ((2 ^ r : Nat) : Int) - 1 = ((2 ^ r - 1 : Nat) : Int) from by omega, wrap_u64_lt _ (by omega), bits_and_u64_nat _ _ hd (by omega), Nat.and_two_pow_sub_one_eq_mod]

theorem or_dg {a b : Nat} (ha : a < 18446744073709551616) (hb : b < 18446744073709551616) : bits .or .u64 (a : Int) (b : Int) = ((a ||| b : Nat) : Int) := bits_or_u64_nat a b ha hb

theorem or_lt64 {a b : Nat} (ha : a < 18446744073709551616) (hb : b < 18446744073709551616) : a ||| b < 18446744073709551616 := Nat.or_lt_two_pow (n := 64) ha hb

/-- A digit of a number shifted to the right, as the code puts it together. -/
theorem right_or {X n W r i : Nat} (hn : n = 64 * W + r) (hr : r < 64) :
    bits .or .u64 ((dg 64 X (W + i) : Nat) / 2 ^ r) (IntKind.u64.wrap ((dg 64 X (W + i + 1) : Nat) * 2 ^ (64 - r))) = ((dg 64 (X / 2 ^ n) i : Nat) : Int) := by
  have hlt : dg 64 X (W + i) / 2 ^ r < 2 ^ (64 - r) := by
    rw [Nat.div_lt_iff_lt_mul (Nat.two_pow_pos _), ← Nat.pow_add, show 64 - r + r = 64 from by omega]; exact dg_lt _ _ _
  rw [shr_cast, or_shl hlt (by omega), right_dg hn (by omega)]

/-- What 'right' answers: the quotient, and whether something was lost. -/
def Rights (X n : Nat) (w : World) (e : Ending) (w' : World) : Prop := ∃ v, e = .returned (.tuple #[v, .bool (decide (X % 2 ^ n ≠ 0))]) ∧ Below w.heap.size w w' ∧ Raw .u64 64 w' v (ln 64 (X / 2 ^ n)) (X / 2 ^ n)

set_option maxRecDepth 100000 in
set_option maxHeartbeats 400000 in
theorem right_any (vx : Value) (X n : Nat) (w : World) (hx : Raw .u64 64 w vx (ln 64 X) X) (hn : n ≤ 1099511627776) (hnx : ln 64 X ≤ 68719476736) :
    Calls Tryd.prog 71 #[vx, .int .u64 n] w (Rights X n w) := by
  have HX := Lib.hid hx
  obtain ⟨ax, cx, rfl, hcap, -, -, hcx⟩ := hx
  have HCX := Lib.hid hcx
  have hlx : Hid (ln 64 X = 0 ↔ X = 0) := Lib.hid (ln_eq_zero (by decide))
  have hlt0 : Hid (X < 2 ^ (64 * ln 64 X)) := Lib.hid (lt_ln (by decide))
  clear hcx
  generalize ln 64 X = nx at *
  obtain ⟨W, r, hW, hr, hq1, hq2, hnWr⟩ : ∃ W r : Nat, W ≤ 17179869184 ∧ r < 64 ∧ (n : Int) / 64 = (W : Int) ∧ (n : Int) % 64 = (r : Int) ∧ Hid (n = 64 * W + r) :=
    ⟨n / 64, n % 64, by omega, by omega, by omega, by omega, Lib.hid (by omega)⟩
  by_cases h0 : nx ≤ W
  · have hlt : X < 2 ^ n := Nat.lt_of_lt_of_le hlt0.out (Nat.pow_le_pow_right (by decide) (by rw [hnWr.out]; omega))
    have hfin : Rights X n w (.returned (.tuple #[.slice none 0 0, .bool (decide (0 < nx))])) w := by
      refine ⟨_, ?_, Below.refl _ _, none, 0, by rw [Nat.div_eq_of_lt hlt, ln_zero], ?_, ?_, ?_, ?_⟩
      · rw [Nat.mod_eq_of_lt hlt, decide_eq_decide.2 (show X ≠ 0 ↔ 0 < nx by have := hlx.out; omega)]
      · rw [Nat.div_eq_of_lt hlt, ln_zero]; omega
      · rw [Nat.div_eq_of_lt hlt]; exact Nat.two_pow_pos _
      · rw [Nat.div_eq_of_lt hlt, ln_zero]; omega
      · rw [Nat.div_eq_of_lt hlt, ln_zero]; exact fun h => absurd h (by omega)
    have HF := Lib.hid hfin
    clear hfin hlx hlt0 hlt
    go_enter Tryd.func71, Tryd.ntmps71
    go_wp2
    go_ret2
    exact HF.out
  have hWn : W < nx := by omega
  obtain ⟨bx, ox, rfl, hbx, -, hcx⟩ := HCX.out (by omega)
  have hxW := hcx W hWn
  have HC := Lib.hid hcx
  have hmk := run_make_row' (P := Tryd.prog) 58 22 (.int .u64 0) 8 Tryd.underlying58 Tryd.info22 rfl .i64 .i64 (nx - W) (by omega) (by omega)
  rw [show ((nx - W : Nat) : Int) = (nx : Int) - (W : Int) from by omega] at hmk
  have hmask := mask_u64 (dg64_lt X W) hr
  have hWc : W ≤ cx := by omega
  clear h0 hcx HCX
  go_enter Tryd.func71, Tryd.ntmps71
  go_wp2
  clear hmask
  have hL0 : Hid (dg 64 X W % 2 ^ r < 18446744073709551616 ∧ (dg 64 X W % 2 ^ r = 0 ↔ dg 64 X W % 2 ^ r = 0 ∧ X % 2 ^ (64 * 0) = 0)) :=
    Lib.hid ⟨Nat.lt_of_le_of_lt (Nat.mod_le _ _) (dg64_lt _ _), by simp [Nat.mod_one]⟩
  go_loop [8, 39] (fun l i => ∃ k L : Nat, k ≤ W ∧ i = .int .i64 k ∧ l = .int .u64 L ∧ Hid (L < 18446744073709551616 ∧ (L = 0 ↔ dg 64 X W % 2 ^ r = 0 ∧ X % 2 ^ (64 * k) = 0)))
    (fun _ i => W - (intOf i).toNat)
  case atStart => exact ⟨0, _, Nat.zero_le _, rfl, rfl, hL0⟩
  case round =>
    obtain ⟨k, L, hk, rfl, rfl, HL⟩ := hrel
    clear hL0
    by_cases hlt : k < W
    · have hxk := HC.out k (by omega)
      have hor := or_dg HL.out.1 (dg64_lt X k)
      clear hmk hxW
      go_wp2
      go_round
      case rel =>
        refine ⟨k + 1, _, by omega, by go_num, rfl, Lib.hid ⟨or_lt64 HL.out.1 (dg64_lt X k), ?_⟩⟩
        have hp : 0 < 2 ^ (64 * k) := Nat.two_pow_pos _
        rw [Nat.or_eq_zero_iff, HL.out.2, mod_succ, Nat.add_eq_zero_iff, Nat.mul_eq_zero]
        constructor
        · rintro ⟨⟨h1, h2⟩, h3⟩; exact ⟨h1, h2, .inr h3⟩
        · rintro ⟨h1, h2, h3⟩; exact ⟨⟨h1, h2⟩, by omega⟩
      case measure => simp [intOf]; omega
    · obtain rfl : k = W := by omega
      clear hxW
      go_wp2
      clear hmk
      have HR := Lib.hid (Row.made .u64 64 (nx - k) w)
      have HQ : Hid (X / 2 ^ n < 2 ^ (64 * (nx - k))) := by
        refine Lib.hid ?_
        rw [Nat.div_lt_iff_lt_mul (Nat.two_pow_pos _), ← Nat.pow_add]
        exact Nat.lt_of_lt_of_le hlt0.out (Nat.pow_le_pow_right (by decide) (by rw [hnWr.out]; omega))
      go_loopw [54] (fun i wr => ∃ j : Nat, j ≤ nx - k ∧ i = .int .i64 j ∧ Hid (Row .u64 64 w.heap.size (nx - k) (X / 2 ^ n % 2 ^ (64 * j)) wr) ∧ Below w.heap.size w wr)
        (fun i _ => (nx - k) - (intOf i).toNat)
      case atStart => exact ⟨0, Nat.zero_le _, rfl, Lib.hid (by simp only [Nat.mul_zero, Nat.pow_zero, Nat.mod_one]; exact HR.out), (Below.refl _ _).alloc (Nat.le_refl _) _⟩
      case round =>
        clear HR
        obtain ⟨j, hj, rfl, HR, hbel⟩ := hrel
        have hs := HR.out.2.lt
        have hf := fun p => HR.out.2.frozen p
        by_cases hjl : j < nx - k
        · obtain ⟨v0, hz⟩ : ∃ v, wr.cell? ⟨w.heap.size, j, none⟩ = some v := ⟨_, HR.out.2.cell hjl⟩
          have hfz := hf j
          have hor := right_or (X := X) (i := j) hnWr.out hr
          have HB := Lib.hid hbel
          clear hbel hf
          go_wp2_with fail
          refine (digit_at _ _ X (k + j) _ _ (HX.out.below HB.out) (by omega) (by omega)).mono ?_
          rintro e w1 ⟨rfl, rfl⟩
          go_wp2_with fail
          refine (digit_at _ _ X (k + j + 1) _ _ (HX.out.below HB.out) (by omega) (by omega)).mono ?_
          rintro e w1 ⟨rfl, rfl⟩
          go_wp2_with fail
          go_roundw
          case rel =>
            refine ⟨j + 1, by omega, by go_num, Lib.hid ?_, HB.out.setCell (Nat.le_refl _) _⟩
            rw [← setd_mod_succ]
            exact HR.out.set (dg_lt _ _ _) hjl
          case measure => simp [intOf]; omega
        · obtain rfl : j = nx - k := by omega
          have hraw := HR.out.raw (by omega)
          rw [Nat.mod_eq_of_lt HQ.out] at hraw
          have hfin : (L = 0) ↔ X % 2 ^ n = 0 := by
            have hp : 0 < 2 ^ (64 * k) := Nat.two_pow_pos _
            rw [HL.out.2, mod_shift hnWr.out (by omega), Nat.add_eq_zero_iff, Nat.mul_eq_zero]
            constructor
            · rintro ⟨h1, h2⟩; exact ⟨h2, .inr h1⟩
            · rintro ⟨h1, h2⟩; exact ⟨by omega, h1⟩
          have HF : Hid (((L : Int) != 0) = decide (X % 2 ^ n ≠ 0)) := by
            refine Lib.hid ?_
            by_cases hL : L = 0
            · have := hfin.1 hL; subst hL; simp [this]
            · have h2 : X % 2 ^ n ≠ 0 := fun h => hL (hfin.2 h)
              rw [decide_eq_true h2]; simp; omega
          have HB := Lib.hid hbel
          clear hbel hf hfin
          go_wp2_with fail
          refine (norm_any _ _ _ _ hraw).mono ?_
          rintro e w1 ⟨v, rfl, rfl, hr2⟩
          have HRaw := Lib.hid hr2
          clear hr2 hraw
          go_wp2
          rw [HF.out]
          go_ret2
          exact ⟨v, rfl, HB.out, HRaw.out⟩

end Go.Proofs.YtfcddnccmdjhfaaDoor
