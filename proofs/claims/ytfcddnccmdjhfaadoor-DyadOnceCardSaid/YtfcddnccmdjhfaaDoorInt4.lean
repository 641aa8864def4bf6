/- Walks: big.Int's bits, sums. -/
import Derived.Test.YtfcddnccmdjhfaaDoorInt3
namespace Go.Proofs.YtfcddnccmdjhfaaDoor
open Go.RowKit

theorem and_one_dg {s N W r : Nat} (h : dg s N W / 2 ^ r < 18446744073709551616) : bits .and .u64 ((dg s N W : Nat) / 2 ^ r) 1 = ((dg s N W / 2 ^ r % 2 : Nat) : Int) := by
  rw [shr_cast]
  have := bits_and_u64_nat (dg s N W / 2 ^ r) 1 h (by decide)
  rw [Nat.and_one_is_mod] at this
  exact this

set_option maxRecDepth 100000 in
set_option maxHeartbeats 400000 in
theorem Bit_any (c p i : Nat) (X : Int) (w : World) (hx : IntAt w c p X) (hi : i ≤ 1099511627776) :
    Calls Tryd.prog 68 #[.pointer (some ⟨c, p, none⟩), .int .i64 i] w fun e w' => e = .returned (.int .u64 (X.natAbs / 2 ^ i % 2 : Nat)) ∧ w = w' := by
  obtain ⟨hxs, hx0, vx, hx1, hrx⟩ := hx
  have HR := Lib.hid hrx
  obtain ⟨W, r, hW, hr, hq1, hq2, hiW⟩ : ∃ W r : Nat, W ≤ 17179869184 ∧ r < 64 ∧ (i : Int) / 64 = (W : Int) ∧ (i : Int) % 64 = (r : Int) ∧ Hid (W = i / 64 ∧ r = i % 64) :=
    ⟨i / 64, i % 64, by omega, by omega, by omega, by omega, Lib.hid ⟨rfl, rfl⟩⟩
  have HD : Hid (dg 64 X.natAbs W / 2 ^ r % 2 = X.natAbs / 2 ^ i % 2) := by
    refine Lib.hid ?_
    rw [hiW.out.1, hiW.out.2]; exact bit_of_dg (by decide)
  have hand := and_one_dg (s := 64) (N := X.natAbs) (W := W) (r := r) (Nat.lt_of_le_of_lt (Nat.div_le_self _ _) (dg64_lt _ _))
  clear hrx hxs
  go_enter Tryd.func68, Tryd.ntmps68
  go_wp2_with fail
  refine (digit_at _ _ _ W _ _ HR.out (by omega) rfl).mono ?_
  rintro e w1 ⟨rfl, rfl⟩
  go_wp2
  go_ret
  exact ⟨congrArg Ending.returned (congrArg (Value.int .u64) (by rw [← HD.out]; simp)), rfl⟩

set_option maxRecDepth 100000 in
set_option maxHeartbeats 400000 in
theorem TrailingZeroBits_any (c p : Nat) (X : Int) (w : World) (hx : IntAt w c p X) (hT : Tab64 w) (hl : ln 64 X.natAbs ≤ 68719476736) :
    Calls Tryd.prog 69 #[.pointer (some ⟨c, p, none⟩)] w fun e w' => e = .returned (.int .u64 (tzb X.natAbs : Nat)) ∧ w = w' := by
  obtain ⟨hxs, hx0, vx, hx1, hrx⟩ := hx
  obtain ⟨ao, cap, rfl, -, hN, -, hcx⟩ := hrx
  have HC := Lib.hid hcx
  have HN := Lib.hid hN
  have HT := Lib.hid hT
  generalize X.natAbs = N at *
  generalize ln 64 N = n at *
  clear hcx hN hT hxs hx0
  go_enter Tryd.func69, Tryd.ntmps69
  go_wp2
  go_loop [10] (fun i => ∃ k : Nat, k ≤ n ∧ i = .int .i64 k ∧ Hid (N % 2 ^ (64 * k) = 0)) (fun i => n - (intOf i).toNat)
  case atStart => exact ⟨0, Nat.zero_le _, rfl, Lib.hid (by simp [Nat.mod_one])⟩
  case round =>
    obtain ⟨k, hk, rfl, HR⟩ := hrel
    by_cases hlt : k < n
    · obtain ⟨b, off, rfl, hb, -, hc⟩ := HC.out (by omega)
      have hck := hc k hlt
      clear hc
      by_cases hd : dg 64 N k = 0
      · have hb0 : (((dg 64 N k : Nat) : Int) != 0) = false := by simp [hd]
        have HD := Lib.hid hd
        clear hd
        go_wp2
        go_round
        case rel => exact ⟨k + 1, by omega, by go_num, Lib.hid (by rw [mod_succ, HR.out, HD.out, Nat.mul_zero])⟩
        case measure => simp [intOf]; omega
      · have hb0 : (((dg 64 N k : Nat) : Int) != 0) = true := by simp [hd]
        have HE := Lib.hid (tzb_digit HR.out hd)
        have HD := Lib.hid hd
        have hctz : Lib.ctz 64 (dg 64 N k) < 64 := by
          obtain ⟨m, h1, h2⟩ := Lib.ctzFrom_spec 64 (dg 64 N k) (by omega) (dg_lt 64 N k)
          unfold Lib.ctz; rw [if_neg hd]; exact h2
        clear hd
        generalize hg : Lib.ctz 64 (dg 64 N k) = t at hctz HE
        have HG := Lib.hid hg
        clear hg
        go_wp2_with fail
        refine (tz64_any _ (dg64_lt _ _) HD.out _ HT.out).mono ?_
        rintro e w1 ⟨rfl, rfl⟩
        rw [HG.out]
        go_wp2
        go_ret
        exact ⟨congrArg Ending.returned (congrArg (Value.int .u64) (by rw [HE.out]; omega)), rfl⟩
    · obtain rfl : k = n := by omega
      have h0 : N = 0 := by rw [← HR.out]; exact (Nat.mod_eq_of_lt HN.out).symm
      have HE : Hid (tzb N = 0) := Lib.hid (by subst h0; rfl)
      clear h0
      go_wp2
      go_ret
      exact ⟨congrArg Ending.returned (congrArg (Value.int .u64) (by rw [HE.out]; rfl)), rfl⟩

end Go.Proofs.YtfcddnccmdjhfaaDoor
