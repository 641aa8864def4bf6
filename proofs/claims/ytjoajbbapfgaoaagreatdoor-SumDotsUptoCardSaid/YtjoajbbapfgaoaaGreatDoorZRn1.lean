/- Walks: the references' whole numbers: Cmp, Bit(0), Int64. -/
import Derived.Test.YtjoajbbapfgaoaaGreatDoorGO
import Derived.Test.YtjoajbbapfgaoaaGreatDoorZRd1
namespace Go.Proofs.YtjoajbbapfgaoaaGreatDoor
open Go.RowKit

set_option maxRecDepth 100000 in
set_option maxHeartbeats 800000 in
theorem rCmp_any (c p d q : Nat) (X Y : Nat) (w : World) (hx : IntK .u32 32 w c p (X : Int)) (hy : IntK .u32 32 w d q (Y : Int)) :
    Calls Tryz.prog 119 #[.pointer (some ⟨c, p, none⟩), .pointer (some ⟨d, q, none⟩)] w (Tells (.int .i64 (cmpZ X Y)) w) := by
  obtain ⟨hxs, hx0, vx, hx1, hrx⟩ := hx
  obtain ⟨hys, hy0, vy, hy1, hry⟩ := hy
  rw [Int.natAbs_natCast] at hrx hry
  rw [decide_eq_false (by omega : ¬ (X : Int) < 0)] at hx0
  rw [decide_eq_false (by omega : ¬ (Y : Int) < 0)] at hy0
  have HRx := Lib.hid hrx
  have HRy := Lib.hid hry
  clear hrx hry hxs hys
  go_enter Tryz.func119, Tryz.ntmps119
  go_wp2
  go_quiet (fail)
  go_wp2_with fail
  refine wp_region_pl (fun w' : World => w'.cell? ⟨c, p + 1, none⟩ = some vx ∧ w'.cell? ⟨d, q + 1, none⟩ = some vy) 8 (.take 0 (.take 1 (.take 2 (.take 3 (.take 4 (.take 5 (.take 6 (.take 7 .nil)))))))) (by kernel_rfl) (by kernel_rfl) ?_
  have hS : (fun w' : World => w'.cell? ⟨c, p + 1, none⟩ = some vx ∧ w'.cell? ⟨d, q + 1, none⟩ = some vy) (w.drewN nq).drew := ⟨by go_simp, by go_simp⟩
  repeat (refine wpPl_take (v := ?_) rfl (fun _ _ _ h => h) rfl (fun w' hSw => ?_) hS ?_; rotate_left; focus (go_simp; with_reducible rfl); try simp only [Act.put, List.setIfInBounds_toArray, List.set_cons_zero, List.set_cons_succ])
  clear hS
  refine wpPl_nil ?_
  simp only [List.drop_succ_cons, List.drop_zero]
  have HB := Lib.hid ((drewN_below w nq).trans (drew_below (w.drewN nq)))
  go_wp2_with fail
  refine (rcompare_any _ _ X Y _ (HRx.out.below HB.out) (HRy.out.below HB.out)).mono ?_
  rintro e wd ⟨rfl, nd, rfl⟩
  go_wp2
  go_ret
  exact ⟨rfl, _, rfl⟩

theorem and_one32 {x : Nat} (h : x < 4294967296) : bits .and .u32 (x : Int) 1 = ((x % 2 : Nat) : Int) := by
  have h1 := bits_and_u32_nat x 1 h (by decide)
  rw [Nat.and_one_is_mod] at h1
  exact h1

theorem dg32_even (N : Nat) : dg 32 N 0 % 2 = N % 2 := by unfold dg; simp

set_option maxRecDepth 100000 in
set_option maxHeartbeats 800000 in
theorem rBit_any (c p : Nat) (X : Int) (w : World) (hx : IntK .u32 32 w c p X) (hl : ln 32 X.natAbs ≤ 68719476736) :
    Calls Tryz.prog 120 #[.pointer (some ⟨c, p, none⟩), .int .i64 0] w (Gives (.int .u64 (X % 2)) w) := by
  obtain ⟨hxs, hx0, vx, hx1, hrx⟩ := hx
  have HF : Hid ((decide (X < 0) = false → X % 2 = ((X.natAbs % 2 : Nat) : Int)) ∧ (decide (X < 0) = true → 1 ≤ X.natAbs ∧ X % 2 = 1 - (((X.natAbs - 1) % 2 : Nat) : Int))) :=
    Lib.hid ⟨fun h => by have := of_decide_eq_false h; omega, fun h => by have := of_decide_eq_true h; omega⟩
  obtain ⟨R, hR⟩ : ∃ R, X % 2 = R := ⟨_, rfl⟩
  rw [hR] at HF ⊢
  generalize decide (X < 0) = sx at *
  generalize X.natAbs = N at *
  have hcx := hxs.1
  clear hR hxs
  cases sx
  · have HR := Lib.hid (HF.out.1 rfl)
    clear HF
    obtain ⟨ao, cap, rfl, -, hN, hn, hc⟩ := hrx
    by_cases h0 : ln 32 N = 0
    · have hN0 : N = 0 := by
        rw [h0] at hN; simp at hN; exact hN
      rw [hN0] at HR
      rw [h0] at hx1
      clear hN hn hc h0 hN0
      rw [HR.out]
      go_enter Tryz.func120, Tryz.ntmps120
      go_wp2
      go_ret
      exact ⟨rfl, Below.refl _ _⟩
    · obtain ⟨b, off, rfl, hb, -, hc⟩ := hc (by omega)
      have hc0 := hc 0 (by omega)
      rw [Nat.add_zero] at hc0
      have hd := dg32_lt N 0
      have he := dg32_even N
      rw [← he] at HR
      have hand := and_one32 hd
      have hn0 : decide ((0 : Int) < (ln 32 N : Nat)) = true := by simp; omega
      have hn1 : (0 : Int) < (ln 32 N : Nat) := by omega
      clear hN hc h0 he
      rw [HR.out]
      generalize dg 32 N 0 = x at *
      generalize ln 32 N = n at *
      have hw := wrap_u64_lt (x % 2) (by omega)
      go_enter Tryz.func120, Tryz.ntmps120
      go_wp2
      go_ret
      exact ⟨rfl, Below.refl _ _⟩
  · obtain ⟨h1, hR⟩ := HF.out.2 rfl
    have HR := Lib.hid hR
    have HRx := Lib.hid hrx
    obtain ⟨avx, cvx, rfl, -⟩ := hrx
    clear HF hR
    go_enter Tryz.func120, Tryz.ntmps120
    go_wp2_with fail
    refine (rminus_any _ _ _ 1 N 1 _ (HRx.out.below (Below.alloc_self _ _)) (Raw.uno _) (by omega) h1).mono ?_
    rintro e w1 ⟨v1, rfl, hb1, hr1⟩
    have HB := Lib.hid ((Below.alloc_self w _).trans (hb1.mono (by simp)))
    have hx0' := (HB.out.cell (p := ⟨c, p, none⟩) hcx).trans hx0
    have HR1 := Lib.hid hr1
    clear hb1
    obtain ⟨ao, cap, rfl, -, hN, hn, hc⟩ := hr1
    by_cases h0 : ln 32 (N - 1) = 0
    · have hN0 : N - 1 = 0 := by
        rw [h0] at hN; simp at hN; exact hN
      rw [hN0] at HR
      clear hN hn hc hN0
      rw [h0]
      clear h0
      go_wp2
      go_ret
      exact ⟨by rw [HR.out]; rfl, HB.out⟩
    · obtain ⟨b, off, rfl, hb, -, hc⟩ := hc (by omega)
      have hc0 := hc 0 (by omega)
      rw [Nat.add_zero] at hc0
      have hd := dg32_lt (N - 1) 0
      have he := dg32_even (N - 1)
      rw [← he] at HR
      have hand := and_one32 hd
      have hn1 : (0 : Int) < (ln 32 (N - 1) : Nat) := by omega
      clear hN hc h0 he
      generalize dg 32 (N - 1) 0 = x at *
      generalize ln 32 (N - 1) = n at *
      have hw : IntKind.u32.wrap (1 - ((x % 2 : Nat) : Int)) = 1 - ((x % 2 : Nat) : Int) := by rw [IntKind.wrap_u32]; omega
      have hw2 : IntKind.u64.wrap (1 - ((x % 2 : Nat) : Int)) = 1 - ((x % 2 : Nat) : Int) := by rw [IntKind.wrap_u64]; omega
      generalize ((x % 2 : Nat) : Int) = y at *
      go_wp2
      go_ret
      exact ⟨by rw [HR.out]; rfl, HB.out⟩

theorem dg64_own {N : Nat} (h : N < 9223372036854775808) : dg 64 N 0 = N := by unfold dg; simp; omega

set_option maxRecDepth 100000 in
set_option maxHeartbeats 800000 in
theorem rInt64_any (c p : Nat) (X : Int) (w : World) (hx : IntK .u32 32 w c p X) (hl : X.natAbs < 9223372036854775808) :
    Calls Tryz.prog 176 #[.pointer (some ⟨c, p, none⟩)] w (Gives (.int .i64 X) w) := by
  have HX := Lib.hid hx
  obtain ⟨hxs, hx0, vx, hx1, hrx⟩ := hx
  have hcx := hxs.1
  have HD := Lib.hid (dg64_own hl)
  have HL := Lib.hid hl
  have HF : Hid ((decide (X < 0) = false → X = (X.natAbs : Int)) ∧ (decide (X < 0) = true → X = -(X.natAbs : Int) ∧ 1 ≤ X.natAbs)) :=
    Lib.hid ⟨fun h => by have := of_decide_eq_false h; omega, fun h => by have := of_decide_eq_true h; omega⟩
  have HU := Lib.hid (rUint64_any c p X w HX.out)
  rw [HD.out] at HU
  clear hrx hx1 hxs HX HD
  generalize decide (X < 0) = sx at *
  generalize X.natAbs = N at *
  cases sx
  · have HR := Lib.hid (HF.out.1 rfl)
    rw [HR.out]
    have hw : IntKind.i64.wrap (N : Int) = N := IntWalk.i64_in _ (by have := HL.out; omega)
    clear hl HF
    go_enter Tryz.func176, Tryz.ntmps176
    go_wp2_with fail
    refine HU.out.mono ?_
    rintro e w1 ⟨rfl, hb⟩
    have hx0' := (hb.cell (p := ⟨c, p, none⟩) hcx).trans hx0
    have HB := Lib.hid hb
    clear hb hx0
    go_wp2
    go_ret
    exact ⟨rfl, HB.out⟩
  · obtain ⟨hR, h1⟩ := HF.out.2 rfl
    have HR := Lib.hid hR
    rw [HR.out]
    have hw : IntKind.u64.wrap (-(N : Int)) = 18446744073709551616 - N := by rw [IntKind.wrap_u64]; have := HL.out; omega
    have hw2 : IntKind.i64.wrap (18446744073709551616 - (N : Int)) = -(N : Int) := by rw [IntKind.wrap_i64]; have := HL.out; omega
    clear hl HF hR h1
    go_enter Tryz.func176, Tryz.ntmps176
    go_wp2_with fail
    refine HU.out.mono ?_
    rintro e w1 ⟨rfl, hb⟩
    have hx0' := (hb.cell (p := ⟨c, p, none⟩) hcx).trans hx0
    have HB := Lib.hid hb
    clear hb hx0
    go_wp2
    go_ret
    exact ⟨rfl, HB.out⟩

end Go.Proofs.YtjoajbbapfgaoaaGreatDoor
