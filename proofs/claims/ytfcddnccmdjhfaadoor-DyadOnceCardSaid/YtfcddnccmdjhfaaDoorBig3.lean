/- Walks: big's times. -/
import Derived.Test.YtfcddnccmdjhfaaDoorBig2
namespace Go.Proofs.YtfcddnccmdjhfaaDoor
open Go.RowKit

/-- The row of m words holds N's digits. -/
def Row (k : IntKind) (s b0 m N : Nat) (wr : World) : Prop := N < 2 ^ (s * m) ∧ wr.rowIs b0 (ety k) m (fun j => .int k (dg s N j : Nat))

theorem Row.set {k : IntKind} {s b0 m N i v : Nat} {wr : World} (h : Row k s b0 m N wr) (hv : v < 2 ^ s) (hi : i < m) : Row k s b0 m (setd s N i v) (wr.setCell ⟨b0, i, none⟩ (.int k v)) := by
  refine ⟨setd_lt hv h.1 hi, (h.2.set i _).congr fun j hj => ?_⟩
  rw [dg_setd hv]
  by_cases e : j = i
  · rw [if_pos e, if_pos e]
  · rw [if_neg e, if_neg e]

theorem Row.made (k : IntKind) (s m : Nat) (w : World) : Row k s w.heap.size m 0 (w.alloc (.cells (madeCells #[.int k 0] m) (ety k))) :=
  ⟨Nat.two_pow_pos _, (World.rowIs_made _ _ _ _).congr fun i _ => by simp [dg]⟩

theorem Row.raw {k : IntKind} {s b0 m N : Nat} {wr : World} (h : Row k s b0 m N wr) (hm : m ≤ 1099511627776) : Raw k s wr (.slice (some ⟨b0, 0, none⟩) m m) m N :=
  Raw.of_row h.2 (fun _ _ => rfl) h.1 hm

theorem hi64_lt {a b c d : Nat} (ha : a < 18446744073709551616) (hb : b < 18446744073709551616) (hc : c < 18446744073709551616) (hd : d < 18446744073709551616) : hi64 (a * b + c + d) < 18446744073709551616 := by
  have hab : a * b ≤ 18446744073709551615 * 18446744073709551615 := Nat.mul_le_mul (by omega) (by omega)
  unfold hi64; omega

set_option maxRecDepth 100000 in
set_option maxHeartbeats 400000 in
theorem times_any (vx vy : Value) (nx ny X Y : Nat) (w : World) (hx : Raw .u64 64 w vx nx X) (hy : Raw .u64 64 w vy ny Y) (hn : nx ≤ 274877906944 ∧ ny ≤ 274877906944) :
    Calls Tryd.prog 75 #[vx, vy] w (Makes .u64 64 (ln 64 (X * Y)) (X * Y) w) := by
  have HX := Lib.hid hx
  have HY := Lib.hid hy
  obtain ⟨ax, cx, rfl, -, hX, hnx, hcx⟩ := hx
  obtain ⟨ay, cy, rfl, -, hY, hny, hcy⟩ := hy
  have HCX := Lib.hid hcx
  have HCY := Lib.hid hcy
  have HBX := Lib.hid hX
  have HBY := Lib.hid hY
  clear hcx hcy hX hY
  by_cases h0 : nx = 0 ∨ ny = 0
  · have e : X * Y = 0 := by
      rcases h0 with h0 | h0
      · subst h0; have := HBX.out; simp at this; subst this; simp
      · subst h0; have := HBY.out; simp at this; subst this; simp
    have hfin : Makes .u64 64 (ln 64 (X * Y)) (X * Y) w (.returned (.slice none 0 0)) w := by
      rw [e, ln_zero]
      exact Makes.mk (Below.refl _ _) ⟨none, 0, rfl, by omega, by simp, by omega, fun h => absurd h (by omega)⟩
    have HF := Lib.hid hfin
    clear hfin e
    by_cases h1 : nx = 0
    · subst h1
      clear h0
      go_enter Tryd.func75, Tryd.ntmps75
      go_wp2
      go_ret
      exact HF.out
    · obtain rfl : ny = 0 := by omega
      have hb : ((nx : Int) == 0) = false := by simp; omega
      clear h0 h1
      go_enter Tryd.func75, Tryd.ntmps75
      go_wp2
      go_ret
      exact HF.out
  have hny0 : 0 < ny := by omega
  have hb1 : ((nx : Int) == 0) = false := by simp; omega
  have hb2 : ((ny : Int) == 0) = false := by simp; omega
  have hmk := run_make_row' (P := Tryd.prog) 58 22 (.int .u64 0) 8 Tryd.underlying58 Tryd.info22 rfl .i64 .i64 (nx + ny) (by omega) (by omega)
  rw [show ((nx + ny : Nat) : Int) = (nx : Int) + (ny : Int) from by omega] at hmk
  go_enter Tryd.func75, Tryd.ntmps75
  go_wp2
  clear hmk h0 hb1 hb2
  have HR := Lib.hid (Row.made .u64 64 (nx + ny) w)
  go_loopw [27] (fun i wr => ∃ k : Nat, k ≤ nx ∧ i = .int .i64 k ∧ Hid (X % 2 ^ (64 * k) * Y < 2 ^ (64 * (k + ny)) ∧ Row .u64 64 w.heap.size (nx + ny) (X % 2 ^ (64 * k) * Y) wr) ∧ Below w.heap.size w wr)
    (fun i _ => nx - (intOf i).toNat)
  case atStart => exact ⟨0, Nat.zero_le _, rfl, Lib.hid ⟨by simp [Nat.mod_one, Nat.two_pow_pos], by simp only [Nat.mul_zero, Nat.pow_zero, Nat.mod_one, Nat.zero_mul]; exact HR.out⟩, (Below.refl _ _).alloc (Nat.le_refl _) _⟩
  case round =>
    clear HR
    obtain ⟨wo, rfl⟩ : ∃ wo : World, wo = wr := ⟨_, rfl⟩
    obtain ⟨i, hi, rfl, HR, hbel⟩ := hrel
    have hs := HR.out.2.2.lt
    by_cases hlt : i < nx
    · obtain ⟨bx, ox, rfl, hbx, -, hcx⟩ := HCX.out (by omega)
      obtain ⟨by', oy, rfl, hby, -, hcy⟩ := HCY.out (by omega)
      have hxi : wo.cell? ⟨bx, ox + i, none⟩ = some (.int .u64 (dg 64 X i : Nat)) := (hbel.cell (p := ⟨bx, ox + i, none⟩) hbx).trans (hcx i hlt)
      have HB := Lib.hid hbel
      have HC := Lib.hid hcy
      clear hbel hcx hcy
      go_wp2
      have HS := Lib.hid (mul_start 64 X Y i)
      go_loopw [8, 34] (fun c jv wr => ∃ j C N : Nat, j ≤ ny ∧ jv = .int .i64 j ∧ c = .int .u64 C ∧
          Hid (C < 18446744073709551616 ∧ N + C * 2 ^ (64 * (i + j)) = X % 2 ^ (64 * i) * Y + dg 64 X i * (Y % 2 ^ (64 * j)) * 2 ^ (64 * i) ∧ N < 2 ^ (64 * (i + ny)) ∧ Row .u64 64 w.heap.size (nx + ny) N wr) ∧ Below w.heap.size w wr)
        (fun _ jv _ => ny - (intOf jv).toNat)
      case atStart => exact ⟨0, 0, _, Nat.zero_le _, rfl, rfl, Lib.hid ⟨by decide, HS.out, HR.out.1, HR.out.2⟩, HB.out⟩
      case round =>
        clear HS HR hxi hs
        obtain ⟨j, C, N, hj, rfl, rfl, HR, hbel⟩ := hrel
        have hs := HR.out.2.2.2.2.lt
        have hf := fun p => HR.out.2.2.2.2.frozen p
        by_cases hjl : j < ny
        · have hyj : wr.cell? ⟨by', oy + j, none⟩ = some (.int .u64 (dg 64 Y j : Nat)) := (hbel.cell (p := ⟨by', oy + j, none⟩) hby).trans (HC.out j hjl)
          have hz : wr.cell? ⟨w.heap.size, i + j, none⟩ = some (.int .u64 (dg 64 N (i + j) : Nat)) := HR.out.2.2.2.2.cell (by omega)
          have hfz := hf (i + j)
          have HB := Lib.hid hbel
          clear hbel hf
          go_wp2_with fail
          refine (fold_any _ _ _ _ (dg64_lt X i) (dg64_lt Y j) (dg64_lt N (i + j)) HR.out.1 _).mono ?_
          rintro e w1 ⟨rfl, rfl⟩
          go_wp2
          go_roundw
          case rel =>
            refine ⟨j + 1, _, _, by omega, by go_num, rfl, Lib.hid ⟨?_, mul_step HR.out.2.1, setd_lt (Nat.mod_lt _ (by decide)) HR.out.2.2.1 (by omega), HR.out.2.2.2.set (lo64_lt _) (by omega)⟩, HB.out.setCell (Nat.le_refl _) _⟩
            exact hi64_lt (dg64_lt X i) (dg64_lt Y j) (dg64_lt N (i + j)) HR.out.1
          case measure => simp [intOf]; omega
        · obtain rfl : j = ny := by omega
          have HB := Lib.hid hbel
          obtain ⟨v0, hz⟩ : ∃ v, wr.cell? ⟨w.heap.size, i + j, none⟩ = some v := ⟨_, HR.out.2.2.2.2.cell (by omega)⟩
          have hfz := hf (i + j)
          clear hbel hf
          go_wp2
          go_roundw
          case rel =>
            have hr := mul_row HBY.out HR.out.2.1 HR.out.2.2.1
            refine ⟨i + 1, by omega, by go_num, Lib.hid ⟨?_, ?_⟩, HB.out.setCell (Nat.le_refl _) _⟩
            · rw [← hr]; exact setd_lt HR.out.1 (Nat.lt_of_lt_of_le HR.out.2.2.1 (Nat.pow_le_pow_right (by decide) (by omega))) (by omega)
            · rw [← hr]; exact HR.out.2.2.2.set HR.out.1 (by omega)
          case measure => simp [intOf]; omega
    · obtain rfl : i = nx := by omega
      have HB := Lib.hid hbel
      have hraw := HR.out.2.raw (by omega)
      rw [Nat.mod_eq_of_lt HBX.out] at hraw
      clear hbel
      go_wp2_with fail
      refine (norm_any _ _ _ _ hraw).mono ?_
      rintro e w1 ⟨v, rfl, rfl, hr2⟩
      have HRaw := Lib.hid hr2
      clear hr2 hraw
      go_wp2
      go_ret
      exact ⟨v, rfl, HB.out, HRaw.out⟩

end Go.Proofs.YtfcddnccmdjhfaaDoor
