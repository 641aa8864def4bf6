/- Walks: math/bits. -/
import Derived.Test.YtfcddnccmdjhfaaDoorRows
import Derived.Test.YtfcddnccmdjhfaaDoorNum
import Derived.WalkKit
import Derived.WalkSpells
import Derived.WalkLawsBesides
import Derived.Lib.Hide
import Derived.Lib.Mul64
import Derived.Lib.TrailingZeros
import Derived.Laws.Externs
import Derived.Laws.Bits64b
import Derived.Shelf.Spec.BitsCarry
import Derived.Shelf.Bits.Mul64
import Derived.Shelf.Strconv.Itoa0
import Derived.Shelf.Spec.TrailingZeros
namespace Go.Proofs.YtfcddnccmdjhfaaDoor
open Go.RowKit

/-- The lower word, the upper word of a number; 1 just where a is below b. -/
def lo64 (n : Nat) : Nat := n % 18446744073709551616
def hi64 (n : Nat) : Nat := n / 18446744073709551616
def sb64 (x y b : Nat) : Nat := (x + 18446744073709551616 - y - b) % 18446744073709551616
def bw64 (x y b : Nat) : Nat := if x < y + b then 1 else 0

theorem add64_eq (x y c : Nat) (hc : c ≤ 1) (w : World) :
    (callFunc 86 #[.int .u64 x, .int .u64 y, .int .u64 c]).run Tryd.prog w =
      .ok (.value (.tuple #[.int .u64 (lo64 (x + y + c) : Nat), .int .u64 (hi64 (x + y + c) : Nat)])) w := by
  rw [run_callFunc_extern Tryd.func86 (by kernel_rfl) (by kernel_rfl) (by kernel_rfl) (e := add64Entry) (by kernel_rfl), run_add64 x y c (by omega) (by omega) (by omega) (by omega)]
  simp only [Result.andThen]
  unfold lo64 hi64
  congr 5 <;> omega

theorem sub64_eq (x y b : Nat) (hb : b ≤ 1) (w : World) :
    (callFunc 92 #[.int .u64 x, .int .u64 y, .int .u64 b]).run Tryd.prog w =
      .ok (.value (.tuple #[.int .u64 (sb64 x y b : Nat), .int .u64 (bw64 x y b : Nat)])) w := by
  rw [run_callFunc_extern Tryd.func92 (by kernel_rfl) (by kernel_rfl) (by kernel_rfl) (e := sub64Entry) (by kernel_rfl), run_sub64 x y b hb]
  rfl

set_option maxHeartbeats 1000000 in
theorem mul64_any (x y : Nat) (hx : x < 18446744073709551616) (hy : y < 18446744073709551616) (w : World) :
    Calls Tryd.prog 93 #[.int .u64 x, .int .u64 y] w fun e w' => e = .returned (.tuple #[.int .u64 (hi64 (x * y) : Nat), .int .u64 (lo64 (x * y) : Nat)]) ∧ w = w' := by
  obtain ⟨bd, bt, bw, hhi⟩ := Lib.mul64_hi x y hx hy
  have ba := Lib.half_mul_le (a := x / 4294967296) (b := y / 4294967296) (by omega) (by omega)
  have bb := Lib.half_mul_le (a := x / 4294967296) (b := y % 4294967296) (by omega) (by omega)
  have bc := Lib.half_mul_le (a := x % 4294967296) (b := y / 4294967296) (by omega) (by omega)
  have ba' : x / 4294967296 * (y / 4294967296) < 18446744073709551616 := by omega
  have bb' : x / 4294967296 * (y % 4294967296) < 18446744073709551616 := by omega
  have bc' : x % 4294967296 * (y / 4294967296) < 18446744073709551616 := by omega
  have bh1 : x / 4294967296 * (y / 4294967296) + (x / 4294967296 * (y % 4294967296) + x % 4294967296 * (y % 4294967296) / 4294967296) / 4294967296 < 18446744073709551616 := by omega
  have bh : x / 4294967296 * (y / 4294967296) + (x / 4294967296 * (y % 4294967296) + x % 4294967296 * (y % 4294967296) / 4294967296) / 4294967296 + ((x / 4294967296 * (y % 4294967296) + x % 4294967296 * (y % 4294967296) / 4294967296) % 4294967296 + x % 4294967296 * (y / 4294967296)) / 4294967296 < 18446744073709551616 := by omega
  go_enter Tryd.func93, Tryd.ntmps93
  go_wp2
  simp only [Mul64.maskN x hx, Mul64.maskN y hy, Mul64.divN, Mul64.mulN, Mul64.addN, Mul64.wrapN _ bd, Mul64.wrapN _ bb', Mul64.wrapN _ bt, Mul64.maskN _ bt, Mul64.wrapN _ bc', Mul64.wrapN _ bw, Mul64.wrapN _ ba', Mul64.wrapN _ bh1, Mul64.wrapN _ bh, Mul64.wrapM (x * y)]
  rw [hhi]
  go_ret2
  exact ⟨rfl, rfl⟩

theorem lo64_lt (n : Nat) : lo64 n < 18446744073709551616 := Nat.mod_lt _ (by decide)
theorem wrap_u64_lt (n : Nat) (h : n < 18446744073709551616) : IntKind.u64.wrap (n : Int) = n := by rw [IntKind.wrap_u64]; omega

theorem add64_zero (x y : Nat) (w : World) :
    (callFunc 86 #[.int .u64 x, .int .u64 y, .int .u64 0]).run Tryd.prog w =
      .ok (.value (.tuple #[.int .u64 (lo64 (x + y) : Nat), .int .u64 (hi64 (x + y) : Nat)])) w := add64_eq x y 0 (by omega) w

set_option maxHeartbeats 400000 in
/-- a b + c + d, as its upper and its lower digit. -/
theorem fold_any (a b c d : Nat) (ha : a < 18446744073709551616) (hb : b < 18446744073709551616) (hc : c < 18446744073709551616) (hd : d < 18446744073709551616) (w : World) :
    Calls Tryd.prog 89 #[.int .u64 a, .int .u64 b, .int .u64 c, .int .u64 d] w fun e w' =>
      e = .returned (.tuple #[.int .u64 (hi64 (a * b + c + d) : Nat), .int .u64 (lo64 (a * b + c + d) : Nat)]) ∧ w = w' := by
  have hab : a * b ≤ 18446744073709551615 * 18446744073709551615 := Nat.mul_le_mul (by omega) (by omega)
  have H1 : Hid (IntKind.u64.wrap ((hi64 (a * b) : Nat) + (hi64 (lo64 (a * b) + c) : Nat)) = ((hi64 (a * b) + hi64 (lo64 (a * b) + c) : Nat) : Int)) := by
    refine Lib.hid ?_; rw [← Int.natCast_add]; exact wrap_u64_lt _ (by unfold hi64 lo64; omega)
  have H2 : Hid (IntKind.u64.wrap ((hi64 (a * b) + hi64 (lo64 (a * b) + c) : Nat) + (hi64 (lo64 (lo64 (a * b) + c) + d) : Nat)) = ((hi64 (a * b + c + d) : Nat) : Int)) := by
    refine Lib.hid ?_; rw [← Int.natCast_add, wrap_u64_lt _ (by unfold hi64 lo64; omega)]; congr 1; unfold hi64 lo64; omega
  have H3 : Hid (lo64 (lo64 (lo64 (a * b) + c) + d) = lo64 (a * b + c + d)) := by
    refine Lib.hid ?_; unfold lo64; omega
  clear hab
  go_enter Tryd.func89, Tryd.ntmps89
  go_wp2_with fail
  refine (mul64_any _ _ ha hb _).mono ?_
  rintro e w' ⟨rfl, rfl⟩
  clear ha hb hc hd
  have h1 := add64_zero (lo64 (a * b)) c
  have h2 := add64_zero (lo64 (lo64 (a * b) + c)) d
  go_wp2_with fail
  clear h1 h2
  rw [H1.out, H2.out, H3.out]
  go_ret2
  exact ⟨rfl, rfl⟩

/-- The table of TrailingZeros64 in its variable. -/
def Tab64 (w : World) : Prop := TabAt 1 Lib.deBruijn64tab w

set_option maxHeartbeats 1000000 in
theorem tz64_core (x k idx : Nat) (w : World) (hx0 : ((x : Int) == 0) = false)
    (key : IntKind.u64.wrap (bits BinOp.and IntKind.u64 (x : Int) (IntKind.u64.wrap (-(x : Int))) * 285870213051353865) / 288230376151711744 = (idx : Int))
    (hi : idx < 64) (_hk : k < 64) (hcell : w.cell? ⟨1, idx, none⟩ = some (.int .u8 k)) :
    Calls Tryd.prog 83 #[.int .u64 x] w fun e w' => e = .returned (.int .i64 k) ∧ w = w' := by
  go_enter Tryd.func83, Tryd.ntmps83
  go_wp2_with (simp only [key])
  go_ret
  exact ⟨rfl, rfl⟩

theorem tz64_any (x : Nat) (hx : x < 18446744073709551616) (hx0 : x ≠ 0) (w : World) (hT : Tab64 w) :
    Calls Tryd.prog 83 #[.int .u64 x] w fun e w' => e = .returned (.int .i64 (Lib.ctz 64 x)) ∧ w = w' := by
  obtain ⟨hlow, hk⟩ := Lib.lowest_bit 64 x hx0 hx
  obtain ⟨hi, htab⟩ := Lib.deBruijn64_at _ hk
  have hcell := hT _ hi
  rw [htab] at hcell
  exact tz64_core x _ _ w (by simp; omega) (tz64_key x _ hx hx0 hlow) hi hk hcell

def Tryd.lays129_ren : Go.Shelf.Ren := ⟨fun | 129 => 81 | n => n, fun | 53 => 22 | 3 => 3 | 4 => 4 | 46 => 85 | 5 => 5 | 9 => 9 | n => n, fun | n => n⟩
theorem Tryd.lays129 : Go.Proofs.Lays.n129 Tryd.prog Tryd.lays129_ren := {
  mixed := by kernel_rfl
  f129 := Tryd.func81.trans (congrArg some (by kernel_rfl))
  t3 := Tryd.underlying3
  a3 := Tryd.isAgg3
  z3 := Tryd.sizeOf3
  v3 := Tryd.zeroValue3
  t4 := Tryd.underlying4
  a4 := Tryd.isAgg4
  z4 := Tryd.sizeOf4
  v4 := Tryd.zeroValue4
  t5 := Tryd.underlying5
  a5 := Tryd.isAgg5
  z5 := Tryd.sizeOf5
  v5 := Tryd.zeroValue5
  t9 := Tryd.underlying9
  a9 := Tryd.isAgg9
  z9 := Tryd.sizeOf9
  v9 := Tryd.zeroValue9
  t46 := Tryd.underlying85
  a46 := Tryd.isAgg85
  z46 := Tryd.sizeOf85
  v46 := Tryd.zeroValue85
  t53 := Tryd.underlying22
  a53 := Tryd.isAgg22
  z53 := Tryd.sizeOf22
  v53 := Tryd.zeroValue22 }

theorem bitLenAux_bl : ∀ (f x : Nat), x < 2 ^ f → Lib.bitLenAux f x = bl x
  | 0, x, h => by have : x = 0 := by omega
                  subst this; rfl
  | f + 1, x, h => by
    unfold Lib.bitLenAux
    by_cases h0 : x = 0
    · subst h0; rfl
    · rw [if_neg h0, bl_half h0, bitLenAux_bl f (x / 2) (by omega)]

theorem bitLen_bl {n : Nat} (h : n < 18446744073709551616) : Lib.bitLen n = bl n := bitLenAux_bl 64 n h

theorem len64_any (x : Nat) (hx : x < 18446744073709551616) (w : World) :
    Calls Tryd.prog 81 #[.int .u64 x] w fun e w' => e = .returned (.int .i64 (bl x : Nat)) ∧ w = w' :=
  (Any.bits_Len64 Tryd.lays129 x w (by omega) (by omega)).mono fun _ _ ⟨h1, h2⟩ => ⟨by rw [h1, Int.toNat_natCast, bitLen_bl hx], h2.symm⟩

end Go.Proofs.YtfcddnccmdjhfaaDoor
