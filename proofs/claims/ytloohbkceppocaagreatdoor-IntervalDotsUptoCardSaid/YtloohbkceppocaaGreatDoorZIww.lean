/- What the law asks of sums, products, quotients: as calls that answer true. Blocks in a list: three filled at once. -/
import Derived.Test.YtloohbkceppocaaGreatDoorZIwv
namespace Go.Proofs.YtloohbkceppocaaGreatDoor
open Go.RowKit

theorem objT_iv : ObjT 34 := by intro k; cases k <;> decide
theorem RInt.ne_iv {w : World} {p b t : Nat} {z : Int} {k : FloatKind} {x : Nat} {y : Value} (h : RInt w p z) (hb : BlkT w b t #[.float k x, y]) : p ≠ b := by
  rintro rfl
  have h1 := h.2.1
  rw [hb.cell 0] at h1
  cases Option.some.inj h1
theorem RInt.stI {W : World} {b p x y : Nat} {z : Int} (h : RInt W p z) (hr : BlkT W b 34 #[.float .f64 x, .float .f64 y]) (u v : Nat) : RInt ((W.setCell ⟨b, 0, none⟩ (.float .f64 u)).setCell ⟨b, 1, none⟩ (.float .f64 v)) p z :=
  (h.setOther hr objT_iv (h.ne_iv hr) _).setOther (hr.set (i := 0) (.float .f64 u)) objT_iv (h.ne_iv hr) _

theorem hold_args {o : Option (Int × Int)} (ho : Iok o) {zn en zd ed : Int} (h : HoldQ o zn en zd ed) :
    W64 (ivL o) ∧ W64 (ivH o) ∧ nanB (ivL o) = false ∧ nanB (ivH o) = false ∧ ivL o ≠ kInf ∧ ivH o ≠ kSign + kInf ∧
    (finB (ivL o) = true → (plZ (valZ (ivL o) * zd) (pE (ivL o) + ed) (-zn) en).sign ≤ 0) ∧ (finB (ivH o) = true → 0 ≤ (plZ (valZ (ivH o) * zd) (pE (ivH o) + ed) (-zn) en).sign) := by
  obtain ⟨l, u, rfl, h1, h2⟩ := h
  obtain ⟨a1, a2, a3, a4, a5⟩ := ho l u rfl
  show W64 (kb l) ∧ W64 (kb u) ∧ nanB (kb l) = false ∧ nanB (kb u) = false ∧ kb l ≠ kInf ∧ kb u ≠ kSign + kInf ∧
    (finB (kb l) = true → (plZ (valZ (kb l) * zd) (pE (kb l) + ed) (-zn) en).sign ≤ 0) ∧ (finB (kb u) = true → 0 ≤ (plZ (valZ (kb u) * zd) (pE (kb u) + ed) (-zn) en).sign)
  obtain ⟨b1, b2, b3⟩ := kb_lt (k := l) a1 (by omega)
  obtain ⟨c1, c2, c3⟩ := kb_lt (k := u) (by omega) a3
  have i1 : ky kInf = kInf := by decide
  have i2 : ky (kSign + kInf) = -(kInf : Int) := by decide
  refine ⟨b1, c1, num_iff.2 b2, num_iff.2 c2, fun e => ?_, fun e => ?_, fun hf => h1 ?_, fun hf => h2 ?_⟩
  · rw [e, i1] at b3; omega
  · rw [e, i2] at c3; omega
  · have := (fin_ky b1 b2).1 hf; omega
  · have := (fin_ky c1 c2).1 hf; omega

theorem round_of {o : Option (Int × Int)} (ho : Iok o) {r : Nat} (wr : W64 r) (h : finB r = true → hasK o r = true) (w : World) :
    Calls Tryz.prog 18 #[.agg #[.float .f64 (ivL o), .float .f64 (ivH o)], .float .f64 r] w (Gives (.bool true) w) :=
  rounded_true _ _ r w (ivL_lt ho) (ivH_lt ho) wr (by rw [ivK_back ho]; exact h)

/-- What +, -, *, / answer. -/
theorem plus_word {x y : Nat} (hx : W64 x) (hy : W64 y) (fx : finB x = true) (fy : finB y = true) : ∃ r, F6.add x y = some r ∧ W64 r ∧ ky r = ky (rndX (plZ (valZ x) (pE x) (valZ y) (pE y)) (plE (valZ x) (pE x) (valZ y) (pE y)) 0) := by
  obtain ⟨r, h1, h2, -, h4⟩ := fadd_ky hx hy fx fy
  exact ⟨r, h1, h2, h4⟩
theorem times_word {x y : Nat} (hx : W64 x) (hy : W64 y) (fx : finB x = true) (fy : finB y = true) : ∃ r, F6.mul x y = some r ∧ W64 r ∧ ky r = ky (rndX (valZ x * valZ y) (pE x + pE y) 0) := by
  obtain ⟨r, h1, h2, -, h4⟩ := fmul_ky hx hy fx fy
  exact ⟨r, h1, h2, h4⟩

end Go.Proofs.YtloohbkceppocaaGreatDoor
