/- Walk: a number's power, rounded. -/
import Derived.Test.YtloohbkceppocaaGreatDoorIG
import Derived.Deep.CutRange
section
namespace Go.Proofs.YtloohbkceppocaaGreatDoor
open Go.RowKit

/-- The state of the loop: the number itself, and its power so far. -/
def PwR (w0 W : World) (bb cc : Nat) (nd : Bool) (sd : Value) (z e : Int) (np : Bool) (sp : Value) (y f : Int) : Prop :=
  BlkT W bb 98 #[.bool nd, sd, .int .i64 e] ∧ DyAt W (.agg #[.bool nd, sd, .int .i64 e]) z e ∧ BlkT W cc 98 #[.bool np, sp, .int .i64 f] ∧ DyAt W (.agg #[.bool np, sp, .int .i64 f]) y f ∧ Below w0.heap.size w0 W ∧ w0.heap.size ≤ cc ∧ bb ≠ cc
theorem PwR.later {w0 W V : World} {bb cc : Nat} {nd : Bool} {sd : Value} {z e : Int} {np : Bool} {sp : Value} {y f : Int} (h : PwR w0 W bb cc nd sd z e np sp y f) (hb : Below W.heap.size W V) : PwR w0 V bb cc nd sd z e np sp y f :=
  ⟨h.1.below hb, h.2.1.below hb, h.2.2.1.below hb, h.2.2.2.1.below hb, h.2.2.2.2.1.trans (hb.mono h.2.2.2.2.1.size), h.2.2.2.2.2⟩
theorem PwR.put {w0 W : World} {bb cc : Nat} {nd : Bool} {sd : Value} {z e : Int} {np : Bool} {sp : Value} {y f : Int} {n2 : Bool} {s2 : Value} {y2 g : Int} (h : PwR w0 W bb cc nd sd z e np sp y f) (ha : DyAt W (.agg #[.bool n2, s2, .int .i64 g]) y2 g) :
    PwR w0 (((W.setCell ⟨cc, 0, none⟩ (.bool n2)).setCell ⟨cc, 1, none⟩ s2).setCell ⟨cc, 2, none⟩ (.int .i64 g)) bb cc nd sd z e n2 s2 y2 g := by
  obtain ⟨hb, hd, hc, hp, hB, hl, hn⟩ := h
  exact ⟨((hb.setOther hn _).setOther hn _).setOther hn _, hd.set3 hc _ _ _, ((hc.set (i := 0) (.bool n2)).set (i := 1) s2).set (i := 2) (.int .i64 g), ha.set3 hc _ _ _,
    ((hB.setCell (p := ⟨cc, 0, none⟩) hl _).setCell (p := ⟨cc, 1, none⟩) hl _).setCell (p := ⟨cc, 2, none⟩) hl _, hl, hn⟩
theorem PwR.start {w0 W : World} {nd : Bool} {sd : Value} {z e : Int} (h : DyAt W (.agg #[.bool nd, sd, .int .i64 e]) z e) (hb : Below w0.heap.size w0 W) :
    PwR w0 ((W.alloc (.cells #[.bool nd, sd, .int .i64 e] 98)).alloc (.cells #[.bool nd, sd, .int .i64 e] 98)) W.heap.size (W.heap.size + 1) nd sd z e nd sd z e := by
  have h1 := (Below.alloc_self W (.cells #[.bool nd, sd, .int .i64 e] 98)).alloc (Below.alloc_self W (.cells #[.bool nd, sd, .int .i64 e] 98)).size (.cells #[.bool nd, sd, .int .i64 e] 98)
  exact ⟨(BlkT.new W _ _).alloc _, h.below h1, BlkT.new1 W _ _ _, h.below h1, hb.trans (h1.mono hb.size), by have := hb.size; omega, by omega⟩

end Go.Proofs.YtloohbkceppocaaGreatDoor
end

/- Walk: the power of an interval. Printed by wip/gen/iv14.py. -/
section
namespace Go.Proofs.YtloohbkceppocaaGreatDoor
open Go.RowKit
attribute [local go_sem] run_store_f

theorem I1.put {w0 W : World} {l h : Nat} (hx : I1 w0 W l h) (x y : Nat) : I1 w0 ((W.setCell ⟨w0.heap.size, 0, none⟩ (.float .f64 x)).setCell ⟨w0.heap.size, 1, none⟩ (.float .f64 y)) x y :=
  ⟨⟨(hx.1.1.set (i := 0) (.float .f64 x)).set (i := 1) (.float .f64 y), (hx.1.2.setOther (by omega) _).setOther (by omega) _⟩, (hx.2.setCell (p := ⟨w0.heap.size, 0, none⟩) (Nat.le_refl _) _).setCell (p := ⟨w0.heap.size, 1, none⟩) (Nat.le_refl _) _⟩

end Go.Proofs.YtloohbkceppocaaGreatDoor
end

/- The values of places; sums and products of places: they rise, they turn round. -/
section
namespace Go.Proofs.YtloohbkceppocaaGreatDoor
open Go.RowKit

/-- The value of a place, in units of the least float. -/
def vv (k : Int) : Int := vI 1074 (kb k)

theorem kb_fin {k : Int} (h1 : -(kInf : Int) < k) (h2 : k < kInf) : W64 (kb k) ∧ finB (kb k) = true ∧ nanB (kb k) = false ∧ ky (kb k) = k := by
  obtain ⟨a, b, c⟩ := kb_lt (k := k) (by omega) (by omega)
  exact ⟨a, (fin_ky a b).2 (by omega), num_iff.2 b, c⟩
theorem vv_le {k j : Int} (h1 : -(kInf : Int) < k) (h2 : k < kInf) (h3 : -(kInf : Int) < j) (h4 : j < kInf) : k ≤ j ↔ vv k ≤ vv j := by
  obtain ⟨a, b, c, d⟩ := kb_fin h1 h2
  obtain ⟨a', b', c', d'⟩ := kb_fin h3 h4
  have := ky_le_vI a a' b b' (Int.le_refl 1074)
  rw [d, d'] at this
  exact this
/-- Rounded down it is not above what is rounded up; it is no infinity on the wrong side. -/
theorem ad_bd (x y : Nat) : adK x y 4 ≤ adK x y 3 ∧ adK x y 4 < kInf ∧ -(kInf : Int) ≤ adK x y 4 ∧ -(kInf : Int) < adK x y 3 ∧ adK x y 3 ≤ kInf := by
  have h := rndX_adj (plZ (valZ x) (pE x) (valZ y) (pE y)) (plE (valZ x) (pE x) (valZ y) (pE y))
  have h2 := rndX_up_low (plZ (valZ x) (pE x) (valZ y) (pE y)) (plE (valZ x) (pE x) (valZ y) (pE y))
  obtain ⟨a, b⟩ := rndX_lt (plZ (valZ x) (pE x) (valZ y) (pE y)) (plE (valZ x) (pE x) (valZ y) (pE y)) 3
  have h3 := ky_bd a b
  unfold adK
  omega
end Go.Proofs.YtloohbkceppocaaGreatDoor
end

/- Sums, products and powers of intervals are intervals; turned round they are the same; a square is in the product. -/
section
namespace Go.Proofs.YtloohbkceppocaaGreatDoor
open Go.RowKit

theorem kInf_pos : (0 : Int) < kInf := by decide

end Go.Proofs.YtloohbkceppocaaGreatDoor
end
