/- Walk: DyadSums. Printed by wip/gen/sums.py. -/
import Derived.Test.YtloohbkceppocaaGreatDoorGR
namespace Go.Proofs.YtloohbkceppocaaGreatDoor
open Go.RowKit

/-- The blocks of DyadSums: the two answers, the references' two. -/
structure DS (w0 W : World) (sb db b13 b14 : Nat) (n1 n2 : Bool) (s1 s2 : Value) (x1 x2 : Int) (q1 q2 : Nat) (e1 e2 : Int) : Prop where
  s : BlkT W sb 98 #[.bool n1, s1, .int .i64 x1]
  d : BlkT W db 98 #[.bool n2, s2, .int .i64 x2]
  p : BlkT W b13 27 #[.pointer (some ⟨q1, 0, none⟩), .int .i64 e1]
  q : BlkT W b14 27 #[.pointer (some ⟨q2, 0, none⟩), .int .i64 e2]
  below : Below w0.heap.size w0 W
  ne : w0.heap.size ≤ sb ∧ sb < db ∧ db < b13 ∧ b13 < b14

theorem DS.later {w0 W V : World} {sb db b13 b14 : Nat} {n1 n2 : Bool} {s1 s2 : Value} {x1 x2 : Int} {q1 q2 : Nat} {e1 e2 : Int} (h : DS w0 W sb db b13 b14 n1 n2 s1 s2 x1 x2 q1 q2 e1 e2) (hb : Below W.heap.size W V) : DS w0 V sb db b13 b14 n1 n2 s1 s2 x1 x2 q1 q2 e1 e2 :=
  ⟨h.s.below hb, h.d.below hb, h.p.below hb, h.q.below hb, h.below.trans (hb.mono h.below.size), h.ne⟩

theorem RInt.st2 {W : World} {b p : Nat} {z e : Int} {a : Option Addr} (h : RInt W p z) (hr : BlkT W b 27 #[.pointer a, .int .i64 e]) (x0 x1 : Value) : RInt ((W.setCell ⟨b, 0, none⟩ x0).setCell ⟨b, 1, none⟩ x1) p z :=
  (h.setOther hr objT_rexact (RInt.ne_box h hr rfl) x0).setOther (hr.set (i := 0) x0) objT_rexact (RInt.ne_box h hr rfl) x1

theorem ResIs.st2 {W : World} {b : Nat} {bad z f e k : Int} {d : Value} {a : Option Addr} (h : ResIs bad z f W d k) (hr : BlkT W b 27 #[.pointer a, .int .i64 e]) (x0 x1 : Value) : ResIs bad z f ((W.setCell ⟨b, 0, none⟩ x0).setCell ⟨b, 1, none⟩ x1) d k :=
  (h.setOther (i := 0) hr objT_rexact x0).setOther (i := 1) (hr.set (i := 0) x0) objT_rexact x1

theorem FSl.st2 {W : World} {b : Nat} {v : Value} {l : List Nat} {e : Int} {a : Option Addr} (h : FSl W v l) (hr : BlkT W b 27 #[.pointer a, .int .i64 e]) (x0 x1 : Value) : FSl ((W.setCell ⟨b, 0, none⟩ x0).setCell ⟨b, 1, none⟩ x1) v l := by
  obtain ⟨ao, cap, h1, h2, h3, h4, h5⟩ := h
  refine ⟨ao, cap, h1, h2, h3, h4, fun h0 => ?_⟩
  obtain ⟨c, off, rfl, hlt, hc⟩ := h5 h0
  refine ⟨c, off, rfl, by simpa using hlt, fun i hi => ?_⟩
  have hne : c ≠ b := by
    intro e1
    subst e1
    have h6 := hc i hi
    rw [hr.cell (off + i)] at h6
    rcases Nat.lt_or_ge (off + i) 2 with h7 | h7
    · rcases Nat.lt_or_ge (off + i) 1 with h8 | h8
      · rw [show off + i = 0 from by omega] at h6; simp at h6
      · rw [show off + i = 1 from by omega] at h6; simp at h6
    · rw [Array.getElem?_eq_none (by simpa using h7)] at h6; cases h6
  rw [cellOther (fun e1 => by simp only [Addr.mk.injEq] at e1; exact hne e1.1.symm), cellOther (fun e1 => by simp only [Addr.mk.injEq] at e1; exact hne e1.1.symm)]
  exact hc i hi

theorem XIs.st2 {W : World} {b : Nat} {bad z e x f : Int} {q : Nat} {a : Option Addr} (h : XIs bad z e W q x) (hr : BlkT W b 27 #[.pointer a, .int .i64 f]) (x0 x1 : Value) : XIs bad z e ((W.setCell ⟨b, 0, none⟩ x0).setCell ⟨b, 1, none⟩ x1) q x := fun h0 => ⟨(h h0).1.st2 hr _ _, (h h0).2⟩

theorem XIs.of {z e : Int} {w : World} {b : Nat} {x : Int} (bad : Int) (h : RInt w b z ∧ x = e ∧ bl z.natAbs ≤ 68719476736 ∧ -1099511627776 ≤ e ∧ e ≤ 1099511627776) : XIs bad z e w b x := fun _ => h
theorem XIs.below {bad z e : Int} {w w' : World} {b : Nat} {x : Int} (h : XIs bad z e w b x) (hb : Below w.heap.size w w') : XIs bad z e w' b x := fun h0 => ⟨(h h0).1.below hb, (h h0).2⟩

end Go.Proofs.YtloohbkceppocaaGreatDoor
