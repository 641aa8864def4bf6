/- Facts for the walk of DyadReckons. Printed by wip/gen/reck.py. -/
import Derived.Test.YtjoajbbapfgaoaaGreatDoorZRk4
import Derived.Test.YtjoajbbapfgaoaaGreatDoorZRki
namespace Go.Proofs.YtjoajbbapfgaoaaGreatDoor
open Go.RowKit

/-- The error's number of an answer. -/
def resK (bad z e : Int) : Int := if bad = 0 then (if z = 0 ∨ lngB z e = false then 0 else 2) else bad

theorem ResIs.k_eq {bad z e : Int} {w : World} {d : Value} {k : Int} (h : ResIs bad z e w d k) : k = resK bad z e := by
  unfold resK
  rcases h with ⟨h1, ⟨h2, -, h3⟩ | ⟨h2, h3, -, h4⟩⟩ | ⟨h1, -, h2⟩
  · rw [if_pos h1, if_pos h2, h3]
  · rw [if_pos h1, if_neg (by rintro (h5 | h5); exact h2 h5; rw [h5] at h3; cases h3), h4]
  · rw [if_neg h1, h2]

theorem cmp_res (va vb : Value) (na nb : Bool) (n m Na Nb : Nat) (e f : Int) (w : World) (ha : DyRaw w va na n Na e) (hb : DyRaw w vb nb m Nb f) :
    Calls Tryz.prog 46 #[va, vb] w (Gives (.tuple #[.int .i64 (if twoE na n Na e nb m Nb f = 0 then (plZ (sgZ na Na) e (-sgZ nb Nb) f).sign else 0), .int .i64 (twoE na n Na e nb m Nb f)]) w) := by
  unfold twoE
  by_cases hm : (mayB na n Na e && mayB nb m Nb f) = true
  · rw [if_pos hm, if_pos rfl]; exact cmp_ok va vb na nb n m Na Nb e f w ha hb hm
  · rw [if_neg hm, if_neg (by decide)]; exact cmp_bad va vb na nb n m Na Nb e f w ha hb (by simpa using hm)

theorem XIs.later {bad z e : Int} {w w' : World} {b : Nat} {x : Int} (h : XIs bad z e w b x) (hb : Below w.heap.size w w') : XIs bad z e w' b x := fun h0 => ⟨(h h0).1.below hb, (h h0).2⟩

/-- Of zero the exponent says nothing. -/
theorem ResIs.zero_any {bad x y : Int} {w : World} {d : Value} {k : Int} (h : ResIs bad 0 x w d k) : ResIs bad 0 y w d k := by
  rcases h with ⟨h1, ⟨-, h2, h3⟩ | ⟨h2, -⟩⟩ | h
  · refine .inl ⟨h1, .inl ⟨.inl rfl, ?_, h3⟩⟩
    rw [nrE, if_pos rfl] at h2 ⊢
    exact h2
  · exact absurd rfl h2
  · exact .inr h

/-- Shifted by too much. -/
theorem shift_far {z e k : Int} (hg : GoodD z e) (hz : z ≠ 0) (hk : 200000 < k ∨ k < -200000) : lngB z (e + shN k) = true := by
  obtain ⟨h1, -, h3, h4⟩ := hg
  rcases h1 with ⟨h1, -⟩ | h1
  · exact absurd h1 hz
  · unfold lngB
    rw [hvE_of_odd h1]
    have : 100000 < e + shN k ∨ e + shN k < -100000 := by unfold shN; omega
    rcases this with h | h
    · simp [h]
    · simp [h]

theorem ResIs.far {z e : Int} {w : World} {n : Bool} {a : Option Addr} {l c : Nat} {x k : Int} (h : ResIs 0 z e w (.agg #[.bool n, .slice a l c, .int .i64 x]) k) (hz : z ≠ 0) (hl : lngB z e = true) :
    ((n = false ∧ a = none) ∧ l = 0 ∧ c = 0) ∧ x = 0 ∧ k = 2 := by
  rcases h with ⟨-, ⟨h1, -⟩ | ⟨-, -, h2, h3⟩⟩ | ⟨h1, -⟩
  · rcases h1 with h1 | h1
    · exact absurd h1 hz
    · rw [hl] at h1; cases h1
  · unfold DyV at h2
    simp only [Value.agg.injEq, Array.mk.injEq, List.cons.injEq, Value.bool.injEq, Value.slice.injEq, Value.int.injEq, and_true, true_and] at h2
    obtain ⟨h4, ⟨h5, h6, h7⟩, h8⟩ := h2
    exact ⟨⟨⟨h4, h5⟩, h6, h7⟩, h8, h3⟩
  · exact absurd rfl h1

def SzLe (W : World) (B : Nat) : Prop := B ≤ W.heap.size
theorem SzLe.below {W V : World} {B : Nat} (h : SzLe W B) (hb : Below W.heap.size W V) : SzLe V B := Nat.le_trans h hb.size

/-- The references' two numbers in their boxes. -/
def PQ (W : World) (b c q1 q2 : Nat) (e1 e2 zp zq : Int) : Prop :=
  (BlkT W b 34 #[.pointer (some ⟨q1, 0, none⟩), .int .i64 e1] ∧ BlkT W c 34 #[.pointer (some ⟨q2, 0, none⟩), .int .i64 e2]) ∧ RInt W q1 zp ∧ RInt W q2 zq

theorem PQ.below {W V : World} {b c q1 q2 : Nat} {e1 e2 zp zq : Int} (h : PQ W b c q1 q2 e1 e2 zp zq) (hb : Below W.heap.size W V) : PQ V b c q1 q2 e1 e2 zp zq :=
  ⟨⟨h.1.1.below hb, h.1.2.below hb⟩, h.2.1.below hb, h.2.2.below hb⟩

theorem PQ.lt {W : World} {b c q1 q2 : Nat} {e1 e2 zp zq : Int} (h : PQ W b c q1 q2 e1 e2 zp zq) : (b < W.heap.size ∧ c < W.heap.size) ∧ q1 < W.heap.size ∧ q2 < W.heap.size :=
  ⟨⟨h.1.1.lt, h.1.2.lt⟩, h.2.1.1.1, h.2.2.1.1⟩

theorem PQ.st3 {W : World} {b c q1 q2 r : Nat} {e1 e2 zp zq : Int} {cs : Array Value} (h : PQ W b c q1 q2 e1 e2 zp zq) (hr : BlkT W r 24 cs) (hn : (b < r ∧ c < r) ∧ q1 < r ∧ q2 < r) (x0 x1 x2 : Value) : PQ (((W.setCell ⟨r, 0, none⟩ x0).setCell ⟨r, 1, none⟩ x1).setCell ⟨r, 2, none⟩ x2) b c q1 q2 e1 e2 zp zq :=
  ⟨⟨((h.1.1.setOther (show b ≠ r by omega) _).setOther (show b ≠ r by omega) _).setOther (show b ≠ r by omega) _, ((h.1.2.setOther (show c ≠ r by omega) _).setOther (show c ≠ r by omega) _).setOther (show c ≠ r by omega) _⟩,
   ((h.2.1.setOther (i := 0) hr objT_dyad (show q1 ≠ r by omega) _).setOther (i := 1) (hr.set (i := 0) _) objT_dyad (show q1 ≠ r by omega) _).setOther (i := 2) ((hr.set (i := 0) _).set (i := 1) _) objT_dyad (show q1 ≠ r by omega) _,
   ((h.2.2.setOther (i := 0) hr objT_dyad (show q2 ≠ r by omega) _).setOther (i := 1) (hr.set (i := 0) _) objT_dyad (show q2 ≠ r by omega) _).setOther (i := 2) ((hr.set (i := 0) _).set (i := 1) _) objT_dyad (show q2 ≠ r by omega) _⟩

theorem Box2d.st3 {w0 W : World} {na nb : Bool} {sa sb : Value} {e f : Int} {r : Nat} (h : Box2d w0 W na nb sa sb e f) (hn : w0.heap.size + 1 < r) (x0 x1 x2 : Value) : Box2d w0 (((W.setCell ⟨r, 0, none⟩ x0).setCell ⟨r, 1, none⟩ x1).setCell ⟨r, 2, none⟩ x2) na nb sa sb e f :=
  ⟨((h.1.setOther (show w0.heap.size ≠ r by omega) _).setOther (show w0.heap.size ≠ r by omega) _).setOther (show w0.heap.size ≠ r by omega) _, ((h.2.1.setOther (show w0.heap.size + 1 ≠ r by omega) _).setOther (show w0.heap.size + 1 ≠ r by omega) _).setOther (show w0.heap.size + 1 ≠ r by omega) _, ((h.2.2.setCell (by show w0.heap.size ≤ r; omega) _).setCell (by show w0.heap.size ≤ r; omega) _).setCell (by show w0.heap.size ≤ r; omega) _⟩

theorem PQ.put1 {W : World} {b c q1 q2 q : Nat} {e1 e2 zp zq e z : Int} (h : PQ W b c q1 q2 e1 e2 zp zq) (hbc : b ≠ c) (hq : RInt W q z) : PQ ((W.setCell ⟨b, 0, none⟩ (.pointer (some ⟨q, 0, none⟩))).setCell ⟨b, 1, none⟩ (.int .i64 e)) b c q q2 e e2 z zq := by
  obtain ⟨⟨h1, h2⟩, h3, h4⟩ := h
  exact ⟨⟨(h1.set (i := 0) (.pointer (some ⟨q, 0, none⟩))).set (i := 1) (.int .i64 e), (h2.setOther (Ne.symm hbc) _).setOther (Ne.symm hbc) _⟩,
    (hq.setOther (i := 0) h1 objT_rexact (RInt.ne_box hq h1 rfl) _).setOther (i := 1) (h1.set (i := 0) _) objT_rexact (RInt.ne_box hq h1 rfl) _,
    (h4.setOther (i := 0) h1 objT_rexact (RInt.ne_box h4 h1 rfl) _).setOther (i := 1) (h1.set (i := 0) _) objT_rexact (RInt.ne_box h4 h1 rfl) _⟩

theorem PQ.put2 {W : World} {b c q1 q2 q : Nat} {e1 e2 zp zq e z : Int} (h : PQ W b c q1 q2 e1 e2 zp zq) (hbc : b ≠ c) (hq : RInt W q z) : PQ ((W.setCell ⟨c, 0, none⟩ (.pointer (some ⟨q, 0, none⟩))).setCell ⟨c, 1, none⟩ (.int .i64 e)) b c q1 q e1 e zp z := by
  obtain ⟨⟨h1, h2⟩, h3, h4⟩ := h
  exact ⟨⟨(h1.setOther hbc _).setOther hbc _, (h2.set (i := 0) (.pointer (some ⟨q, 0, none⟩))).set (i := 1) (.int .i64 e)⟩,
    (h3.setOther (i := 0) h2 objT_rexact (RInt.ne_box h3 h2 rfl) _).setOther (i := 1) (h2.set (i := 0) _) objT_rexact (RInt.ne_box h3 h2 rfl) _,
    (hq.setOther (i := 0) h2 objT_rexact (RInt.ne_box hq h2 rfl) _).setOther (i := 1) (h2.set (i := 0) _) objT_rexact (RInt.ne_box hq h2 rfl) _⟩

theorem Box2d.st2 {w0 W : World} {na nb : Bool} {sa sb : Value} {e f : Int} {r : Nat} (h : Box2d w0 W na nb sa sb e f) (hn : w0.heap.size + 1 < r) (x0 x1 : Value) : Box2d w0 ((W.setCell ⟨r, 0, none⟩ x0).setCell ⟨r, 1, none⟩ x1) na nb sa sb e f :=
  ⟨(h.1.setOther (show w0.heap.size ≠ r by omega) _).setOther (show w0.heap.size ≠ r by omega) _, (h.2.1.setOther (show w0.heap.size + 1 ≠ r by omega) _).setOther (show w0.heap.size + 1 ≠ r by omega) _, (h.2.2.setCell (by show w0.heap.size ≤ r; omega) _).setCell (by show w0.heap.size ≤ r; omega) _⟩

theorem PQ.start {w : World} {q1 q2 : Nat} (h1 : RInt w q1 0) (h2 : RInt w q2 0) : PQ ((w.alloc (.cells #[.pointer (some ⟨q1, 0, none⟩), .int .i64 0] 34)).alloc (.cells #[.pointer (some ⟨q2, 0, none⟩), .int .i64 0] 34)) w.heap.size (w.heap.size + 1) q1 q2 0 0 0 0 :=
  ⟨⟨(BlkT.new w _ _).alloc _, BlkT.new1 w _ _ _⟩, h1.below (below2 _ _ _), h2.below (below2 _ _ _)⟩

/-- An answer in its box. -/
def Ans3 (W : World) (b : Nat) (k bad z e : Int) (n : Bool) (a : Option Addr) (l c : Nat) (x : Int) : Prop :=
  BlkT W b 24 #[.bool n, .slice a l c, .int .i64 x] ∧ ResIs bad z e W (.agg #[.bool n, .slice a l c, .int .i64 x]) k

theorem Ans3.below {W V : World} {b : Nat} {k bad z e : Int} {n : Bool} {a : Option Addr} {l c : Nat} {x : Int} (h : Ans3 W b k bad z e n a l c x) (hb : Below W.heap.size W V) : Ans3 V b k bad z e n a l c x :=
  ⟨h.1.below hb, h.2.below hb⟩

theorem Ans3.st3 {W : World} {b r : Nat} {k bad z e : Int} {n : Bool} {a : Option Addr} {l c : Nat} {x : Int} {cs : Array Value} (h : Ans3 W b k bad z e n a l c x) (hr : BlkT W r 24 cs) (hn : b < r) (x0 x1 x2 : Value) : Ans3 (((W.setCell ⟨r, 0, none⟩ x0).setCell ⟨r, 1, none⟩ x1).setCell ⟨r, 2, none⟩ x2) b k bad z e n a l c x :=
  ⟨((h.1.setOther (show b ≠ r by omega) _).setOther (show b ≠ r by omega) _).setOther (show b ≠ r by omega) _, ((h.2.setOther (i := 0) hr objT_dyad _).setOther (i := 1) (hr.set (i := 0) _) objT_dyad _).setOther (i := 2) ((hr.set (i := 0) _).set (i := 1) _) objT_dyad _⟩

theorem Ans3.make {W : World} {r : Nat} {k bad z e : Int} {n : Bool} {a : Option Addr} {l c : Nat} {x : Int} {v0 v1 v2 : Value} (hr : BlkT W r 24 #[v0, v1, v2]) (h : ResIs bad z e W (.agg #[.bool n, .slice a l c, .int .i64 x]) k) :
    Ans3 (((W.setCell ⟨r, 0, none⟩ (.bool n)).setCell ⟨r, 1, none⟩ (.slice a l c)).setCell ⟨r, 2, none⟩ (.int .i64 x)) r k bad z e n a l c x :=
  ⟨((hr.set (i := 0) (.bool n)).set (i := 1) (.slice a l c)).set (i := 2) (.int .i64 x), ((h.setOther (i := 0) hr objT_dyad _).setOther (i := 1) (hr.set (i := 0) _) objT_dyad _).setOther (i := 2) ((hr.set (i := 0) _).set (i := 1) _) objT_dyad _⟩

end Go.Proofs.YtjoajbbapfgaoaaGreatDoor
