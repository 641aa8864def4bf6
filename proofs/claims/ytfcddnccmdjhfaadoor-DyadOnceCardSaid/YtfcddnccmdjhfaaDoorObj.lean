/- Whole numbers in memory: a pointer to a sign and a slice of words; what a call that writes one of them leaves as it was. -/
import Derived.Test.YtfcddnccmdjhfaaDoorBig4
namespace Go.Proofs.YtfcddnccmdjhfaaDoor
open Go.RowKit

/-- A type of which no row of words is made. -/
def ObjT (t : Nat) : Prop := ∀ k, t ≠ ety k

/-- At block b, from cell o on, lies a struct of a sign and words, which may be written. -/
def Spot (w : World) (b o : Nat) : Prop :=
  b < w.heap.size ∧ (∃ t, Elem w b t ∧ ObjT t) ∧ w.frozen? ⟨b, o, none⟩ = false ∧ w.frozen? ⟨b, o + 1, none⟩ = false ∧
    (∃ s, w.cell? ⟨b, o, none⟩ = some (.bool s)) ∧ ∃ a n c, w.cell? ⟨b, o + 1, none⟩ = some (.slice a n c)

/-- The sign and the amount of z lie there: words of kind k, to the base 2^s. -/
def IntK (k : IntKind) (s : Nat) (w : World) (b o : Nat) (z : Int) : Prop :=
  Spot w b o ∧ w.cell? ⟨b, o, none⟩ = some (.bool (decide (z < 0))) ∧ ∃ v, w.cell? ⟨b, o + 1, none⟩ = some v ∧ Raw k s w v (ln s z.natAbs) z.natAbs

/-- One of the program's whole numbers. -/
abbrev IntAt (w : World) (b o : Nat) (z : Int) : Prop := IntK .u64 64 w b o z

/-- Only the two cells at o of block b may have changed; there may be new blocks. -/
structure Mod (b o : Nat) (w w' : World) : Prop where
  os : w'.os = w.os
  tape : w'.tape = w.tape
  output : w'.output = w.output
  size : w.heap.size ≤ w'.heap.size
  block : ∀ k, k < w.heap.size → k ≠ b → w'.heap[k]? = w.heap[k]?
  cell : ∀ i, i ≠ o → i ≠ o + 1 → w'.cell? ⟨b, i, none⟩ = w.cell? ⟨b, i, none⟩
  frozen : ∀ i, b < w.heap.size → w'.frozen? ⟨b, i, none⟩ = w.frozen? ⟨b, i, none⟩
  elem : ∀ t, Elem w b t → Elem w' b t

theorem Mod.of_below {b o : Nat} {w w' : World} (h : Below w.heap.size w w') (hb : b < w.heap.size) : Mod b o w w' :=
  ⟨h.os, h.tape, h.output, h.size, fun k hk _ => h.block k hk, fun i _ _ => h.cell (p := ⟨b, i, none⟩) hb, fun i _ => h.frozen (p := ⟨b, i, none⟩) hb, fun _ he => he.of_block (h.block b hb)⟩

theorem Mod.trans {b o : Nat} {u v w : World} (hb : b < u.heap.size) (h : Mod b o u v) (k : Mod b o v w) : Mod b o u w :=
  ⟨k.os.trans h.os, k.tape.trans h.tape, k.output.trans h.output, Nat.le_trans h.size k.size,
    fun i hi hn => (k.block i (Nat.lt_of_lt_of_le hi h.size) hn).trans (h.block i hi hn), fun i h1 h2 => (k.cell i h1 h2).trans (h.cell i h1 h2),
    fun i _ => (k.frozen i (Nat.lt_of_lt_of_le hb h.size)).trans (h.frozen i hb), fun t he => k.elem t (h.elem t he)⟩

theorem Mod.drew {b o : Nat} {w w' : World} (h : Mod b o w w') : Mod b o w w'.drew := ⟨h.os, h.tape, h.output, h.size, h.block, h.cell, h.frozen, h.elem⟩

theorem Mod.drewN {b o : Nat} {w w' : World} (h : Mod b o w w') (n : Nat) : Mod b o w (w'.drewN n) := ⟨h.os, h.tape, h.output, h.size, h.block, h.cell, h.frozen, h.elem⟩

/-- A change of an own block is no change of what was there. -/
theorem Mod.below {b o B : Nat} {u w w' : World} (hu : Below B u w) (h : Mod b o w w') (hB : B ≤ b) (hs : B ≤ w.heap.size) : Below B u w' :=
  hu.trans ⟨h.os, h.tape, h.output, h.size, fun k hk => h.block k (by omega) (by omega)⟩

theorem Elem.mod {b o c t : Nat} {w w' : World} (h : Mod b o w w') (hc : c < w.heap.size) (he : Elem w c t) : Elem w' c t := by
  by_cases e : c = b
  · subst e; exact h.elem t he
  · exact he.of_block (h.block c hc e)

theorem Elem.unique {w : World} {b t u : Nat} (h : Elem w b t) (k : Elem w b u) : t = u := by
  obtain ⟨c, fr, h⟩ := h
  obtain ⟨c', fr', k⟩ := k
  rw [h] at k; simp only [Option.some.injEq, _root_.Go.Obj.cells.injEq] at k; exact k.2.1

theorem Raw.mod {k : IntKind} {s : Nat} {w w' : World} {v : Value} {n N b o : Nat} (hr : Raw k s w v n N) (h : Mod b o w w') (ho : ∃ t, Elem w b t ∧ ObjT t) : Raw k s w' v n N := by
  obtain ⟨ao, cap, hv, hcap, hN, hn, hc⟩ := hr
  refine ⟨ao, cap, hv, hcap, hN, hn, fun h0 => ?_⟩
  obtain ⟨c, off, e, hlt, he, hc⟩ := hc h0
  obtain ⟨t, ht, hT⟩ := ho
  have hne : c ≠ b := fun e => by subst e; exact hT k (ht.unique he)
  have hb := h.block c hlt hne
  exact ⟨c, off, e, Nat.lt_of_lt_of_le hlt h.size, he.of_block hb, fun i hi => (World.cell?_of_block (w := w) (a := ⟨c, off + i, none⟩) hb).trans (hc i hi)⟩

/-- Two places for such structs that do not meet. -/
def Apart (b o c p : Nat) : Prop := b ≠ c ∨ o + 1 < p ∨ p + 1 < o

theorem Mod.cellOf {b o c p : Nat} {w w' : World} (h : Mod b o w w') (hc : c < w.heap.size) (hp : c ≠ b ∨ (p ≠ o ∧ p ≠ o + 1)) : w'.cell? ⟨c, p, none⟩ = w.cell? ⟨c, p, none⟩ := by
  by_cases e : c = b
  · subst e
    rcases hp with hp | hp
    · exact absurd rfl hp
    · exact h.cell p hp.1 hp.2
  · exact World.cell?_of_block (w := w) (a := ⟨c, p, none⟩) (h.block c hc e)

theorem Mod.frozenOf {b o c p : Nat} {w w' : World} (h : Mod b o w w') (hc : c < w.heap.size) : w'.frozen? ⟨c, p, none⟩ = w.frozen? ⟨c, p, none⟩ := by
  by_cases e : c = b
  · subst e; exact h.frozen p hc
  · exact World.frozen?_of_block (w := w) (a := ⟨c, p, none⟩) (h.block c hc e)

theorem Spot.mod {b o c p : Nat} {w w' : World} (hz : Spot w c p) (h : Mod b o w w') (ha : Apart c p b o) : Spot w' c p := by
  obtain ⟨h1, ⟨t, h2, h2'⟩, h3, h4, ⟨s, h5⟩, a, n, m, h6⟩ := hz
  unfold Apart at ha
  refine ⟨Nat.lt_of_lt_of_le h1 h.size, ⟨t, h2.mod h h1, h2'⟩, (h.frozenOf h1).trans h3, (h.frozenOf h1).trans h4, ⟨s, ?_⟩, a, n, m, ?_⟩
  · exact (h.cellOf h1 (by omega)).trans h5
  · exact (h.cellOf h1 (by omega)).trans h6

theorem IntK.mod {k : IntKind} {s b o c p : Nat} {z : Int} {w w' : World} (hz : IntK k s w c p z) (h : Mod b o w w') (ha : Apart c p b o) (ho : ∃ t, Elem w b t ∧ ObjT t) : IntK k s w' c p z := by
  obtain ⟨h1, h2, v, h3, h4⟩ := hz
  have hlt := h1.1
  refine ⟨h1.mod h ha, ?_, v, ?_, h4.mod h ho⟩
  · unfold Apart at ha; exact (h.cellOf hlt (by omega)).trans h2
  · unfold Apart at ha; exact (h.cellOf hlt (by omega)).trans h3

theorem Spot.below {c p : Nat} {w w' : World} (hz : Spot w c p) (h : Below w.heap.size w w') : Spot w' c p := by
  obtain ⟨h1, ⟨t, h2, h2'⟩, h3, h4, ⟨s, h5⟩, a, n, m, h6⟩ := hz
  refine ⟨Nat.lt_of_lt_of_le h1 h.size, ⟨t, h2.of_block (h.block c h1), h2'⟩, (h.frozen (p := ⟨c, p, none⟩) h1).trans h3, (h.frozen (p := ⟨c, p + 1, none⟩) h1).trans h4, ⟨s, ?_⟩, a, n, m, ?_⟩
  · exact (h.cell (p := ⟨c, p, none⟩) h1).trans h5
  · exact (h.cell (p := ⟨c, p + 1, none⟩) h1).trans h6

theorem IntK.below {k : IntKind} {s c p : Nat} {z : Int} {w w' : World} (hz : IntK k s w c p z) (h : Below w.heap.size w w') : IntK k s w' c p z := by
  obtain ⟨h1, h2, v, h3, h4⟩ := hz
  exact ⟨h1.below h, (h.cell (p := ⟨c, p, none⟩) h1.1).trans h2, v, (h.cell (p := ⟨c, p + 1, none⟩) h1.1).trans h3, h4.below h⟩

theorem Below.alloc_self (w : World) (o : _root_.Go.Obj) : Below w.heap.size w (w.alloc o) := (Below.refl _ _).alloc (Nat.le_refl _) _

theorem objT_int : ObjT 60 := by
  intro k; cases k <;> decide

theorem cellSame {w : World} {a : Addr} {v u : Value} (h : w.cell? a = some u) : (w.setCell a v).cell? a = some v := by
  first | exact World.cell?_setCell_same _ _ _ h | exact World.cell?_setCell_same _ _ _ _ h
theorem cellOther {w : World} {a b : Addr} {v : Value} (h : a ≠ b) : (w.setCell a v).cell? b = w.cell? b := by
  first | exact World.cell?_setCell_other _ _ _ _ h | exact World.cell?_setCell_other _ _ _ h
theorem addrNe {b o i : Nat} (h : i ≠ o) : (⟨b, i, none⟩ : Addr) ≠ ⟨b, o, none⟩ := fun e => by simp only [Addr.mk.injEq] at e; exact h e.2.1

/-- A store into one of the struct's two cells. -/
theorem Mod.set {b o i : Nat} (w : World) (hi : i = o ∨ i = o + 1) (v : Value) : Mod b o w (w.setCell ⟨b, i, none⟩ v) := by
  refine ⟨rfl, rfl, rfl, by simp, fun k _ hn => Below.heap_setCell _ _ _ _ (by simpa using hn), fun j h1 h2 => cellOther (addrNe (by omega)), fun j _ => by simp, fun t he => ?_⟩
  obtain ⟨c, fr, h⟩ := he
  refine ⟨if (⟨b, i, none⟩ : Addr).spot.isSome then c else c.setIfInBounds i v, fr, ?_⟩
  show (w.heap.modify b _)[b]? = _
  rw [Array.getElem?_modify, if_pos rfl, h]; rfl

/-- What the two stores of a sign and words leave. -/
theorem IntK.stored {k : IntKind} {s b o N : Nat} {neg : Bool} {v : Value} {w : World} (hz : Spot w b o) (hv : Raw k s w v (ln s N) N) :
    IntK k s ((w.setCell ⟨b, o, none⟩ (.bool (neg && decide (0 < N)))).setCell ⟨b, o + 1, none⟩ v) b o (if neg then -(N : Int) else N) ∧
      Mod b o w ((w.setCell ⟨b, o, none⟩ (.bool (neg && decide (0 < N)))).setCell ⟨b, o + 1, none⟩ v) := by
  have h1 := Mod.set (b := b) (o := o) w (.inl rfl) (.bool (neg && decide (0 < N)))
  have h2 := Mod.set (b := b) (o := o) (w.setCell ⟨b, o, none⟩ (.bool (neg && decide (0 < N)))) (.inr rfl) v
  have hm := h1.trans hz.1 h2
  have hv' := hv.mod hm hz.2.1
  obtain ⟨g1, ⟨t, g2, g2'⟩, g3, g4, ⟨s0, g5⟩, a, n, m, g6⟩ := hz
  have e0 : ((w.setCell ⟨b, o, none⟩ (.bool (neg && decide (0 < N)))).setCell ⟨b, o + 1, none⟩ v).cell? ⟨b, o, none⟩ = some (.bool (neg && decide (0 < N))) :=
    (cellOther (addrNe (by omega))).trans (cellSame g5)
  have e1 : ((w.setCell ⟨b, o, none⟩ (.bool (neg && decide (0 < N)))).setCell ⟨b, o + 1, none⟩ v).cell? ⟨b, o + 1, none⟩ = some v :=
    cellSame ((cellOther (addrNe (by omega))).trans g6)
  have ez : (if neg then -(N : Int) else N).natAbs = N := by cases neg <;> simp
  have es : (neg && decide (0 < N)) = decide ((if neg then -(N : Int) else N) < 0) := by
    cases neg
    · simp
    · simp
  refine ⟨⟨⟨Nat.lt_of_lt_of_le g1 hm.size, ⟨t, hm.elem t g2, g2'⟩, (hm.frozen _ g1).trans g3, (hm.frozen _ g1).trans g4, ⟨_, e0⟩, ?_⟩, e0.trans (by rw [es]), v, e1, by rw [ez]; exact hv'⟩, hm⟩
  obtain ⟨ao, cap, e, -⟩ := hv
  exact ⟨ao, _, cap, by rw [e1, e]⟩

end Go.Proofs.YtfcddnccmdjhfaaDoor
