/- Walks: the references' exact numbers (binnacleref03): Out. Printed by wip/gen/rx4.py. -/
import Derived.Test.YtloohbkceppocaaGreatDoorGP
import Derived.Maps.AppendAt
import Derived.Test.YtloohbkceppocaaGreatDoorGL
section
namespace Go.Proofs.YtloohbkceppocaaGreatDoor
open Go.RowKit

/-- The blocks of Out behind Odd. -/
def OutPre (w0 W : World) (p : Nat) (z e : Int) : Prop :=
  BlkT W w0.heap.size 27 #[.pointer (some ⟨p, 0, none⟩), .int .i64 e] ∧ BlkT W (w0.heap.size + 1) 98 #[.bool false, .slice none 0 0, .int .i64 0] ∧ RInt W p z ∧ Below w0.heap.size w0 W ∧ w0.heap.size + 1 < p
theorem OutPre.later {w0 W V : World} {p : Nat} {z e : Int} (h : OutPre w0 W p z e) (hb : Below W.heap.size W V) : OutPre w0 V p z e :=
  ⟨h.1.below hb, h.2.1.below hb, h.2.2.1.below hb, h.2.2.2.1.trans (hb.mono h.2.2.2.1.size), h.2.2.2.2⟩
theorem OutPre.cells {w0 W : World} {p : Nat} {z e : Int} (h : OutPre w0 W p z e) : W.cell? ⟨w0.heap.size, 0, none⟩ = some (.pointer (some ⟨p, 0, none⟩)) ∧ W.cell? ⟨w0.heap.size, 1, none⟩ = some (.int .i64 e) := ⟨h.1.cell 0, h.1.cell 1⟩

/-- A number whose words do not lie in the row that grew. -/
theorem RInt.grownOwn {w w' : World} {c : Nat} {z : Int} {row : Option Nat} (h : RInt w c z) (hg : w.grownBy w' row) (hc : some c ≠ row)
    (ha : ∀ a n k, w.cell? ⟨c, 1, none⟩ = some (.slice (some a) n k) → 0 < n → some a.block ≠ row) : RInt w' c z := by
  obtain ⟨⟨h1, ⟨u, h2, h2'⟩, h3, h4, ⟨s0, h5⟩, a, n, m, h6⟩, h7, v, h8, h9⟩ := h
  have hb := hg.block c h1 hc
  have h8' := (World.cell?_of_block (a := ⟨c, 0 + 1, none⟩) hb).trans h8
  refine ⟨⟨Nat.lt_of_lt_of_le h1 hg.size, ⟨u, h2.of_block hb, h2'⟩, (World.frozen?_of_block (a := ⟨c, 0, none⟩) hb).trans h3, (World.frozen?_of_block (a := ⟨c, 0 + 1, none⟩) hb).trans h4, ⟨s0, (World.cell?_of_block (a := ⟨c, 0, none⟩) hb).trans h5⟩, a, n, m, (World.cell?_of_block (a := ⟨c, 0 + 1, none⟩) hb).trans h6⟩,
    (World.cell?_of_block (a := ⟨c, 0, none⟩) hb).trans h7, v, h8', ?_⟩
  obtain ⟨ao, cap, rfl, hcap, hN, hn, hcc⟩ := h9
  refine ⟨ao, cap, rfl, hcap, hN, hn, fun h0 => ?_⟩
  obtain ⟨g, off, rfl, hlt, he, hcc⟩ := hcc h0
  have hb2 := hg.block g hlt (ha ⟨g, off, none⟩ _ _ h8 h0)
  exact ⟨g, off, rfl, Nat.lt_of_lt_of_le hlt hg.size, he.of_block hb2, fun i hi => (World.cell?_of_block (w := w) (a := ⟨g, off + i, none⟩) hb2).trans (hcc i hi)⟩

theorem OutPre.set3 {w0 W : World} {p db : Nat} {z e : Int} {cs : Array Value} (h : OutPre w0 W p z e) (hd : BlkT W db 98 cs) (h1 : w0.heap.size + 1 < db ∧ p < db) (x0 x1 x2 : Value) :
    OutPre w0 (((W.setCell ⟨db, 0, none⟩ x0).setCell ⟨db, 1, none⟩ x1).setCell ⟨db, 2, none⟩ x2) p z e :=
  ⟨((h.1.setOther (by omega) _).setOther (by omega) _).setOther (by omega) _, ((h.2.1.setOther (by omega) _).setOther (by omega) _).setOther (by omega) _,
    ((h.2.2.1.setOther hd objT_dyad (by omega) _).setOther (hd.set _) objT_dyad (by omega) _).setOther ((hd.set _).set _) objT_dyad (by omega) _,
    ((h.2.2.2.1.setCell (show w0.heap.size ≤ db by omega) _).setCell (show w0.heap.size ≤ db by omega) _).setCell (show w0.heap.size ≤ db by omega) _, h.2.2.2.2⟩

/-- The state of Out's loop. -/
structure OutRel (w0 wr : World) (neg : Bool) (e : Int) (N M k : Nat) (v : Value) (db mb B : Nat) : Prop where
  d : BlkT wr db 98 #[.bool neg, v, .int .i64 e]
  res : BlkT wr (w0.heap.size + 1) 98 #[.bool false, .slice none 0 0, .int .i64 0]
  m : RInt wr mb (M : Nat)
  own : wr.ownsRow B 147 1 v k (digs N k)
  below : Below w0.heap.size w0 wr
  hB : B ≤ wr.heap.size
  hd : w0.heap.size + 1 < db ∧ db < B
  hm : w0.heap.size + 1 < mb ∧ mb < B ∧ mb ≠ db
  apt : ∀ a n c, wr.cell? ⟨mb, 1, none⟩ = some (.slice (some a) n c) → 0 < n → some a.block ≠ v.ownBlock

theorem OutRel.later {w0 wr w2 : World} {neg : Bool} {e : Int} {N M k : Nat} {v : Value} {db mb B : Nat} (h : OutRel w0 wr neg e N M k v db mb B) (hb : Below wr.heap.size wr w2) : OutRel w0 w2 neg e N M k v db mb B :=
  ⟨h.d.below hb, h.res.below hb, h.m.below hb, h.own.kept (grown_of_below hb) (by cases v.ownBlock <;> simp), h.below.trans (hb.mono h.below.size), Nat.le_trans h.hB hb.size, h.hd, h.hm, fun a n c hc => h.apt a n c ((hb.cell (p := ⟨mb, 1, none⟩) h.m.1.1).symm.trans hc)⟩

theorem OutRel.push {w0 wr w2 : World} {neg : Bool} {e : Int} {N M k : Nat} {v v' : Value} {db mb B : Nat} (h : OutRel w0 wr neg e N M k v db mb B) (hg : wr.grownBy w2 v.ownBlock) (ho : w2.ownsRow B 147 1 v' (k + 1) (digs N (k + 1))) (hv : v'.ownBlock = v.ownBlock ∨ v'.ownBlock = some wr.heap.size) :
    OutRel w0 (w2.setCell ⟨db, 1, none⟩ v') neg e N M (k + 1) v' db mb B := by
  have hd := h.hd
  have hm := h.hm
  have hne : ∀ {b : Nat}, b < B → some b ≠ v.ownBlock := fun hb e => by have := (h.own.lt _ e.symm).1; omega
  have h0 := h.d.of_block (hg.block db (Nat.lt_of_lt_of_le hd.2 h.hB) (hne hd.2))
  have h1 := h.res.of_block (hg.block _ (by have := h.hB; omega) (hne (by omega)))
  have h2 := RInt.grownOwn h.m hg (hne hm.2.1) h.apt
  refine ⟨h0.set _, h1.setOther (by omega) _, h2.setOther h0 objT_dyad hm.2.2 _, ho.kept (grown_of_set _ _ _ _) (owns_ne ho hd.2), ?_, ?_, hd, hm, ?_⟩
  · exact (h.below.grown hg h.below.size (fun k hk => by have := (h.own.lt k hk).1; omega)).setCell (show w0.heap.size ≤ db by omega) _
  · have := h.hB; have := hg.size; simp; omega
  · intro a n c hcell h0
    rw [cellOther (fun e => by simp only [Addr.mk.injEq] at e; exact hm.2.2 e.1.symm)] at hcell
    rw [World.cell?_of_block (w := wr) (a := ⟨mb, 1, none⟩) (hg.block mb h.m.1.1 (hne hm.2.1))] at hcell
    have h3 := h.apt a n c hcell h0
    rcases hv with hv | hv
    · rw [hv]; exact h3
    · rw [hv]
      obtain ⟨-, -, u, h8, ao, cap, rfl, -, -, -, hcc⟩ := h.m
      rw [show (⟨mb, 0 + 1, none⟩ : Addr) = ⟨mb, 1, none⟩ from rfl, hcell] at h8
      simp only [Option.some.injEq, Value.slice.injEq] at h8
      obtain ⟨g, off, e, hlt, -⟩ := hcc (by omega)
      rw [← h8.1, Option.some.injEq] at e
      subst e
      simp; omega

theorem OutRel.rsh {w0 wr w2 : World} {neg : Bool} {e : Int} {N M M' k : Nat} {v : Value} {db mb B : Nat} (h : OutRel w0 wr neg e N M k v db mb B) (hi : RInt w2 mb (M' : Nat)) (hm2 : Mod mb 0 wr w2) (hf : ∀ a n c, w2.cell? ⟨mb, 0 + 1, none⟩ = some (.slice (some a) n c) → wr.heap.size ≤ a.block) : OutRel w0 w2 neg e N M' k v db mb B := by
  have hd := h.hd
  have hm := h.hm
  exact ⟨h.d.mod hm2 hm.2.2.symm, h.res.mod hm2 (by omega), hi, h.own.kept (grown_of_mod hm2) (owns_ne h.own hm.2.1), hm2.below h.below (by omega) h.below.size, Nat.le_trans h.hB hm2.size, hd, hm, fun a n c hc _ e => by
    have h1 := hf a n c hc
    have h2 := (h.own.lt _ e.symm).2
    omega⟩

theorem OutRel.fin {w0 wr : World} {e : Int} {z : Int} {Mn : Nat} {v : Value} {db mb B : Nat} (h : OutRel w0 wr (decide (z < 0)) e z.natAbs Mn (ln 32 z.natAbs) v db mb B) (hn : ln 32 z.natAbs ≤ 1099511627776) (hB : w0.heap.size ≤ B) :
    DyNew z e w0 (.returned (.tuple #[DyV (decide (z < 0)) v e, .int .i64 0])) (((wr.setCell ⟨w0.heap.size + 1, 0, none⟩ (.bool (decide (z < 0)))).setCell ⟨w0.heap.size + 1, 1, none⟩ v).setCell ⟨w0.heap.size + 1, 2, none⟩ (.int .i64 e)) := by
  have hne : w0.heap.size + 1 < B := by have := h.hd; omega
  have k1 := h.own.kept (grown_of_set _ (w0.heap.size + 1) 0 (.bool (decide (z < 0)))) (owns_ne h.own hne)
  have k2 := k1.kept (grown_of_set _ (w0.heap.size + 1) 1 v) (owns_ne k1 hne)
  have k3 := k2.kept (grown_of_set _ (w0.heap.size + 1) 2 (.int .i64 e)) (owns_ne k2 hne)
  refine ⟨v, rfl, Raw.of_owns k3 rfl (fun i hi => digs_get hi) (lt_ln (by decide)) hn, ?_, ((h.below.setCell (by simp) _).setCell (by simp) _).setCell (by simp) _⟩
  obtain ⟨ao, n, cap, e1, e2⟩ := OwnS.of_owns k3
  exact ⟨ao, n, cap, e1, fun a ha => by obtain ⟨b, cs, e3, e4, e5⟩ := e2 a ha; exact ⟨b, cs, e3, by omega, e5⟩⟩

end Go.Proofs.YtloohbkceppocaaGreatDoor
end

/- Walks: what a dyad's function answers; whether it is the references' (binnaclelaw03.is). -/
section
namespace Go.Proofs.YtloohbkceppocaaGreatDoor
open Go.RowKit

/-- The answer for z * 2^e: the dyad in its one way, or that it is too long. -/
def DyIs (z e : Int) (w : World) (d : Value) (k : Int) : Prop :=
  ((z = 0 ∨ lngB z e = false) ∧ DyAt w d (hvZ z) (nrE z e) ∧ k = 0) ∨ (z ≠ 0 ∧ lngB z e = true ∧ d = DyV false (.slice none 0 0) 0 ∧ k = 2)

theorem DyIs.below {z e : Int} {w w' : World} {d : Value} {k : Int} (h : DyIs z e w d k) (hb : Below w.heap.size w w') : DyIs z e w' d k := by
  rcases h with ⟨h1, h2, h3⟩ | h
  · exact .inl ⟨h1, h2.below hb, h3⟩
  · exact .inr h

theorem DyIs.shape {z e : Int} {w : World} {d : Value} {k : Int} (h : DyIs z e w d k) : ∃ n ao l c x, d = .agg #[.bool n, .slice ao l c, .int .i64 x] := by
  rcases h with ⟨-, ⟨sl, rfl, ao, cap, rfl, -⟩, -⟩ | ⟨-, -, rfl, -⟩
  · exact ⟨_, _, _, _, _, rfl⟩
  · exact ⟨_, _, _, _, _, rfl⟩

/-- The call answers so. -/
def DyOf (z e : Int) (w : World) (en : Ending) (w' : World) : Prop := ∃ d k, en = .returned (.tuple #[d, .int .i64 k]) ∧ DyIs z e w' d k ∧ Below w.heap.size w w'

theorem DyOf.of_new {z e : Int} {w w' : World} {en : Ending} (hg : z = 0 ∨ lngB z e = false) (h : DyNew (hvZ z) (nrE z e) w en w') : DyOf z e w en w' := by
  obtain ⟨sl, h1, h2, -, h4⟩ := h
  exact ⟨_, _, h1, .inl ⟨hg, ⟨sl, rfl, h2⟩, rfl⟩, h4⟩

theorem DyOf.of_err {z e : Int} {w w' : World} {en : Ending} (h0 : z ≠ 0) (hg : lngB z e = true) (h : DyErr 2 w en w') : DyOf z e w en w' :=
  ⟨_, _, h.1, .inr ⟨h0, hg, rfl, rfl⟩, h.2⟩

theorem good_of_lng {z e : Int} (h : z = 0 ∨ lngB z e = false) : GoodD (hvZ z) (nrE z e) := by
  refine ⟨nrm_hv z e, ?_⟩
  by_cases h0 : z = 0
  · subst h0; rw [hvZ_zero, nrE, if_pos rfl]; exact ⟨by decide, by decide, by decide⟩
  · rcases h with h | h
    · exact absurd h h0
    · unfold lngB at h
      simp only [Bool.or_eq_false_iff, decide_eq_false_iff_not] at h
      rw [nrE, if_neg h0]
      omega

theorem put_all (b : Nat) (z e : Int) (w : World) (hx : IntAt w b 0 z) (hl : bl z.natAbs ≤ 68719476736) (h1 : -4611686018427387904 ≤ e) (h2 : e ≤ 1099511627776) (hT : Tab64 w) (hTs : 1 < w.heap.size) :
    Calls Tryz.prog 131 #[ExV b e] w (DyOf z e w) := by
  by_cases hg : z = 0 ∨ lngB z e = false
  · exact (put_any b z e w hx hl h1 h2 hT hTs hg).mono fun _ _ h => .of_new hg h
  · have h0 : z ≠ 0 := fun h => hg (.inl h)
    have hlng : lngB z e = true := by
      cases hb : lngB z e
      · exact absurd (.inr hb) hg
      · rfl
    exact (put_errAll b z e w hx hl h1 h2 hT hTs h0 hlng).mono fun _ _ h => .of_err h0 hlng h

/-- The blocks of 'is'. -/
def IsBox (w0 W : World) (n m : Bool) (s t : Value) (x y : Int) (b : Nat) (e : Int) : Prop :=
  BlkT W w0.heap.size 98 #[.bool n, s, .int .i64 x] ∧ BlkT W (w0.heap.size + 1) 27 #[.pointer (some ⟨b, 0, none⟩), .int .i64 e] ∧ BlkT W (w0.heap.size + 1 + 1) 98 #[.bool m, t, .int .i64 y] ∧ Below w0.heap.size w0 W

theorem IsBox.later {w0 W V : World} {n m : Bool} {s t : Value} {x y : Int} {b : Nat} {e : Int} (h : IsBox w0 W n m s t x y b e) (hb : Below W.heap.size W V) : IsBox w0 V n m s t x y b e :=
  ⟨h.1.below hb, h.2.1.below hb, h.2.2.1.below hb, h.2.2.2.trans (hb.mono h.2.2.2.size)⟩

theorem IsBox.set3 {w0 W : World} {n m m2 : Bool} {s t t2 : Value} {x y y2 : Int} {b : Nat} {e : Int} (h : IsBox w0 W n m s t x y b e) :
    IsBox w0 (((W.setCell ⟨w0.heap.size + 1 + 1, 0, none⟩ (.bool m2)).setCell ⟨w0.heap.size + 1 + 1, 1, none⟩ t2).setCell ⟨w0.heap.size + 1 + 1, 2, none⟩ (.int .i64 y2)) n m2 s t2 x y2 b e :=
  ⟨((h.1.setOther (by omega) _).setOther (by omega) _).setOther (by omega) _, ((h.2.1.setOther (by omega) _).setOther (by omega) _).setOther (by omega) _,
    ((h.2.2.1.set (i := 0) (.bool m2)).set (i := 1) t2).set (i := 2) (.int .i64 y2), ((h.2.2.2.setCell (by show w0.heap.size ≤ w0.heap.size + 1 + 1; omega) _).setCell (by show w0.heap.size ≤ w0.heap.size + 1 + 1; omega) _).setCell (by show w0.heap.size ≤ w0.heap.size + 1 + 1; omega) _⟩

theorem DyAt.set3 {W : World} {v : Value} {z e : Int} {r : Nat} {cs : Array Value} (h : DyAt W v z e) (hr : BlkT W r 98 cs) (x0 x1 x2 : Value) :
    DyAt (((W.setCell ⟨r, 0, none⟩ x0).setCell ⟨r, 1, none⟩ x1).setCell ⟨r, 2, none⟩ x2) v z e := by
  obtain ⟨sl, rfl, hraw⟩ := h
  exact ⟨sl, rfl, ((hraw.setOther hr objT_dyad _).setOther (hr.set _) objT_dyad _).setOther ((hr.set _).set _) objT_dyad _⟩

theorem DyIs.set3 {W : World} {v : Value} {z e : Int} {k : Int} {r : Nat} {cs : Array Value} (h : DyIs z e W v k) (hr : BlkT W r 98 cs) (x0 x1 x2 : Value) :
    DyIs z e (((W.setCell ⟨r, 0, none⟩ x0).setCell ⟨r, 1, none⟩ x1).setCell ⟨r, 2, none⟩ x2) v k := by
  rcases h with ⟨h1, h2, h3⟩ | h
  · exact .inl ⟨h1, h2.set3 hr _ _ _, h3⟩
  · exact .inr h

end Go.Proofs.YtloohbkceppocaaGreatDoor
end
