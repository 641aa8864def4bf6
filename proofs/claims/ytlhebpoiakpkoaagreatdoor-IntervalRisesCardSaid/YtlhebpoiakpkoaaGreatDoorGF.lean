/- Walks: the references' words (binnacleref00): cut, words, put, compare, plus, minus. -/
import Derived.Test.YtlhebpoiakpkoaaGreatDoorGE
import Derived.Test.YtlhebpoiakpkoaaGreatDoorGC
section
namespace Go.Proofs.YtlhebpoiakpkoaaGreatDoor
open Go.RowKit

theorem Raw.cut {w : World} {ao : Option Addr} {n cap N : Nat} (h : Raw .u32 32 w (.slice ao n cap) n N) : Raw .u32 32 w (.slice ao (ln 32 N) cap) (ln 32 N) N := by
  obtain ⟨ao2, cap2, he, hcap, hN, hn, hc⟩ := h
  obtain ⟨rfl, -, rfl⟩ : ao = ao2 ∧ n = n ∧ cap = cap2 := by simpa using he
  have hl : ln 32 N ≤ n := (ln_le_iff (by decide)).2 hN
  refine ⟨_, _, rfl, by omega, lt_ln (by decide), by omega, fun h0 => ?_⟩
  obtain ⟨b, off, e, hb, he, hc⟩ := hc (by omega)
  exact ⟨b, off, e, hb, he, fun i hi => hc i (by omega)⟩

/-- A slice value that is nil or lies from block B on. -/
def FrS (B : Nat) (v : Value) : Prop := ∀ a n c, v = .slice (some a) n c → B ≤ a.block

end Go.Proofs.YtlhebpoiakpkoaaGreatDoor
end

/- Walks: sums and differences of the references' words (binnacleref00). Printed by wip/gen/rf.py. -/
section
namespace Go.Proofs.YtlhebpoiakpkoaaGreatDoor
open Go.RowKit

theorem dg32_lt (N i : Nat) : dg 32 N i < 4294967296 := dg_lt 32 N i
theorem two32 : (2 : Nat) ^ 32 = 4294967296 := by decide

/-- After k digits of a sum of words: what the row holds, and the carry. -/
def PlusRel (X Y m b0 k C : Nat) (wr : World) : Prop :=
  C ≤ 1 ∧ X % 2 ^ (32 * k) + Y % 2 ^ (32 * k) = (X + Y) % 2 ^ (32 * k) + C * 2 ^ (32 * k) ∧
    wr.rowIs b0 (ety .u32) m (fun j => .int .u32 ((if j < k then dg 32 (X + Y) j else 0 : Nat)))

theorem PlusRel.step {X Y m b0 k C : Nat} {wr : World} (h : PlusRel X Y m b0 k C wr) :
    PlusRel X Y m b0 (k + 1) ((dg 32 X k + dg 32 Y k + C) / 4294967296) (wr.setCell ⟨b0, k, none⟩ (.int .u32 (((dg 32 X k + dg 32 Y k + C) % 4294967296 : Nat)))) := by
  obtain ⟨h1, h2, h3⟩ := h
  have h4 := add_step h2
  rw [two32] at h4
  have hx := dg32_lt X k
  have hy := dg32_lt Y k
  refine ⟨by omega, h4.2, ?_⟩
  refine (h3.set k _).congr fun i hi => ?_
  rw [h4.1]
  by_cases e : i = k
  · subst e; simp
  · rw [if_neg e]
    by_cases e2 : i < k
    · rw [if_pos e2, if_pos (by omega)]
    · rw [if_neg e2, if_neg (by omega)]

theorem PlusRel.last {X Y m b0 C : Nat} {wr : World} (hX : X < 2 ^ (32 * m)) (hY : Y < 2 ^ (32 * m)) (hm : m + 1 ≤ 1099511627776) (h : PlusRel X Y (m + 1) b0 m C wr) :
    Raw .u32 32 (wr.setCell ⟨b0, m, none⟩ (.int .u32 C)) (.slice (some ⟨b0, 0, none⟩) (m + 1) (m + 1)) (m + 1) (X + Y) := by
  obtain ⟨h1, h2, h3⟩ := h
  have h4 := add_last hX hY h2 (by omega)
  refine Raw.of_row (h3.set m _) (fun i hi => ?_) ?_ hm
  · by_cases e : i = m
    · subst e; simp [h4]
    · rw [if_neg e, if_pos (by omega)]
  · rw [Nat.mul_succ, Nat.pow_add]; omega

/-- After k digits of a difference of words. -/
def MinusRel (X Y m b0 k C : Nat) (wr : World) : Prop :=
  C ≤ 1 ∧ X % 2 ^ (32 * k) + C * 2 ^ (32 * k) = (X - Y) % 2 ^ (32 * k) + Y % 2 ^ (32 * k) ∧
    wr.rowIs b0 (ety .u32) m (fun j => .int .u32 ((if j < k then dg 32 (X - Y) j else 0 : Nat)))

theorem MinusRel.step {X Y m b0 k C : Nat} {wr : World} (hXY : Y ≤ X) (h : MinusRel X Y m b0 k C wr) :
    (dg 32 X k < C + dg 32 Y k → MinusRel X Y m b0 (k + 1) 1 (wr.setCell ⟨b0, k, none⟩ (.int .u32 ((dg 32 X k + 4294967296 - (C + dg 32 Y k) : Nat))))) ∧
    (¬ dg 32 X k < C + dg 32 Y k → MinusRel X Y m b0 (k + 1) 0 (wr.setCell ⟨b0, k, none⟩ (.int .u32 ((dg 32 X k - (C + dg 32 Y k) : Nat))))) := by
  obtain ⟨h1, h2, h3⟩ := h
  obtain ⟨b', h4, h5⟩ := sub_step hXY h2
  rw [two32] at h4
  have hx := dg32_lt X k
  have hy := dg32_lt Y k
  have hz := dg32_lt (X - Y) k
  have key : ∀ (b : Nat) (d : Nat), b = b' → d = dg 32 (X - Y) k → b ≤ 1 → MinusRel X Y m b0 (k + 1) b (wr.setCell ⟨b0, k, none⟩ (.int .u32 (d : Nat))) := by
    rintro b d rfl rfl hb
    refine ⟨hb, h5, ?_⟩
    refine (h3.set k _).congr fun i hi => ?_
    by_cases e : i = k
    · subst e; simp
    · rw [if_neg e]
      by_cases e2 : i < k
      · rw [if_pos e2, if_pos (by omega)]
      · rw [if_neg e2, if_neg (by omega)]
  exact ⟨fun h => key _ _ (by omega) (by omega) (by omega), fun h => key _ _ (by omega) (by omega) (by omega)⟩

end Go.Proofs.YtlhebpoiakpkoaaGreatDoor
end

/- Walks: the references' words (binnacleref00): compare, put, words. -/
section
namespace Go.Proofs.YtlhebpoiakpkoaaGreatDoor
open Go.RowKit

theorem IntK.stored' {k : IntKind} {s b o N : Nat} {neg : Bool} {v : Value} {w : World} (hz : Spot w b o) (hv : Raw k s w v (ln s N) N) :
    IntK k s ((w.setCell ⟨b, o + 1, none⟩ v).setCell ⟨b, o, none⟩ (.bool (neg && decide (0 < N)))) b o (if neg then -(N : Int) else N) ∧
      Mod b o w ((w.setCell ⟨b, o + 1, none⟩ v).setCell ⟨b, o, none⟩ (.bool (neg && decide (0 < N)))) := by
  have h1 := Mod.set (b := b) (o := o) w (.inr rfl) v
  have h2 := Mod.set (b := b) (o := o) (w.setCell ⟨b, o + 1, none⟩ v) (.inl rfl) (.bool (neg && decide (0 < N)))
  have hm := h1.trans hz.1 h2
  have hv' := hv.mod hm hz.2.1
  obtain ⟨g1, ⟨t, g2, g2'⟩, g3, g4, ⟨s0, g5⟩, a, n, m, g6⟩ := hz
  have e1 : ((w.setCell ⟨b, o + 1, none⟩ v).setCell ⟨b, o, none⟩ (.bool (neg && decide (0 < N)))).cell? ⟨b, o + 1, none⟩ = some v :=
    (cellOther (addrNe (by omega))).trans (cellSame g6)
  have e0 : ((w.setCell ⟨b, o + 1, none⟩ v).setCell ⟨b, o, none⟩ (.bool (neg && decide (0 < N)))).cell? ⟨b, o, none⟩ = some (.bool (neg && decide (0 < N))) :=
    cellSame ((cellOther (addrNe (by omega))).trans g5)
  have ez : (if neg then -(N : Int) else N).natAbs = N := by cases neg <;> simp
  have es : (neg && decide (0 < N)) = decide ((if neg then -(N : Int) else N) < 0) := by
    cases neg
    · simp
    · simp
  refine ⟨⟨⟨Nat.lt_of_lt_of_le g1 hm.size, ⟨t, hm.elem t g2, g2'⟩, (hm.frozen _ g1).trans g3, (hm.frozen _ g1).trans g4, ⟨_, e0⟩, ?_⟩, e0.trans (by rw [es]), v, e1, by rw [ez]; exact hv'⟩, hm⟩
  obtain ⟨ao, cap, e, -⟩ := hv
  exact ⟨ao, _, cap, by rw [e1, e]⟩

theorem Puts.of' {k : IntKind} {s b o N : Nat} {neg : Bool} {v : Value} {w : World} (h : Spot w b o ∧ Raw k s w v (ln s N) N) :
    Puts k s b o (if neg then -(N : Int) else N) w (.returned (.pointer (some ⟨b, o, none⟩))) ((w.setCell ⟨b, o + 1, none⟩ v).setCell ⟨b, o, none⟩ (.bool (neg && decide (0 < N)))) :=
  ⟨rfl, (IntK.stored' h.1 h.2).1, (IntK.stored' h.1 h.2).2⟩

/-- As Puts; the words are the slice's that came. -/
def PutsB (b o : Nat) (z : Int) (v : Value) (w : World) (e : Ending) (w' : World) : Prop := Puts .u32 32 b o z w e w' ∧ ∃ ao n n' c, v = .slice ao n c ∧ w'.cell? ⟨b, o + 1, none⟩ = some (.slice ao n' c)

theorem PutsB.of {b o N n cap : Nat} {ao : Option Addr} {neg : Bool} {w : World} (h : Spot w b o ∧ Raw .u32 32 w (.slice ao n cap) n N) :
    PutsB b o (if neg then -(N : Int) else N) (.slice ao n cap) w (.returned (.pointer (some ⟨b, o, none⟩))) ((w.setCell ⟨b, o + 1, none⟩ (.slice ao (ln 32 N) cap)).setCell ⟨b, o, none⟩ (.bool (neg && decide (0 < N)))) := by
  refine ⟨Puts.of' ⟨h.1, h.2.cut⟩, ao, n, ln 32 N, cap, rfl, ?_⟩
  obtain ⟨g1, -, g3, g4, ⟨s0, g5⟩, a, m0, m, g6⟩ := h.1
  exact (cellOther (addrNe (by omega))).trans (cellSame g6)

end Go.Proofs.YtlhebpoiakpkoaaGreatDoor
end

/- Walks: the references' words (binnacleref00): times, left, right. -/
section
namespace Go.Proofs.YtlhebpoiakpkoaaGreatDoor
open Go.RowKit

theorem prod_fit {x y z c : Nat} (hx : x < 4294967296) (hy : y < 4294967296) (hz : z < 4294967296) (hc : c < 4294967296) : x * y + z + c < 18446744073709551616 := by
  have : x * y ≤ 4294967295 * 4294967295 := Nat.mul_le_mul (by omega) (by omega)
  omega

/-- After j digits of the product's row i. -/
def TimRel (X Y m b0 i ny j C N : Nat) (wr : World) : Prop :=
  C < 4294967296 ∧ N + C * 2 ^ (32 * (i + j)) = X % 2 ^ (32 * i) * Y + dg 32 X i * (Y % 2 ^ (32 * j)) * 2 ^ (32 * i) ∧ N < 2 ^ (32 * (i + ny)) ∧ Row .u32 32 b0 m N wr

theorem TimRel.step {X Y m b0 i ny j C N : Nat} {wr : World} (h : TimRel X Y m b0 i ny j C N wr) (hj : j < ny) (hm : i + j < m) :
    TimRel X Y m b0 i ny (j + 1) ((dg 32 X i * dg 32 Y j + dg 32 N (i + j) + C) / 4294967296) (setd 32 N (i + j) ((dg 32 X i * dg 32 Y j + dg 32 N (i + j) + C) % 4294967296))
      (wr.setCell ⟨b0, i + j, none⟩ (.int .u32 ((dg 32 X i * dg 32 Y j + dg 32 N (i + j) + C) % 4294967296 : Nat))) := by
  have hp := prod_fit (dg32_lt X i) (dg32_lt Y j) (dg32_lt N (i + j)) h.1
  have hs := mul_step h.2.1
  rw [two32] at hs
  exact ⟨by omega, hs, setd_lt (Nat.mod_lt _ (by decide)) h.2.2.1 (by omega), h.2.2.2.set (Nat.mod_lt _ (by decide)) hm⟩

theorem TimRel.last {X Y m b0 i ny C N : Nat} {wr : World} (h : TimRel X Y m b0 i ny ny C N wr) (hY : Y < 2 ^ (32 * ny)) (hm : i + ny < m) :
    X % 2 ^ (32 * (i + 1)) * Y < 2 ^ (32 * (i + 1 + ny)) ∧ Row .u32 32 b0 m (X % 2 ^ (32 * (i + 1)) * Y) (wr.setCell ⟨b0, i + ny, none⟩ (.int .u32 (C : Nat))) := by
  have hr := mul_row hY h.2.1 h.2.2.1
  rw [← hr]
  exact ⟨setd_lt h.1 (Nat.lt_of_lt_of_le h.2.2.1 (Nat.pow_le_pow_right (by decide) (by omega))) (by omega), h.2.2.2.set h.1 hm⟩

end Go.Proofs.YtlhebpoiakpkoaaGreatDoor
end

/- Walks: the references' whole numbers (binnacleref00): small methods. -/
section
namespace Go.Proofs.YtlhebpoiakpkoaaGreatDoor
open Go.RowKit

/-- One of the references' whole numbers. -/
abbrev RInt (w : World) (b : Nat) (z : Int) : Prop := IntK .u32 32 w b 0 z

end Go.Proofs.YtlhebpoiakpkoaaGreatDoor
end
