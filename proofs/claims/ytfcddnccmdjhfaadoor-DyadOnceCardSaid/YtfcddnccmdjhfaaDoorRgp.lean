/- Dyads with bounds: plain laws for sums and products of numbers, no program. -/
import Derived.Test.YtfcddnccmdjhfaaDoorFr
namespace Go.Proofs.YtfcddnccmdjhfaaDoor
open Go.RowKit

/-- Written in its one way, at most B bits, an exponent from L to H. -/
structure Dz (z e : Int) (B : Nat) (L H : Int) : Prop where
  nrm : Nrm z e
  b : bl z.natAbs ≤ B
  l : L ≤ e
  h : e ≤ H

theorem Dz.good {z e : Int} {B : Nat} {L H : Int} (d : Dz z e B L H) (hB : B ≤ 65536) (hL : -100000 ≤ L) (hH : H ≤ 100000) : GoodD z e :=
  ⟨d.nrm, Nat.le_trans d.b hB, by have := d.l; omega, by have := d.h; omega⟩

theorem Dz.of {b : Nat} (h : finB b = true) : Dz (valZ b) (pE b) 53 (-1074) 1023 := ⟨(good_of h).1, val_bl, (pE_bd h).1, (pE_bd h).2⟩

theorem Dz.norm {R E : Int} {B : Nat} {L H : Int} (hb : bl R.natAbs ≤ B) (hl : L ≤ E) (hh : E ≤ H) (h0 : L ≤ 0) (h1 : 0 ≤ H + B) : Dz (hvZ R) (nrE R E) B L (H + B) := by
  have h2 := bl_mono (hvZ_natAbs_le (z := R))
  have h3 := tzb_le (N := R.natAbs)
  refine ⟨nrm_hv R E, by omega, ?_, ?_⟩
  all_goals
    unfold nrE hvE
    split <;> omega

theorem Dz.lng {R E : Int} {B : Nat} {L H : Int} (hb : bl R.natAbs ≤ B) (hl : L ≤ E) (hh : E ≤ H) (h0 : B ≤ 65536) (h1 : -100000 ≤ L) (h2 : H + B ≤ 100000) : R = 0 ∨ lngB R E = false :=
  .inr (lng_bd (by omega) (by omega) (by omega))

theorem pl_bd {z e y f : Int} {B C : Nat} {N U : Int} (hz : bl z.natAbs ≤ B) (hy : bl y.natAbs ≤ C) (h1 : N ≤ e) (h2 : e ≤ U) (h3 : N ≤ f) (h4 : f ≤ U) :
    bl (plZ z e y f).natAbs ≤ B + C + (U - N).toNat + 1 ∧ N ≤ plE z e y f ∧ plE z e y f ≤ U := by
  have h5 := bl_plZ (z := z) (e := e) (y := y) (f := f)
  refine ⟨by omega, ?_, ?_⟩
  all_goals
    unfold plE
    split
    · omega
    · split <;> omega

theorem mul_bd {z e y f : Int} {B C : Nat} {L H K J : Int} (hz : bl z.natAbs ≤ B) (hy : bl y.natAbs ≤ C) (h1 : L ≤ e) (h2 : e ≤ H) (h3 : K ≤ f) (h4 : f ≤ J) :
    bl (z * y).natAbs ≤ B + C ∧ L + K ≤ e + f ∧ e + f ≤ H + J := by
  have h5 := bl_mul z.natAbs y.natAbs
  rw [← Int.natAbs_mul] at h5
  exact ⟨by omega, by omega, by omega⟩

/-- A sum that is written in its one way: bounds, that it isn't too long, its value. -/
theorem Dz.add {z e y f : Int} {B C D : Nat} {L H K J N U : Int} (a : Dz z e B L H) (b : Dz y f C K J) (h1 : N ≤ L) (h2 : N ≤ K) (h3 : H ≤ U) (h4 : J ≤ U) (h0 : N ≤ 0) (h5 : 0 ≤ U) (hD : B + C + (U - N).toNat + 1 ≤ D) :
    Dz (hvZ (plZ z e y f)) (nrE (plZ z e y f) (plE z e y f)) D N (U + D) ∧ (D ≤ 65536 → -100000 ≤ N → U + D ≤ 100000 → plZ z e y f = 0 ∨ lngB (plZ z e y f) (plE z e y f) = false) ∧
      (∀ M, 0 ≤ N + M → sc M (hvZ (plZ z e y f)) (nrE (plZ z e y f) (plE z e y f)) = sc M z e + sc M y f) := by
  obtain ⟨k1, k2, k3⟩ := pl_bd (e := e) (f := f) a.b b.b (N := N) (U := U) (by have := a.l; omega) (by have := a.h; omega) (by have := b.l; omega) (by have := b.h; omega)
  refine ⟨Dz.norm (by omega) k2 k3 h0 (by omega), fun q1 q2 q3 => Dz.lng (B := D) (by omega) k2 k3 q1 q2 q3, fun M hM => ?_⟩
  rw [sc_nr (by omega), sc_pl (by have := a.l; omega) (by have := b.l; omega)]

theorem Dz.mul {z e y f : Int} {B C : Nat} {L H K J : Int} (a : Dz z e B L H) (b : Dz y f C K J) (h0 : L + K ≤ 0) (h5 : 0 ≤ H + J) :
    Dz (hvZ (z * y)) (nrE (z * y) (e + f)) (B + C) (L + K) (H + J + (B + C : Nat)) ∧ (B + C ≤ 65536 → -100000 ≤ L + K → H + J + (B + C : Nat) ≤ 100000 → z * y = 0 ∨ lngB (z * y) (e + f) = false) ∧
      (∀ M, 0 ≤ L + M → 0 ≤ K + M → sc (M + M) (hvZ (z * y)) (nrE (z * y) (e + f)) = sc M z e * sc M y f) := by
  obtain ⟨k1, k2, k3⟩ := mul_bd a.b b.b a.l a.h b.l b.h
  refine ⟨Dz.norm k1 k2 k3 h0 (by omega), fun q1 q2 q3 => Dz.lng k1 k2 k3 q1 q2 q3, fun M h1 h2 => ?_⟩
  have := a.l
  have := b.l
  rw [sc_nr (by omega), sc_mul (by omega) (by omega)]

theorem Dz.neg {z e : Int} {B : Nat} {L H : Int} (a : Dz z e B L H) : Dz (-z) e B L H :=
  ⟨by rcases a.nrm with ⟨h1, h2⟩ | h1
      · exact .inl ⟨by rw [h1]; rfl, h2⟩
      · exact .inr (by omega), by rw [Int.natAbs_neg]; exact a.b, a.l, a.h⟩

theorem Dz.unique {z e y f : Int} {B C : Nat} {L H K J M : Int} (a : Dz z e B L H) (b : Dz y f C K J) (h1 : 0 ≤ L + M) (h2 : 0 ≤ K + M) (h : sc M z e = sc M y f) : z = y ∧ e = f :=
  nrm_unique a.nrm b.nrm (by have := a.l; omega) (by have := b.l; omega) h

/-- All that DyadRing's calls answer, in whole numbers: ab, bc, their sum in either order, the products, and back. -/
theorem ring_plain {a ea b eb c ec : Int} (ha : Dz a ea 53 (-1074) 1023) (hb : Dz b eb 53 (-1074) 1023) (hc : Dz c ec 53 (-1074) 1023) :
    ∃ ab eab bc ebc l el p ep r er o eo : Int,
      ((hvZ (plZ a ea b eb) = ab ∧ nrE (plZ a ea b eb) (plE a ea b eb) = eab) ∧ (plZ a ea b eb = 0 ∨ lngB (plZ a ea b eb) (plE a ea b eb) = false)) ∧
      ((hvZ (plZ b eb a ea) = ab ∧ nrE (plZ b eb a ea) (plE b eb a ea) = eab) ∧ (plZ b eb a ea = 0 ∨ lngB (plZ b eb a ea) (plE b eb a ea) = false)) ∧
      ((hvZ (plZ b eb c ec) = bc ∧ nrE (plZ b eb c ec) (plE b eb c ec) = ebc) ∧ (plZ b eb c ec = 0 ∨ lngB (plZ b eb c ec) (plE b eb c ec) = false)) ∧
      ((hvZ (plZ ab eab c ec) = l ∧ nrE (plZ ab eab c ec) (plE ab eab c ec) = el) ∧ (plZ ab eab c ec = 0 ∨ lngB (plZ ab eab c ec) (plE ab eab c ec) = false)) ∧
      ((hvZ (plZ a ea bc ebc) = l ∧ nrE (plZ a ea bc ebc) (plE a ea bc ebc) = el) ∧ (plZ a ea bc ebc = 0 ∨ lngB (plZ a ea bc ebc) (plE a ea bc ebc) = false)) ∧
      ((hvZ (a * b) = p ∧ nrE (a * b) (ea + eb) = ep) ∧ (a * b = 0 ∨ lngB (a * b) (ea + eb) = false)) ∧
      ((hvZ (b * a) = p ∧ nrE (b * a) (eb + ea) = ep) ∧ (b * a = 0 ∨ lngB (b * a) (eb + ea) = false)) ∧
      ((hvZ (a * bc) = o ∧ nrE (a * bc) (ea + ebc) = eo) ∧ (a * bc = 0 ∨ lngB (a * bc) (ea + ebc) = false)) ∧
      ((hvZ (a * c) = r ∧ nrE (a * c) (ea + ec) = er) ∧ (a * c = 0 ∨ lngB (a * c) (ea + ec) = false)) ∧
      ((hvZ (plZ p ep r er) = o ∧ nrE (plZ p ep r er) (plE p ep r er) = eo) ∧ (plZ p ep r er = 0 ∨ lngB (plZ p ep r er) (plE p ep r er) = false)) ∧
      ((hvZ (plZ ab eab (-b) eb) = a ∧ nrE (plZ ab eab (-b) eb) (plE ab eab (-b) eb) = ea) ∧ (plZ ab eab (-b) eb = 0 ∨ lngB (plZ ab eab (-b) eb) (plE ab eab (-b) eb) = false)) ∧
      GoodD ab eab ∧ GoodD bc ebc ∧ GoodD p ep ∧ GoodD r er ∧ GoodD l el ∧ GoodD o eo := by
  obtain ⟨dab, nab, sab⟩ := ha.add hb (N := -1074) (U := 1023) (D := 2204) (by omega) (by omega) (by omega) (by omega) (by omega) (by omega) (by decide)
  obtain ⟨dba, nba, sba⟩ := hb.add ha (N := -1074) (U := 1023) (D := 2204) (by omega) (by omega) (by omega) (by omega) (by omega) (by omega) (by decide)
  obtain ⟨dbc, nbc, sbc⟩ := hb.add hc (N := -1074) (U := 1023) (D := 2204) (by omega) (by omega) (by omega) (by omega) (by omega) (by omega) (by decide)
  obtain ⟨dl, nl, sl⟩ := dab.add hc (N := -1074) (U := 3227) (D := 6559) (by omega) (by omega) (by omega) (by omega) (by omega) (by omega) (by decide)
  obtain ⟨dr, nr, sr⟩ := ha.add dbc (N := -1074) (U := 3227) (D := 6559) (by omega) (by omega) (by omega) (by omega) (by omega) (by omega) (by decide)
  obtain ⟨dp, np, sp⟩ := ha.mul hb (by omega) (by omega)
  obtain ⟨dq, nq, sq⟩ := hb.mul ha (by omega) (by omega)
  obtain ⟨do', no, so⟩ := ha.mul dbc (by omega) (by omega)
  obtain ⟨dc, nc, sc'⟩ := ha.mul hc (by omega) (by omega)
  obtain ⟨ds, ns, ss⟩ := dp.add dc (N := -2148) (U := 2152) (D := 4513) (by omega) (by omega) (by omega) (by omega) (by omega) (by omega) (by decide)
  obtain ⟨dk, nk, sk⟩ := dab.add hb.neg (N := -1074) (U := 3227) (D := 6559) (by omega) (by omega) (by omega) (by omega) (by omega) (by omega) (by decide)
  have e1 := dba.unique dab (M := 10000) (by omega) (by omega) (by rw [sba _ (by omega), sab _ (by omega), Int.add_comm])
  have e2 := dr.unique dl (M := 10000) (by omega) (by omega) (by rw [sr _ (by omega), sl _ (by omega), sbc _ (by omega), sab _ (by omega), Int.add_assoc])
  have e3 := dq.unique dp (M := 10000 + 10000) (by omega) (by omega) (by rw [sq _ (by omega) (by omega), sp _ (by omega) (by omega), Int.mul_comm])
  have e4 := ds.unique do' (M := 10000 + 10000) (by omega) (by omega) (by rw [ss _ (by omega), sp _ (by omega) (by omega), sc' _ (by omega) (by omega), so _ (by omega) (by omega), sbc _ (by omega), Int.mul_add])
  have e5 := dk.unique ha (M := 10000) (by omega) (by omega) (by rw [sk _ (by omega), sab _ (by omega), sc_neg]; omega)
  exact ⟨_, _, _, _, _, _, _, _, _, _, _, _, ⟨⟨rfl, rfl⟩, nab (by decide) (by decide) (by decide)⟩, ⟨e1, nba (by decide) (by decide) (by decide)⟩, ⟨⟨rfl, rfl⟩, nbc (by decide) (by decide) (by decide)⟩,
    ⟨⟨rfl, rfl⟩, nl (by decide) (by decide) (by decide)⟩, ⟨e2, nr (by decide) (by decide) (by decide)⟩, ⟨⟨rfl, rfl⟩, np (by decide) (by decide) (by decide)⟩, ⟨e3, nq (by decide) (by decide) (by decide)⟩,
    ⟨⟨rfl, rfl⟩, no (by decide) (by decide) (by decide)⟩, ⟨⟨rfl, rfl⟩, nc (by decide) (by decide) (by decide)⟩, ⟨e4, ns (by decide) (by decide) (by decide)⟩, ⟨e5, nk (by decide) (by decide) (by decide)⟩,
    dab.good (by decide) (by decide) (by decide), dbc.good (by decide) (by decide) (by decide), dp.good (by decide) (by decide) (by decide), dc.good (by decide) (by decide) (by decide), dl.good (by decide) (by decide) (by decide), do'.good (by decide) (by decide) (by decide)⟩

end Go.Proofs.YtfcddnccmdjhfaaDoor
