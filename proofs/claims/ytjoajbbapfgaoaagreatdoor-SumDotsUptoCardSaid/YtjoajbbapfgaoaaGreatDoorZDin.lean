/- Arguments out of their readings: dyads, lists of words, whole numbers. -/
import Derived.Test.YtjoajbbapfgaoaaGreatDoorZRki
import Derived.Test.YtjoajbbapfgaoaaGreatDoorGR
import Derived.Test.YtjoajbbapfgaoaaGreatDoorGS
import Derived.Lib.SmallJoins
namespace Go.Proofs.YtjoajbbapfgaoaaGreatDoor
open Go.ChangeShapes Go.WideShapes Go.ChangeAt Go.RowKit

theorem Tryz.laidOut : laidOutB Tryz.prog = true := by kernel_rfl

/-- The number of words. -/
def ofW : List Nat → Nat
  | [] => 0
  | z :: r => z + 4294967296 * ofW r

theorem ofW_lt : ∀ (l : List Nat), (∀ z ∈ l, z < 4294967296) → ofW l < 2 ^ (32 * l.length)
  | [], _ => by simp [ofW]
  | z :: r, h => by
    have h1 := ofW_lt r fun x hx => h x (List.mem_cons_of_mem _ hx)
    have h2 := h z (List.mem_cons_self ..)
    rw [ofW, List.length_cons, show 32 * (r.length + 1) = 32 * r.length + 32 from by omega, Nat.pow_add]
    have h3 : (2 : Nat) ^ 32 = 4294967296 := by decide
    rw [h3]
    omega

theorem ofW_dg : ∀ (l : List Nat), (∀ z ∈ l, z < 4294967296) → ∀ i (hi : i < l.length), dg 32 (ofW l) i = l[i]
  | z :: r, h, 0, _ => by
    have h2 := h z (List.mem_cons_self ..)
    unfold dg
    rw [ofW, Nat.mul_zero, Nat.pow_zero, Nat.div_one, show (2 : Nat) ^ 32 = 4294967296 from by decide, Nat.add_mul_mod_self_left, Nat.mod_eq_of_lt h2]
    rfl
  | z :: r, h, i + 1, hi => by
    have h2 := h z (List.mem_cons_self ..)
    have h1 := ofW_dg r (fun x hx => h x (List.mem_cons_of_mem _ hx)) i (by simpa using hi)
    have h3 : ofW (z :: r) / 4294967296 = ofW r := by rw [ofW, Nat.add_mul_div_left _ _ (by decide), Nat.div_eq_of_lt h2, Nat.zero_add]
    unfold dg at h1 ⊢
    rw [show 32 * (i + 1) = 32 + 32 * i from by omega, Nat.pow_add, ← Nat.div_div_eq_div_mul, show (2 : Nat) ^ 32 = 4294967296 from by decide, h3]
    rw [show (2 : Nat) ^ 32 = 4294967296 from by decide] at h1
    rw [h1]
    rfl

set_option maxRecDepth 100000 in
/-- A dyad out of its reading. -/
theorem dyin_of {H : Type} {enc : TypeId × Value → H} {W : World} {base : Nat} {v : Value} {d : DataW H} {p : List MemPlace} (hv : Value.okWide Tryz.prog W .any base 24 v)
    (h : DataW.Trod enc Tryz.prog W 0 (fun _ => true) true 24 v d p) (hlt : ∀ x ∈ p, x.block < W.heap.size) (hb : Rows.uptoBulk d ≤ 1048576) : ∃ neg n N e, DyIn W v neg n N e := by
  obtain ⟨v0, v1, v2, y0, y1, y2, m, rfl, rfl, rfl, h0, h1, h2⟩ := Go.Joins.open_agg3 Tryz.underlying24 (by kernel_rfl) (by kernel_rfl) hv h
  obtain ⟨neg, hc0, -⟩ := DataW.trod_bool Tryz.underlying4 h0
  obtain ⟨e, hc2, -, -⟩ := DataW.trod_int Tryz.underlying3 h2
  simp only [List.cons.injEq, and_true] at hc0 hc2
  subst hc0
  subst hc2
  have hb1 : Rows.uptoBulk y1.1 ≤ 1048576 := Nat.le_trans (bulk_agg (by simp)) hb
  rcases open_ints Tryz.underlying22 Tryz.underlying53 (show Tryz.prog.cellsOf 53 = 1 by kernel_rfl) h1 with ⟨hcs, hx⟩ | ⟨a, len, cap, zs, hcs, _, hl, hm, hz, hx, hcell, hwz⟩
  · simp only [List.cons.injEq, and_true] at hcs
    subst hcs
    exact ⟨neg, 0, 0, e, _, rfl, ⟨none, 0, rfl, Nat.le_refl _, by decide, by decide, fun h => absurd h (by decide)⟩, by decide⟩
  · simp only [List.cons.injEq, and_true] at hcs
    subst hcs
    subst hx
    simp only [if_true] at hz
    have hlen := bulk_slice (H := H) (lits .u32 (zs.take len)) (lits .u32 (zs.drop len))
    have hll : (lits (H := H) .u32 (zs.take len)).length = len := by unfold lits; simp; omega
    have hb2 : Rows.uptoBulk (DataW.slice (lits (H := H) .u32 (zs.take len)) (lits (H := H) .u32 (zs.drop len))) ≤ 1048576 := hb1
    have hln : len ≤ 1048576 := by omega
    have hwf : ∀ z ∈ zs, 0 ≤ z ∧ z ≤ 4294967295 := fun z hz => by simpa [Lit.wf, IntKind.min, IntKind.max, IntKind.signed, IntKind.bits] using hwz z hz
    have hsm : ∀ x ∈ (zs.take len).map Int.toNat, x < 4294967296 := fun x hx => by
      obtain ⟨z, hz, rfl⟩ := List.mem_map.1 hx
      have := hwf z (List.mem_of_mem_take hz)
      omega
    have hlm : ((zs.take len).map Int.toNat).length = len := by simp; omega
    refine ⟨neg, len, ofW ((zs.take len).map Int.toNat), e, _, rfl, ⟨some a, cap, rfl, hl, ?_, by omega, fun h0 => ?_⟩, by omega⟩
    · have := ofW_lt _ hsm
      rw [hlm] at this
      exact this
    · have hpos : 0 < zs.length := by omega
      obtain ⟨b, off, rfl, hc⟩ := ints_at hcell hpos
      refine ⟨b, off, rfl, hlt (.cell b off) (by simp only [List.mem_append]; exact .inr (.inl (MemPlace.mem_row.2 ⟨0, by omega, by simp⟩))), fun i hi => ?_⟩
      rw [hc i (by omega), ofW_dg _ hsm i (by omega)]
      have := hwf (zs.getD i 0) (by rw [List.getD_eq_getElem?_getD, List.getElem?_eq_getElem (by omega)]; exact List.getElem_mem _)
      simp only [List.getElem_map, List.getElem_take]
      rw [List.getD_eq_getElem?_getD, List.getElem?_eq_getElem (by omega), Option.getD_some] at this ⊢
      rw [Int.toNat_of_nonneg this.1]

set_option maxRecDepth 100000 in
/-- A list of words out of its reading. -/
theorem usl_of {H : Type} {enc : TypeId × Value → H} {W : World} {a0 : Option Addr} {len cap : Nat} {d : DataW H} {p : List MemPlace}
    (h : DataW.Trod enc Tryz.prog W 0 (fun _ => true) true 60 (.slice a0 len cap) d p) (hlt : ∀ x ∈ p, x.block < W.heap.size) (hb : Rows.uptoBulk d ≤ 1048576) : ∃ l, USl W (.slice a0 len cap) l := by
  obtain ⟨fuel, hf⟩ := h
  rcases open_ints Tryz.underlying60 Tryz.underlying25 (show Tryz.prog.cellsOf 25 = 1 by kernel_rfl) hf with ⟨hcs, hx⟩ | ⟨a, len', cap', zs, hcs, _, hl, hm, hz, hx, hcell, hwz⟩
  · simp [Value.cells] at hcs
    obtain ⟨rfl, rfl, rfl⟩ := hcs
    exact ⟨[], none, 0, rfl, Nat.zero_le _, Nat.zero_le _, (fun x hx => nomatch hx), fun h => absurd h (by simp)⟩
  · simp [Value.cells] at hcs
    obtain ⟨rfl, rfl, rfl⟩ := hcs
    simp only [Prod.mk.injEq] at hx
    obtain ⟨rfl, rfl⟩ := hx
    simp only [if_true] at hz
    have hlen := bulk_slice (H := H) (lits .u64 (zs.take len)) (lits .u64 (zs.drop len))
    have hll : (lits (H := H) .u64 (zs.take len)).length = len := by unfold lits; simp; omega
    have hwf : ∀ z ∈ zs, 0 ≤ z ∧ z ≤ 18446744073709551615 := fun z hz => by simpa [Lit.wf, IntKind.min, IntKind.max, IntKind.signed, IntKind.bits] using hwz z hz
    refine ⟨(zs.take len).map Int.toNat, some a, cap, by simp; omega, by simp; omega, by simp; omega, fun x hx => ?_, fun h0 => ?_⟩
    · obtain ⟨z, hz, rfl⟩ := List.mem_map.1 hx
      have := hwf z (List.mem_of_mem_take hz)
      omega
    · have hpos : 0 < zs.length := by simp at h0; omega
      obtain ⟨b, off, rfl, hc⟩ := ints_at hcell hpos
      refine ⟨b, off, rfl, hlt (.cell b off) (MemPlace.mem_row.2 ⟨0, by omega, by simp⟩), fun i hi => ?_⟩
      have hi2 : i < len := by simp at hi; omega
      rw [hc i (by omega)]
      have := hwf (zs.getD i 0) (by rw [List.getD_eq_getElem?_getD, List.getElem?_eq_getElem (by omega)]; exact List.getElem_mem _)
      simp only [List.getElem_map, List.getElem_take]
      rw [List.getD_eq_getElem?_getD, List.getElem?_eq_getElem (by omega), Option.getD_some] at this ⊢
      rw [Int.toNat_of_nonneg this.1]

/-- A whole number out of its reading. -/
theorem int_of {H : Type} {enc : TypeId × Value → H} {W : World} {t : TypeId} {k : IntKind} {n : Int} {d : DataW H} {p : List MemPlace} (ht : Tryz.prog.underlying t = some (.int k))
    (h : DataW.Trod enc Tryz.prog W 0 (fun _ => true) true t (.int k n) d p) : (Lit.int k n).wf = true := by
  obtain ⟨fuel, hf⟩ := h
  obtain ⟨k', hc, -, hw⟩ := DataW.trod_int ht hf
  simp [Value.cells] at hc
  subst hc
  exact hw

theorem i64_of {n : Int} (h : (Lit.int .i64 n).wf = true) : -9223372036854775808 ≤ n ∧ n ≤ 9223372036854775807 := by
  simpa [Lit.wf, IntKind.min, IntKind.max, IntKind.signed, IntKind.bits] using h

theorem u64_of {n : Int} (h : (Lit.int .u64 n).wf = true) : ∃ x : Nat, n = x ∧ x < 18446744073709551616 := by
  have h1 : 0 ≤ n ∧ n ≤ 18446744073709551615 := by simpa [Lit.wf, IntKind.min, IntKind.max, IntKind.signed, IntKind.bits] using h
  exact ⟨n.toNat, by omega, by omega⟩

end Go.Proofs.YtjoajbbapfgaoaaGreatDoor
