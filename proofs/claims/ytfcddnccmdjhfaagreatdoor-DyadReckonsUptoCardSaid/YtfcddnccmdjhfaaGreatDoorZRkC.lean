/- DyadReckons answers true at every two dyads and every number, whether the dyads may be or not, in whatever memory, where what it reads is of bulk at most 1048576; the row lists the tables math/bits.deBruijn32tab and deBruijn64tab, and the card ties them to the program's text. -/
import Derived.Test.YtfcddnccmdjhfaaGreatDoorZRk6
import Derived.Test.YtfcddnccmdjhfaaGreatDoorGS
import Derived.Lib.SmallJoins
namespace Go.Proofs.YtfcddnccmdjhfaaGreatDoor
open Go.ChangeShapes Go.WideShapes Go.ChangeAt Go.RowKit

theorem Tryz.laidOut : laidOutB Tryz.prog = true := by kernel_rfl

/-- The number of words. -/
def ofW : List Nat → Nat
  | [] => 0
  | z :: r => z + 4294967296 * ofW r

theorem ofW_lt : ∀ (l : List Nat), (∀ z ∈ l, z < 4294967296) → ofW l < 2 ^ (32 * l.length)
  | [], _ => by simp [ofW]
  | z :: r, h => by
    have h1 := ofW_lt r fun x hx => h x (List.mem_cons_of_mem _ hx)
    have h2 := h z (List.mem_cons_self ..)
    rw [ofW, List.length_cons, show 32 * (r.length + 1) = 32 * r.length + 32 from by omega, Nat.pow_add]
    have h3 : (2 : Nat) ^ 32 = 4294967296 := by decide
    rw [h3]
    omega

theorem ofW_dg : ∀ (l : List Nat), (∀ z ∈ l, z < 4294967296) → ∀ i (hi : i < l.length), dg 32 (ofW l) i = l[i]
  | z :: r, h, 0, _ => by
    have h2 := h z (List.mem_cons_self ..)
    unfold dg
    rw [ofW, Nat.mul_zero, Nat.pow_zero, Nat.div_one, show (2 : Nat) ^ 32 = 4294967296 from by decide, Nat.add_mul_mod_self_left, Nat.mod_eq_of_lt h2]
    rfl
  | z :: r, h, i + 1, hi => by
    have h2 := h z (List.mem_cons_self ..)
    have h1 := ofW_dg r (fun x hx => h x (List.mem_cons_of_mem _ hx)) i (by simpa using hi)
    have h3 : ofW (z :: r) / 4294967296 = ofW r := by rw [ofW, Nat.add_mul_div_left _ _ (by decide), Nat.div_eq_of_lt h2, Nat.zero_add]
    unfold dg at h1 ⊢
    rw [show 32 * (i + 1) = 32 + 32 * i from by omega, Nat.pow_add, ← Nat.div_div_eq_div_mul, show (2 : Nat) ^ 32 = 4294967296 from by decide, h3]
    rw [show (2 : Nat) ^ 32 = 4294967296 from by decide] at h1
    rw [h1]
    rfl

set_option maxRecDepth 100000 in
/-- A dyad out of its reading. -/
theorem dyin_of {H : Type} {enc : TypeId × Value → H} {W : World} {base : Nat} {v : Value} {d : DataW H} {p : List MemPlace} (hv : Value.okWide Tryz.prog W .any base 24 v)
    (h : DataW.Trod enc Tryz.prog W 0 (fun _ => true) true 24 v d p) (hlt : ∀ x ∈ p, x.block < W.heap.size) (hb : Rows.uptoBulk d ≤ 1048576) : ∃ neg n N e, DyIn W v neg n N e := by
  obtain ⟨v0, v1, v2, y0, y1, y2, m, rfl, rfl, rfl, h0, h1, h2⟩ := Go.Joins.open_agg3 Tryz.underlying24 (by kernel_rfl) (by kernel_rfl) hv h
  obtain ⟨neg, hc0, -⟩ := DataW.trod_bool Tryz.underlying4 h0
  obtain ⟨e, hc2, -, -⟩ := DataW.trod_int Tryz.underlying3 h2
  simp only [List.cons.injEq, and_true] at hc0 hc2
  subst hc0
  subst hc2
  have hb1 : Rows.uptoBulk y1.1 ≤ 1048576 := Nat.le_trans (bulk_agg (by simp)) hb
  rcases open_ints Tryz.underlying22 Tryz.underlying58 (show Tryz.prog.cellsOf 58 = 1 by kernel_rfl) h1 with ⟨hcs, hx⟩ | ⟨a, len, cap, zs, hcs, _, hl, hm, hz, hx, hcell, hwz⟩
  · simp only [List.cons.injEq, and_true] at hcs
    subst hcs
    exact ⟨neg, 0, 0, e, _, rfl, ⟨none, 0, rfl, Nat.le_refl _, by decide, by decide, fun h => absurd h (by decide)⟩, by decide⟩
  · simp only [List.cons.injEq, and_true] at hcs
    subst hcs
    subst hx
    simp only [if_true] at hz
    have hlen := bulk_slice (H := H) (lits .u32 (zs.take len)) (lits .u32 (zs.drop len))
    have hll : (lits (H := H) .u32 (zs.take len)).length = len := by unfold lits; simp; omega
    have hb2 : Rows.uptoBulk (DataW.slice (lits (H := H) .u32 (zs.take len)) (lits (H := H) .u32 (zs.drop len))) ≤ 1048576 := hb1
    have hln : len ≤ 1048576 := by omega
    have hwf : ∀ z ∈ zs, 0 ≤ z ∧ z ≤ 4294967295 := fun z hz => by simpa [Lit.wf, IntKind.min, IntKind.max, IntKind.signed, IntKind.bits] using hwz z hz
    have hsm : ∀ x ∈ (zs.take len).map Int.toNat, x < 4294967296 := fun x hx => by
      obtain ⟨z, hz, rfl⟩ := List.mem_map.1 hx
      have := hwf z (List.mem_of_mem_take hz)
      omega
    have hlm : ((zs.take len).map Int.toNat).length = len := by simp; omega
    refine ⟨neg, len, ofW ((zs.take len).map Int.toNat), e, _, rfl, ⟨some a, cap, rfl, hl, ?_, by omega, fun h0 => ?_⟩, by omega⟩
    · have := ofW_lt _ hsm
      rw [hlm] at this
      exact this
    · have hpos : 0 < zs.length := by omega
      obtain ⟨b, off, rfl, hc⟩ := ints_at hcell hpos
      refine ⟨b, off, rfl, hlt (.cell b off) (by simp only [List.mem_append]; exact .inr (.inl (MemPlace.mem_row.2 ⟨0, by omega, by simp⟩))), fun i hi => ?_⟩
      rw [hc i (by omega), ofW_dg _ hsm i (by omega)]
      have := hwf (zs.getD i 0) (by rw [List.getD_eq_getElem?_getD, List.getElem?_eq_getElem (by omega)]; exact List.getElem_mem _)
      simp only [List.getElem_map, List.getElem_take]
      rw [List.getD_eq_getElem?_getD, List.getElem?_eq_getElem (by omega), Option.getD_some] at this ⊢
      rw [Int.toNat_of_nonneg this.1]

set_option maxRecDepth 100000 in
theorem reckons_contract (H : Type) (enc : TypeId × Value → H) (W : World) (base : Nat) (args : Array Value) (ds gs : List (DataW H)) (before : List MemPlace)
    (hval : ∀ (j : Nat) t v, Tryz.f7.params[j]? = some t → args[j]? = some v → Value.okWide Tryz.prog W .any base t v)
    (hW : DataW.Whole enc Tryz.prog Tryz.f7.params.toList Rows.dyadReckonsSpec.vars false W args.toList ds gs before) (hcond : Rows.uptoSmall H (ds ++ gs) = true) (hL : laidMetH Tryz.prog laidL2 W) :
    Calls Tryz.prog 7 args W fun e W' => ∃ v, e = .returned v ∧ Rows.dyadReckonsSpec.post enc Tryz.prog Tryz.f7 false true false false W args v W' := by
  have hW' := hW
  obtain ⟨p, q, hA0, hV, rfl, hfz, hnd⟩ := hW
  have hA : DataW.TrodAll enc Tryz.prog W 0 (fun _ => true) true Tryz.f7.params.toList args.toList ds p := hA0
  rw [Tryz.params7] at hA hval
  obtain ⟨v0, vs0, d0, ds0, p0, q0, hargs, rfl, rfl, h0, r0⟩ := trodAll_cons hA
  obtain ⟨v1, vs1, d1, ds1, p1, q1, rfl, rfl, rfl, h1, r1⟩ := trodAll_cons r0
  obtain ⟨v2, vs2, d2, ds2, p2, q2, rfl, rfl, rfl, h2, r2⟩ := trodAll_cons r1
  obtain ⟨rfl, rfl, rfl⟩ := trodAll_nil r2
  obtain rfl : args = #[v0, v1, v2] := by cases args; simp_all
  obtain ⟨rfl, rfl⟩ := trodVars_none hV
  have hv0 := hval 0 24 v0 rfl rfl
  have hv1 := hval 1 24 v1 rfl rfl
  obtain ⟨k, rfl⟩ := okWide_int Tryz.underlying3 (hval 2 3 v2 rfl rfl)
  have hk : -9223372036854775808 ≤ k ∧ k ≤ 9223372036854775807 := by
    obtain ⟨fuel, hf⟩ := h2
    obtain ⟨k', hc, -, hw⟩ := DataW.trod_int Tryz.underlying3 hf
    simp [Value.cells] at hc
    subst hc
    simpa [Lit.wf, IntKind.min, IntKind.max, IntKind.signed, IntKind.bits] using hw
  clear hA0
  simp only [List.append_nil] at hW' hcond
  have hlt : ∀ x ∈ p0 ++ (p1 ++ p2), x.block < W.heap.size := fun x hx => by simpa using hW'.lt x hx
  have hbk := bulk_bound hcond
  have b0 : Rows.uptoBulk d0 ≤ 1048576 := Nat.le_trans (bulk_part (by simp)) hbk
  have b1 : Rows.uptoBulk d1 ≤ 1048576 := Nat.le_trans (bulk_part (by simp)) hbk
  obtain ⟨na, n, Na, e, ha⟩ := dyin_of hv0 h0 (fun x hx => hlt x (List.mem_append_left _ hx)) b0
  obtain ⟨nb, m, Nb, f, hb⟩ := dyin_of hv1 h1 (fun x hx => hlt x (List.mem_append_right _ (List.mem_append_left _ hx))) b1
  obtain ⟨⟨hT, hTs⟩, hT2, hTs2⟩ := tabs_of_laid hL
  refine (reckons_any _ _ na nb n m Na Nb e f k W ha hb hk.1 hk.2 hT hTs hT2 hTs2).mono fun e W' ⟨he, hb⟩ => ?_
  subst he
  have k0 := Below.trod Tryz.laidOut (by kernel_rfl) (of_decide_eq_true (by kernel_rfl)) h0 hb (fun x hx => hlt x (List.mem_append_left _ hx))
  have k1 := Below.trod Tryz.laidOut (by kernel_rfl) (of_decide_eq_true (by kernel_rfl)) h1 hb (fun x hx => hlt x (List.mem_append_right _ (List.mem_append_left _ hx)))
  have k2 := Below.trod Tryz.laidOut (by kernel_rfl) (of_decide_eq_true (by kernel_rfl)) h2 hb (fun x hx => hlt x (List.mem_append_right _ (List.mem_append_right _ hx)))
  exact ⟨_, rfl, _, _, _, [], _, [], hW', (trodAll_cons_mk (shut_bool Tryz.underlying4 _) trodAll_mk0), (trodAll_cons_mk k0 (trodAll_cons_mk k1 (trodAll_cons_mk k2 trodAll_mk0))), rfl, hb.frame _, fun h => by cases h⟩

theorem reckons_reads (os : Os) {H : Type} (enc : TypeId × Value → H) : ∃ places, DataW.whole enc Tryz.prog ((World.laidAll Tryz.prog os laidL2).forCall (fun _ _ => 0) ⟨#[], #[.agg #[.bool false, .slice none 0 0, .int .i64 0], .agg #[.bool false, .slice none 0 0, .int .i64 0], .int .i64 0], []⟩).memory Tryz.f7.params.toList Rows.dyadReckonsSpec.vars false #[Value.agg #[.bool false, .slice none 0 0, .int .i64 0], .agg #[.bool false, .slice none 0 0, .int .i64 0], .int .i64 0].toList 8 = some ([.agg [.lit (.bool false), .nil, .lit (.int .i64 0)], .agg [.lit (.bool false), .nil, .lit (.int .i64 0)], .lit (.int .i64 0)], [], places) :=
  ⟨[], by kernel_rfl⟩

set_option maxRecDepth 100000 in
theorem reckons_lifted (os : Os) (started : os.Started) (H : Type) (enc : TypeId × Value → H) (F : Stop.Interp) :
    ReturnsInHanded {} Tryz.checked os 7 .any ((Rows.OpenSpec.upto Rows.dyadReckonsSpec).preRow enc Tryz.prog Tryz.f7 Rows.dyadReckonsUptoRow.domain false Rows.dyadReckonsUptoRow.laid) (((Rows.OpenSpec.upto Rows.dyadReckonsSpec).at F).post enc Tryz.prog Tryz.f7 false true false false) := by
  obtain ⟨places, hx⟩ := reckons_reads os enc
  refine returnsInHanded_of_row (C := Tryz.checked) (s := Rows.OpenSpec.upto Rows.dyadReckonsSpec) own started (by kernel_rfl) Tryz.func7
    (witness_row_at (enc := enc) (C := Tryz.checked) false (World.laidAll Tryz.prog os laidL2) #[.agg #[.bool false, .slice none 0 0, .int .i64 0], .agg #[.bool false, .slice none 0 0, .int .i64 0], .int .i64 0] (World.laidAll_os _ _ _) (by kernel_rfl) (by kernel_rfl) (by kernel_rfl)
      (OpenSpec.preRow_of_cond 8 hx (by kernel_rfl) (fun k hk => by cases hk; kernel_rfl) (by kernel_rfl) (by
        show laidMetH Tryz.prog laidL2 _
        rw [MakeChecks.laidMetH_plain _ _ _ (by kernel_rfl)]; exact laidMet_laidAll _ (by kernel_rfl) (by kernel_rfl)))) ?_
  intro W base args ds gs before hval hW _ hcond _ hL _ _
  exact reckons_contract H enc W base args ds gs before hval hW (hcond _ rfl) hL

theorem reckons_holds : Rows.DyadReckonsUptoSaid :=
  OpenClaim.holds_of_cond 7 Tryz.f7 rfl rfl rfl rfl rfl rfl rfl ⟨rfl, rfl, rfl, rfl, rfl⟩ rfl rfl rfl rfl rfl (by kernel_rfl) Tryz.func7 (by kernel_rfl)
    (of_decide_eq_true (by kernel_rfl)) (by unfold Func.isWrapper; first | (rw [if_pos (by decide +kernel)]; kernel_rfl) | (rw [if_neg (by decide +kernel)]; exact ⟨rfl, rfl⟩))
    (fun os started H enc _ F => by rw [OpenClaim.pre_eq_preRow]; exact reckons_lifted os started H enc F)

theorem reckons_card : Rows.DyadReckonsUptoCardSaid :=
  Claim7.holds_tied_plain_at .later [] [.data, .data] true Rows.dyadReckonsUptoCard.stood.harness false
    reckons_holds (fun _ h => by cases h) (by kernel_rfl) (fun _ h => by cases h) dyadReckonsUpto_row_tie rfl ⟨rfl, rfl⟩ (by kernel_rfl) rfl
    (fun f fn hf hfn => by
      obtain rfl : f = 7 := Option.some.inj ((show Tryz.prog.funcNamed "binnacle/binnaclelaw03.DyadReckons" = some 7 by kernel_rfl).symm.trans hf) |>.symm
      obtain rfl : fn = Tryz.f7 := (Option.some.inj (Tryz.func7.symm.trans hfn)).symm
      exact ⟨by kernel_rfl, fun j t ht => by
        rw [Tryz.params7] at ht
        have hm : t ∈ [24, 24, 3] := by simpa using Array.mem_of_getElem? ht
        have hall : ([24, 24, 3].all fun u => !Tryz.prog.wantsStandIn u) = true := by kernel_rfl
        exact (show Tryz.prog.wantsStandIn t = false by simpa using List.all_eq_true.1 hall t hm)⟩)
    (by kernel_rfl)
#print axioms reckons_card

end Go.Proofs.YtfcddnccmdjhfaaGreatDoor
