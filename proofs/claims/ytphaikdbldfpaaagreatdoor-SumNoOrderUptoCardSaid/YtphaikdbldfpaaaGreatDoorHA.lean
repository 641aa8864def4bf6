/- Plain: exact sums, means and dot products of a list in another order. -/
import Derived.Test.YtphaikdbldfpaaaGreatDoorZFd2
import Derived.Test.YtphaikdbldfpaaaGreatDoorGZ
import Derived.Test.YtphaikdbldfpaaaGreatDoorZBd1
import Derived.Test.YtphaikdbldfpaaaGreatDoorZRi1
import Derived.Test.YtphaikdbldfpaaaGreatDoorGT
import Derived.Test.YtphaikdbldfpaaaGreatDoorGW
import Derived.Test.YtphaikdbldfpaaaGreatDoorGV
import Derived.Test.YtphaikdbldfpaaaGreatDoorGC
import Derived.Maps.AppendAt
import Derived.Deep.DeepCutAuto
section
namespace Go.Proofs.YtphaikdbldfpaaaGreatDoor
open Go.RowKit

/-- No number; the two infinities. -/
def tN (t : Option Nat) : Bool := match t with | none => true | some x => nanB x
def tP (t : Option Nat) : Bool := decide (t = some kInf)
def tM (t : Option Nat) : Bool := decide (t = some (kSign + kInf))
def Trm (t : Option Nat) : Prop := tN t = true ∨ t = some kInf ∨ t = some (kSign + kInf)

/-- What a sum of such comes to. -/
def oSp (T : List (Option Nat)) : Option Nat :=
  if T.any tN = true ∨ (T.any tP = true ∧ T.any tM = true) then none else if T.any tP = true then some kInf else if T.any tM = true then some (kSign + kInf) else some 0

theorem oA_none (op : BinOp) (s : Option Nat) : oA op s none = none := by cases s <;> rfl
theorem oA_nan {op : BinOp} {s : Option Nat} {t : Option Nat} (h : tN t = true) : oA op s t = none := by
  cases t with
  | none => exact oA_none op s
  | some x => cases s with
    | none => rfl
    | some y => exact bits_nan (.inr h)
theorem oA_nan_l {op : BinOp} {s : Option Nat} {t : Option Nat} (h : tN s = true) : oA op s t = none := by
  cases s with
  | none => rfl
  | some y => cases t with
    | none => rfl
    | some x => exact bits_nan (.inl h)

theorem oA_pp : oA .add (some kInf) (some kInf) = some kInf := by decide +kernel
theorem oA_pm : oA .add (some kInf) (some (kSign + kInf)) = none := by decide +kernel
theorem oA_mp : oA .add (some (kSign + kInf)) (some kInf) = none := by decide +kernel
theorem oA_mm : oA .add (some (kSign + kInf)) (some (kSign + kInf)) = some (kSign + kInf) := by decide +kernel
theorem oA_0p : oA .add (some 0) (some kInf) = some kInf := by decide +kernel
theorem oA_0m : oA .add (some 0) (some (kSign + kInf)) = some (kSign + kInf) := by decide +kernel

theorem oSp_cons {t : Option Nat} (T : List (Option Nat)) (h : Trm t) : oA .add (oSp T) t = oSp (t :: T) := by
  unfold oSp
  simp only [List.any_cons, Bool.or_eq_true]
  rcases h with h | rfl | rfl
  · rw [oA_nan h, if_pos (.inl (.inl h))]
  · have h1 : tN (some kInf) = false := by decide +kernel
    have h2 : tP (some kInf) = true := by decide +kernel
    have h3 : tM (some kInf) = false := by decide +kernel
    rw [h1, h2, h3]
    generalize T.any tN = a
    generalize T.any tP = b
    generalize T.any tM = c
    cases a <;> cases b <;> cases c <;> simp [oA_pp, oA_mp, oA_0p] <;> rfl
  · have h1 : tN (some (kSign + kInf)) = false := by decide +kernel
    have h2 : tP (some (kSign + kInf)) = false := by decide +kernel
    have h3 : tM (some (kSign + kInf)) = true := by decide +kernel
    rw [h1, h2, h3]
    generalize T.any tN = a
    generalize T.any tP = b
    generalize T.any tM = c
    cases a <;> cases b <;> cases c <;> simp [oA_pm, oA_mm, oA_0m] <;> rfl

theorem any_perm {α : Type} {p : α → Bool} {l m : List α} (h : l.Perm m) : l.any p = m.any p := by
  rw [Bool.eq_iff_iff, List.any_eq_true, List.any_eq_true]
  exact ⟨fun ⟨x, hx, hp⟩ => ⟨x, h.mem_iff.1 hx, hp⟩, fun ⟨x, hx, hp⟩ => ⟨x, h.mem_iff.2 hx, hp⟩⟩
theorem all_perm {α : Type} {p : α → Bool} {l m : List α} (h : l.Perm m) : l.all p = m.all p := by
  rw [Bool.eq_iff_iff, List.all_eq_true, List.all_eq_true]
  exact ⟨fun k x hx => k x (h.mem_iff.2 hx), fun k x hx => k x (h.mem_iff.1 hx)⟩

theorem oSp_perm {T U : List (Option Nat)} (h : T.Perm U) : oSp T = oSp U := by
  unfold oSp; rw [any_perm h, any_perm h, any_perm h]

theorem oSum_eq {T : List (Option Nat)} (h : ∀ t ∈ T, Trm t) : T.foldl (oA .add) (some 0) = oSp T := by
  rw [List.foldl_eq_foldr_reverse, ← oSp_perm (List.reverse_perm T)]
  have h' : ∀ t ∈ T.reverse, Trm t := fun t ht => h t (List.mem_reverse.1 ht)
  generalize T.reverse = U at *
  clear h
  induction U with
  | nil => simp [oSp]
  | cons t U ih =>
    rw [List.foldr_cons, ih fun x hx => h' x (List.mem_cons_of_mem _ hx)]
    exact oSp_cons U (h' t List.mem_cons_self)

/-- The special ones of a list, in their order. -/
theorem spcF_eq (l : List Nat) : spcF l = (((l.filter spcB).map some).foldl (oA .add) (some 0), l.any spcB) := by
  have key : ∀ (l : List Nat) (s : Option Nat × Bool), l.foldl (fun s x => if spcB x then (oA .add s.1 (some x), true) else s) s = (((l.filter spcB).map some).foldl (oA .add) s.1, s.2 || l.any spcB) := by
    intro l
    induction l with
    | nil => intro s; simp
    | cons x l ih =>
      intro s
      rw [List.foldl_cons, ih, List.any_cons]
      cases h : spcB x
      · simp [h]
      · simp [h]
  unfold spcF
  rw [key]
  simp

theorem trm_of_spc {x : Nat} (hx : x < 18446744073709551616) (h : spcB x = true) : Trm (some x) := by
  unfold spcB at h
  rw [Bool.or_eq_true] at h
  rcases h with h | h
  · exact .inl h
  · have h1 : x % kSign = kInf := of_decide_eq_true h
    refine .inr ?_
    have h2 : x % 9223372036854775808 = 9218868437227405312 := h1
    have : x = 9218868437227405312 ∨ x = 9223372036854775808 + 9218868437227405312 := by omega
    rcases this with h | h
    · exact .inl (by rw [h]; rfl)
    · exact .inr (by rw [h]; rfl)

theorem spcF_perm {l m : List Nat} (h : l.Perm m) (hx : ∀ x ∈ l, x < 18446744073709551616) : spcF l = spcF m := by
  rw [spcF_eq, spcF_eq, any_perm h]
  rw [oSum_eq (T := (l.filter spcB).map some) (by
      intro t ht
      obtain ⟨x, hx1, rfl⟩ := List.mem_map.1 ht
      obtain ⟨h1, h2⟩ := List.mem_filter.1 hx1
      exact trm_of_spc (hx x h1) h2),
    oSum_eq (T := (m.filter spcB).map some) (by
      intro t ht
      obtain ⟨x, hx1, rfl⟩ := List.mem_map.1 ht
      obtain ⟨h1, h2⟩ := List.mem_filter.1 hx1
      exact trm_of_spc (hx x (h.mem_iff.2 h1)) h2),
    oSp_perm ((h.filter spcB).map some)]

theorem ngtB_perm {l m : List Nat} (h : l.Perm m) : ngtB l = ngtB m := by unfold ngtB; rw [all_perm h, h.length_eq]

/-- The sum of what a list of exact numbers comes to. -/
def scS (M : Int) (l : List (Int × Int)) : Int := (l.map fun t => sc M t.1 t.2).sum

theorem foldS_scS {M : Int} (hM : 0 ≤ M) {l : List (Int × Int)} (h : ∀ t ∈ l, -M ≤ t.2) : -M ≤ (foldS l).2 ∧ sc M (foldS l).1 (foldS l).2 = scS M l := by
  have key : ∀ k, k ≤ l.length → -M ≤ (foldS (l.take k)).2 ∧ sc M (foldS (l.take k)).1 (foldS (l.take k)).2 = scS M (l.take k) := by
    intro k
    induction k with
    | zero => intro _; exact ⟨by rw [List.take_zero]; show -M ≤ 0; omega, by rw [List.take_zero]; exact sc_zero M 0⟩
    | succ k ih =>
      intro hk
      obtain ⟨i1, i2⟩ := ih (by omega)
      have hl : k < l.length := by omega
      have hpe := h _ (List.getElem_mem hl)
      rw [foldS_take hl]
      have h3 := plE_ge (M := M) (z := (foldS (l.take k)).1) (e := (foldS (l.take k)).2) (y := l[k].1) (f := l[k].2) (by omega) (by omega)
      refine ⟨by dsimp only; omega, ?_⟩
      show sc M (plZ _ _ _ _) (plE _ _ _ _) = _
      rw [sc_pl (by omega) (by omega), i2, List.take_succ_eq_append_getElem hl]
      unfold scS
      rw [List.map_append, List.sum_append]
      simp
  have := key l.length (Nat.le_refl _)
  rw [List.take_length] at this
  exact this

theorem sum_perm {l m : List Int} (h : l.Perm m) : l.sum = m.sum := by
  induction h with
  | nil => rfl
  | cons x _ ih => rw [List.sum_cons, List.sum_cons, ih]
  | swap x y l => rw [List.sum_cons, List.sum_cons, List.sum_cons, List.sum_cons]; omega
  | trans _ _ i1 i2 => exact i1.trans i2

/-- The exact sum, written in its one way, is the same in any order. -/
theorem foldS_perm {l m : List (Int × Int)} (h : l.Perm m) : hvZ (foldS l).1 = hvZ (foldS m).1 ∧ nrE (foldS l).1 (foldS l).2 = nrE (foldS m).1 (foldS m).2 := by
  obtain ⟨M, hM, hl⟩ : ∃ M : Int, 0 ≤ M ∧ ∀ t ∈ l, -M ≤ t.2 := by
    clear h
    induction l with
    | nil => exact ⟨0, by omega, fun t ht => by cases ht⟩
    | cons x l ih =>
      obtain ⟨M, h1, h2⟩ := ih
      refine ⟨M + x.2.natAbs, by omega, fun t ht => ?_⟩
      rcases List.mem_cons.1 ht with rfl | ht
      · omega
      · have := h2 t ht; omega
  obtain ⟨a1, a2⟩ := foldS_scS hM hl
  obtain ⟨b1, b2⟩ := foldS_scS hM fun t ht => hl t (h.mem_iff.2 ht)
  have hs : scS M l = scS M m := sum_perm (h.map _)
  exact nrm_unique (M := M) (nrm_hv _ _) (nrm_hv _ _) (by have := nrE_ge (z := (foldS l).1) hM (show 0 ≤ (foldS l).2 + M by omega); omega) (by have := nrE_ge (z := (foldS m).1) hM (show 0 ≤ (foldS m).2 + M by omega); omega)
    (by rw [sc_nr (by omega), sc_nr (by omega), a2, b2, hs])

theorem exB_perm {l m : List Nat} (h : l.Perm m) (hx : ∀ x ∈ l, x < 18446744073709551616) : exB l = exB m := by
  have h1 := foldS_perm (h.map (fun x => (valZ x, pE x)))
  unfold exB
  rw [spcF_perm h hx, ngtB_perm h, ← rndX_hv, ← rndX_hv]
  rw [show prs l = l.map (fun x => (valZ x, pE x)) from rfl, show prs m = m.map (fun x => (valZ x, pE x)) from rfl, h1.1, h1.2]

theorem meanB_perm {l m : List Nat} (h : l.Perm m) : meanB l = meanB m := by
  have h1 := foldS_perm (h.map (fun x => (valZ x, pE x)))
  unfold meanB
  rw [h.length_eq, all_perm h, ngtB_perm h]
  rw [show prs l = l.map (fun x => (valZ x, pE x)) from rfl, show prs m = m.map (fun x => (valZ x, pE x)) from rfl, h1.1, h1.2]

instance (t : Option Nat) : Decidable (Trm t) := by unfold Trm; infer_instance

theorem out_small {x : Nat} (hx : x < 18446744073709551616) : nanB (outB x) = true ∨ outB x ∈ [0, kSign, 4607182418800017408, kSign + 4607182418800017408, kInf, kSign + kInf] := by
  unfold outB
  split
  · cases sgnB x
    · exact .inr (by decide +kernel)
    · exact .inr (by decide +kernel)
  · rename_i h
    by_cases hf : finB x = true
    · have h0 : x % 9223372036854775808 = 0 := Classical.byContradiction fun h2 => h ⟨hf, h2⟩
      have : x = 0 ∨ x = 9223372036854775808 := by omega
      rcases this with rfl | rfl
      · exact .inr (by decide +kernel)
      · exact .inr (by decide +kernel)
    · have h1 := trm_of_spc hx (by rw [spcB_fin]; simpa using hf)
      rcases h1 with h1 | h1 | h1
      · exact .inl h1
      · exact .inr (by rw [Option.some.inj h1]; decide +kernel)
      · exact .inr (by rw [Option.some.inj h1]; decide +kernel)

theorem out_great {x : Nat} (hx : x < 18446744073709551616) (hf : finB x = false) : nanB (outB x) = true ∨ outB x ∈ [kInf, kSign + kInf] := by
  have e : outB x = x := by unfold outB; rw [if_neg (fun h => by rw [hf] at h; cases h.1)]
  rw [e]
  rcases trm_of_spc hx (by rw [spcB_fin, hf]; rfl) with h1 | h1 | h1
  · exact .inl h1
  · exact .inr (by rw [Option.some.inj h1]; decide +kernel)
  · exact .inr (by rw [Option.some.inj h1]; decide +kernel)

theorem mul_gs : ∀ u ∈ [kInf, kSign + kInf], ∀ v ∈ [0, kSign, 4607182418800017408, kSign + 4607182418800017408, kInf, kSign + kInf], Trm (oA .mul (some u) (some v)) := by decide +kernel
theorem mul_sg : ∀ u ∈ [0, kSign, 4607182418800017408, kSign + 4607182418800017408, kInf, kSign + kInf], ∀ v ∈ [kInf, kSign + kInf], Trm (oA .mul (some u) (some v)) := by decide +kernel

theorem trm_mul {a b : Nat} (ha : a < 18446744073709551616) (hb : b < 18446744073709551616) (h : (finB a && finB b) = false) : Trm (oA .mul (some (outB a)) (some (outB b))) := by
  have hn1 : nanB (outB a) = true → Trm (oA .mul (some (outB a)) (some (outB b))) := fun h => by rw [oA_nan_l (s := some (outB a)) h]; exact .inl rfl
  have hn2 : nanB (outB b) = true → Trm (oA .mul (some (outB a)) (some (outB b))) := fun h => by rw [oA_nan (t := some (outB b)) h]; exact .inl rfl
  rw [Bool.and_eq_false_iff] at h
  rcases h with h | h
  · rcases out_great ha h with h1 | h1
    · exact hn1 h1
    · rcases out_small hb with h2 | h2
      · exact hn2 h2
      · exact mul_gs _ h1 _ h2
  · rcases out_great hb h with h1 | h1
    · exact hn2 h1
    · rcases out_small ha with h2 | h2
      · exact hn1 h2
      · exact mul_sg _ h2 _ h1

/-- The products that are no finite numbers, of a list of pairs. -/
def trsZ (Z : List (Nat × Nat)) : List (Option Nat) := (Z.filter fun t => !(finB t.1 && finB t.2)).map fun t => oA .mul (some (outB t.1)) (some (outB t.2))
def pairL (l m : List Nat) (i : Nat) : Nat × Nat := (l.getD i 0, m.getD i 0)

theorem dspU_eq (l m : List Nat) (k : Nat) : dspU l m k = ((trsZ ((List.range k).map (pairL l m))).foldl (oA .add) (some 0), ((List.range k).map (pairL l m)).any fun t => !(finB t.1 && finB t.2)) := by
  induction k with
  | zero => rfl
  | succ k ih =>
    show (if finB (l.getD k 0) && finB (m.getD k 0) then dspU l m k else _) = _
    rw [List.range_succ, List.map_append, List.any_append]
    unfold trsZ at ih ⊢
    rw [List.filter_append, List.map_append, List.foldl_append]
    show _ = (List.foldl _ _ (List.map _ (List.filter _ [pairL l m k])), _ || List.any [pairL l m k] _)
    by_cases h : (finB (l.getD k 0) && finB (m.getD k 0)) = true
    · rw [if_pos h, ih]
      have e : (!(finB (pairL l m k).1 && finB (pairL l m k).2)) = false := by show (!(finB (l.getD k 0) && finB (m.getD k 0))) = false; rw [h]; rfl
      simp only [List.filter_cons, e, List.any_cons, List.any_nil, Bool.or_false, List.filter_nil]
      rfl
    · rw [if_neg h, ih]
      have e : (!(finB (pairL l m k).1 && finB (pairL l m k).2)) = true := by
        show (!(finB (l.getD k 0) && finB (m.getD k 0))) = true
        rw [show (finB (l.getD k 0) && finB (m.getD k 0)) = false by simpa using h]; rfl
      simp only [List.filter_cons, e, List.any_cons, List.any_nil, Bool.or_true, Bool.true_or, if_true, List.filter_nil, List.map_cons, List.map_nil, List.foldl_cons, List.foldl_nil]
      rfl

theorem dts_eq {l m : List Nat} (h : l.length = m.length) : dts l m = ((List.range l.length).map (pairL l m)).map fun t => (valZ t.1 * valZ t.2, pE t.1 + pE t.2) := by
  refine List.ext_getElem (by rw [dts_length h]; simp) fun i h1 h2 => ?_
  have h3 : i < l.length := by rw [dts_length h] at h1; exact h1
  rw [dts_get h3 (by omega) h1]
  simp [pairL, List.getD_eq_getElem?_getD, List.getElem?_eq_getElem h3, List.getElem?_eq_getElem (show i < m.length by omega)]

/-- The exact dot product is the same in any order of the pairs. -/
theorem dexB_perm {l m p q : List Nat} (hlm : l.length = m.length) (hpq : p.length = q.length) (hl : ∀ x ∈ l, x < 18446744073709551616) (hm : ∀ x ∈ m, x < 18446744073709551616)
    (h : ((List.range p.length).map (pairL p q)).Perm ((List.range l.length).map (pairL l m))) : dexB p q = dexB l m := by
  have hb : ∀ t ∈ (List.range l.length).map (pairL l m), t.1 < 18446744073709551616 ∧ t.2 < 18446744073709551616 := by
    intro t ht
    obtain ⟨i, hi, rfl⟩ := List.mem_map.1 ht
    have hi' : i < l.length := List.mem_range.1 hi
    refine ⟨?_, ?_⟩
    · show l.getD i 0 < _
      rw [List.getD_eq_getElem?_getD, List.getElem?_eq_getElem hi']; exact hl _ (List.getElem_mem _)
    · show m.getD i 0 < _
      rw [List.getD_eq_getElem?_getD, List.getElem?_eq_getElem (show i < m.length by omega)]; exact hm _ (List.getElem_mem _)
  have ht : ∀ Z : List (Nat × Nat), (∀ t ∈ Z, t.1 < 18446744073709551616 ∧ t.2 < 18446744073709551616) → ∀ t ∈ trsZ Z, Trm t := by
    intro Z hZ t ht
    obtain ⟨x, hx, rfl⟩ := List.mem_map.1 ht
    obtain ⟨h1, h2⟩ := List.mem_filter.1 hx
    exact trm_mul (hZ x h1).1 (hZ x h1).2 (by rw [Bool.not_eq_true'] at h2; exact h2)
  unfold dexB
  rw [dspU_eq p q, dspU_eq l m, dts_eq hpq, dts_eq hlm]
  generalize (List.range p.length).map (pairL p q) = Y at *
  generalize (List.range l.length).map (pairL l m) = Z at *
  have h1 := foldS_perm (h.map (fun t => (valZ t.1 * valZ t.2, pE t.1 + pE t.2)))
  rw [oSum_eq (ht Y fun t k => hb t (h.mem_iff.1 k)), oSum_eq (ht Z hb), any_perm h, oSp_perm (T := trsZ Y) (U := trsZ Z) ((h.filter _).map _), ← rndX_hv, ← rndX_hv, h1.1, h1.2]

end Go.Proofs.YtphaikdbldfpaaaGreatDoor
end

/- Walk: the law's shuffled. Printed by wip/gen/no2.py. -/
section
namespace Go.Proofs.YtphaikdbldfpaaaGreatDoor
open Go.RowKit

/-- Two own rows do not lie in one block. -/
def NeB (u v : Value) : Prop := ∀ g, u.ownBlock = some g → v.ownBlock ≠ some g
theorem NeB.symm {u v : Value} (h : NeB u v) : NeB v u := fun g h1 h2 => h g h2 h1
theorem NeB.nil_r (u : Value) : NeB u (.slice none 0 0) := fun g _ h => by simp [Value.ownBlock] at h

theorem row_kept {wr w' : World} {B t n : Nat} {u v : Value} {xs : List Value} (h : wr.ownsRow B t 1 v n xs) (hg : wr.grownBy w' u.ownBlock) (hne : NeB u v) : w'.ownsRow B t 1 v n xs := by
  refine h.kept hg ?_
  cases hv : v.ownBlock with
  | none => exact .inl rfl
  | some g => exact .inr fun e => hne g e.symm hv

theorem ne_step {wr : World} {B t n : Nat} {u u' v : Value} {xs : List Value} (hne : NeB u v) (h : wr.ownsRow B t 1 v n xs) (h5 : u'.ownBlock = u.ownBlock ∨ u'.ownBlock = some wr.heap.size) : NeB u' v := by
  intro g h1 h2
  rcases h5 with h5 | h5
  · exact hne g (h5 ▸ h1) h2
  · have := (h.lt g h2).2
    rw [h5] at h1
    have := Option.some.inj h1
    omega

/-- Four own rows: what is left, their places, what is out, its places. -/
structure Sh4 (w0 wr : World) (vl va vo vr : Value) (nl na no nr : Nat) (xl xa xo xr : List Value) : Prop where
  l : wr.ownsRow w0.heap.size 34 1 vl nl xl
  a : wr.ownsRow w0.heap.size 3 1 va na xa
  o : wr.ownsRow w0.heap.size 34 1 vo no xo
  r : wr.ownsRow w0.heap.size 3 1 vr nr xr
  la : NeB vl va
  lo : NeB vl vo
  lr : NeB vl vr
  ao : NeB va vo
  ar : NeB va vr
  or : NeB vo vr
  below : Below w0.heap.size w0 wr

theorem Sh4.later {w0 wr w2 : World} {vl va vo vr : Value} {nl na no nr : Nat} {xl xa xo xr : List Value} (h : Sh4 w0 wr vl va vo vr nl na no nr xl xa xo xr) (hb : Below wr.heap.size wr w2) : Sh4 w0 w2 vl va vo vr nl na no nr xl xa xo xr :=
  have k := fun {t n v xs} (h : wr.ownsRow w0.heap.size t 1 v n xs) => h.kept (grown_of_below hb) (by cases v.ownBlock <;> simp)
  ⟨k h.l, k h.a, k h.o, k h.r, h.la, h.lo, h.lr, h.ao, h.ar, h.or, h.below.trans (hb.mono h.below.size)⟩

theorem Sh4.put_l {w0 wr w2 : World} {vl va vo vr v' : Value} {nl na no nr n' : Nat} {xl xa xo xr x' : List Value} (h : Sh4 w0 wr vl va vo vr nl na no nr xl xa xo xr) (hg : wr.grownBy w2 vl.ownBlock) (ho : w2.ownsRow w0.heap.size 34 1 v' n' x')
    (h5 : v'.ownBlock = vl.ownBlock ∨ v'.ownBlock = some wr.heap.size) : Sh4 w0 w2 v' va vo vr n' na no nr x' xa xo xr :=
  ⟨ho, row_kept h.a hg h.la, row_kept h.o hg h.lo, row_kept h.r hg h.lr, ne_step h.la h.a h5, ne_step h.lo h.o h5, ne_step h.lr h.r h5, h.ao, h.ar, h.or, h.below.grown hg h.below.size fun k hk => (h.l.lt k hk).1⟩

theorem Sh4.put_a {w0 wr w2 : World} {vl va vo vr v' : Value} {nl na no nr n' : Nat} {xl xa xo xr x' : List Value} (h : Sh4 w0 wr vl va vo vr nl na no nr xl xa xo xr) (hg : wr.grownBy w2 va.ownBlock) (ho : w2.ownsRow w0.heap.size 3 1 v' n' x')
    (h5 : v'.ownBlock = va.ownBlock ∨ v'.ownBlock = some wr.heap.size) : Sh4 w0 w2 vl v' vo vr nl n' no nr xl x' xo xr :=
  ⟨row_kept h.l hg h.la.symm, ho, row_kept h.o hg h.ao, row_kept h.r hg h.ar, (ne_step h.la.symm h.l h5).symm, h.lo, h.lr, ne_step h.ao h.o h5, ne_step h.ar h.r h5, h.or, h.below.grown hg h.below.size fun k hk => (h.a.lt k hk).1⟩

theorem Sh4.put_o {w0 wr w2 : World} {vl va vo vr v' : Value} {nl na no nr n' : Nat} {xl xa xo xr x' : List Value} (h : Sh4 w0 wr vl va vo vr nl na no nr xl xa xo xr) (hg : wr.grownBy w2 vo.ownBlock) (ho : w2.ownsRow w0.heap.size 34 1 v' n' x')
    (h5 : v'.ownBlock = vo.ownBlock ∨ v'.ownBlock = some wr.heap.size) : Sh4 w0 w2 vl va v' vr nl na n' nr xl xa x' xr :=
  ⟨row_kept h.l hg h.lo.symm, row_kept h.a hg h.ao.symm, ho, row_kept h.r hg h.or, h.la, (ne_step h.lo.symm h.l h5).symm, h.lr, (ne_step h.ao.symm h.a h5).symm, h.ar, ne_step h.or h.r h5, h.below.grown hg h.below.size fun k hk => (h.o.lt k hk).1⟩

theorem Sh4.put_r {w0 wr w2 : World} {vl va vo vr v' : Value} {nl na no nr n' : Nat} {xl xa xo xr x' : List Value} (h : Sh4 w0 wr vl va vo vr nl na no nr xl xa xo xr) (hg : wr.grownBy w2 vr.ownBlock) (ho : w2.ownsRow w0.heap.size 3 1 v' n' x')
    (h5 : v'.ownBlock = vr.ownBlock ∨ v'.ownBlock = some wr.heap.size) : Sh4 w0 w2 vl va vo v' nl na no n' xl xa xo x' :=
  ⟨row_kept h.l hg h.lr.symm, row_kept h.a hg h.ar.symm, row_kept h.o hg h.or.symm, ho, h.la, h.lo, (ne_step h.lr.symm h.l h5).symm, h.ao, (ne_step h.ar.symm h.a h5).symm, (ne_step h.or.symm h.o h5).symm, h.below.grown hg h.below.size fun k hk => (h.r.lt k hk).1⟩

/-- The beginning of an own row. -/
theorem owns_take {w : World} {base t n cap : Nat} {ad : Option Addr} {xs : List Value} (h : w.ownsRow base t 1 (.slice ad n cap) n xs) (h0 : ad ≠ none) {i : Nat} (hi : i ≤ n) : w.ownsRow base t 1 (.slice ad i cap) i (xs.take i) := by
  obtain ⟨h1, ⟨h2, -⟩ | ⟨g, c, cur, h2, h3, h4, h5, h6, h7, h8⟩⟩ := h
  · simp only [Value.slice.injEq] at h2; exact absurd h2.1 h0
  · simp only [Value.slice.injEq] at h2
    obtain ⟨rfl, -, rfl⟩ := h2
    refine ⟨by rw [List.length_take]; omega, .inr ⟨g, cap, cur, rfl, h3, h4, by omega, h6, h7, ?_⟩⟩
    rw [← h8, List.take_take, Nat.min_eq_left (by omega), Nat.mul_one]

theorem Tryz.info3 : (Tryz.prog.info? 3).map (fun i => (i.zero, i.size, i.bytes)) = some (some (.int .i64 0), 1, 8) := by kernel_rfl

/-- Numbers as cells. -/
def u64V (l : List Nat) : List Value := l.map fun x : Nat => Value.int .u64 (x : Int)
def intV (l : List Nat) : List Value := l.map fun i : Nat => Value.int .i64 (i : Int)
theorem u64V_len (l : List Nat) : (u64V l).length = l.length := by unfold u64V; simp
theorem intV_len (l : List Nat) : (intV l).length = l.length := by unfold intV; simp

/-- A slice of numbers of kind int. -/
def ISl (w : World) (v : Value) (l : List Int) : Prop :=
  ∃ ao cap, v = .slice ao l.length cap ∧ l.length ≤ cap ∧ l.length ≤ 1099511627776 ∧ (∀ x ∈ l, -9223372036854775808 ≤ x ∧ x ≤ 9223372036854775807) ∧
    (0 < l.length → ∃ b off, ao = some ⟨b, off, none⟩ ∧ b < w.heap.size ∧ ∀ i (h : i < l.length), w.cell? ⟨b, off + i, none⟩ = some (.int .i64 l[i]))

theorem ISl.below {w w' : World} {v : Value} {l : List Int} (h : ISl w v l) (hb : Below w.heap.size w w') : ISl w' v l := by
  obtain ⟨ao, cap, h1, h2, h3, h4, h5⟩ := h
  refine ⟨ao, cap, h1, h2, h3, h4, fun h0 => ?_⟩
  obtain ⟨b, off, e, hlt, hc⟩ := h5 h0
  exact ⟨b, off, e, Nat.lt_of_lt_of_le hlt hb.size, fun i hi => (hb.cell (p := ⟨b, off + i, none⟩) hlt).trans (hc i hi)⟩

/-- A copy of a list in new memory. -/
theorem clone_run (ao : Option Addr) (cap : Nat) (l : List Nat) (w : World) (hl : USl w (.slice ao l.length cap) l) (hn : l.length ≤ 600) :
    ∃ v w', (Builtin.append_ #[22, 22] 22 #[.slice none 0 0, .slice ao l.length cap]).run Tryz.prog w = .ok v w' ∧ w'.ownsRow w.heap.size 34 1 v l.length (u64V l) ∧ Below w.heap.size w w' := by
  obtain ⟨i0, hi, hz0, hz1, hz2⟩ := info_parts Tryz.info34
  obtain ⟨ao', cap', hv, -, -, -, hc⟩ := hl
  simp only [Value.slice.injEq] at hv
  obtain ⟨rfl, -, rfl⟩ := hv
  by_cases h0 : 0 < l.length
  · obtain ⟨b, off, rfl, hb, hc⟩ := hc h0
    obtain ⟨v', w', hr, h2, h3, -, -⟩ := run_append_own_at (P := Tryz.prog) w w.heap.size 22 22 34 i0 (.int .u64 0) 1 8 Tryz.underlying22 hi hz0 hz1 hz2 rfl (by decide) (.slice none 0 0) 0 [] (World.ownsRow_nil _ _ _ _) ⟨b, off, none⟩ l.length cap (u64V l)
      (by rw [u64V_len, Nat.mul_one]) (by
        intro j u hu
        unfold u64V at hu
        rw [List.getElem?_map] at hu
        by_cases hj : j < l.length
        · rw [List.getElem?_eq_getElem hj] at hu
          simp only [Option.map_some, Option.some.injEq] at hu
          rw [← hu, ← hc j hj]
          unfold Addr.add
          by_cases hj0 : j = 0
          · subst hj0; simp
          · rw [if_neg hj0]
        · rw [List.getElem?_eq_none (by omega)] at hu; simp at hu)
      (by
        intro u hu
        obtain ⟨x, -, rfl⟩ := List.mem_map.1 hu
        rfl) (by unfold maxLen; omega) (by omega) (Nat.le_refl _)
    rw [Nat.zero_add, List.nil_append] at h2
    exact ⟨v', w', hr, h2, (Below.refl _ _).grown h3 (Nat.le_refl _) (fun k hk => by simp [Value.ownBlock] at hk)⟩
  · have hl0 : l = [] := List.eq_nil_of_length_eq_zero (by omega)
    subst hl0
    refine ⟨.slice none 0 0, w, ?_, by show w.ownsRow w.heap.size _ 1 _ 0 []; exact World.ownsRow_nil _ _ _ _, Below.refl _ _⟩
    cases ao <;> simp [Builtin.append_, go_sem]

/-- A beginning and what stands behind the next one. -/
theorem u64V_cut (l : List Nat) (i : Nat) : u64V (l.take i ++ l.drop (i + 1)) = (u64V l).take i ++ (u64V l).drop (i + 1) := by unfold u64V; rw [List.map_append, List.map_take, List.map_drop]
theorem intV_cut (l : List Nat) (i : Nat) : intV (l.take i ++ l.drop (i + 1)) = (intV l).take i ++ (intV l).drop (i + 1) := by unfold intV; rw [List.map_append, List.map_take, List.map_drop]

theorem one_u64V (l : List Nat) : ∀ u ∈ u64V l, u.oneCell' = true := by
  intro u hu
  obtain ⟨x, -, rfl⟩ := List.mem_map.1 hu
  rfl
theorem one_intV (l : List Nat) : ∀ u ∈ intV l, u.oneCell' = true := by
  intro u hu
  obtain ⟨x, -, rfl⟩ := List.mem_map.1 hu
  rfl

theorem owns_tail {w : World} {base t n g cap : Nat} {xs : List Value} (h : w.ownsRow base t 1 (.slice (some ⟨g, 0, none⟩) n cap) n xs) (i : Nat) : ∀ j u, (xs.drop i)[j]? = some u → w.cell? ((⟨g, i, none⟩ : Addr).add j) = some u := by
  intro j u hu
  rw [List.getElem?_drop] at hu
  have hl : i + j < xs.length := (List.getElem?_eq_some_iff.1 hu).1
  have := h.cellAt (i + j) (by have := h.1; omega)
  rw [hu] at this
  rw [← this]
  unfold Addr.add
  by_cases hj : j = 0
  · subst hj; simp
  · rw [if_neg hj]

theorem owns_cap {w : World} {base t n cap : Nat} {ad : Option Addr} {xs : List Value} (h : w.ownsRow base t 1 (.slice ad n cap) n xs) : n ≤ cap := by
  obtain ⟨h1, ⟨h2, h3⟩ | ⟨g, c, cur, h2, h3, h4, h5, h6, h7, h8⟩⟩ := h
  · omega
  · simp only [Value.slice.injEq] at h2
    obtain ⟨-, -, rfl⟩ := h2
    exact h5

theorem owns_form {w : World} {base t n cap : Nat} {ad : Option Addr} {xs : List Value} (h : w.ownsRow base t 1 (.slice ad n cap) n xs) (hn : 0 < n) : ∃ g, ad = some ⟨g, 0, none⟩ ∧ base ≤ g ∧ g < w.heap.size := by
  obtain ⟨h1, ⟨h2, h3⟩ | ⟨g, c, cur, h2, h3, h4, h5, h6, h7, h8⟩⟩ := h
  · omega
  · simp only [Value.slice.injEq] at h2
    exact ⟨g, h2.1, h3, (Array.getElem?_eq_some_iff.1 h4).1⟩

theorem perm_cut (ord lf : List Nat) (i : Nat) (h : i < lf.length) : ((ord ++ [lf[i]]) ++ (lf.take i ++ lf.drop (i + 1))).Perm (ord ++ lf) := by
  have e : lf = lf.take i ++ lf[i] :: lf.drop (i + 1) := by rw [← List.drop_eq_getElem_cons h, List.take_append_drop]
  rw [List.append_assoc]
  refine List.Perm.append_left ord ?_
  exact (List.perm_middle (l₁ := lf.take i) (a := lf[i]) (l₂ := lf.drop (i + 1))).symm.trans (by rw [← e])

theorem USl.of_ownsU {w : World} {base t : Nat} {v : Value} {l : List Nat} {n : Nat} (h : w.ownsRow base t 1 v n (u64V l)) (hn : l.length ≤ 1099511627776) (hx : ∀ x ∈ l, x < 18446744073709551616) : USl w v l := by
  have e : n = l.length := by have := h.1; rw [u64V_len] at this; omega
  subst e
  obtain ⟨h1, ⟨rfl, h0⟩ | ⟨g, cap, cur, rfl, hg, hh, hcap, hmax, hcs, ht⟩⟩ := id h
  · exact ⟨none, 0, by rw [h0], by omega, hn, hx, fun h => absurd h (by omega)⟩
  · refine ⟨_, cap, rfl, hcap, hn, hx, fun _ => ⟨g, 0, rfl, (Array.getElem?_eq_some_iff.1 hh).1, fun i hi => ?_⟩⟩
    rw [Nat.zero_add, h.cellAt i (by omega)]
    unfold u64V
    rw [List.getElem?_map, List.getElem?_eq_getElem hi]; rfl

theorem ISl.of_ownsI {w : World} {base t : Nat} {v : Value} {l : List Nat} {n : Nat} (h : w.ownsRow base t 1 v n (intV l)) (hn : l.length ≤ 1099511627776) (hx : ∀ x ∈ l, x < 9223372036854775808) : ISl w v (l.map fun i : Nat => (i : Int)) := by
  have e : n = l.length := by have := h.1; rw [intV_len] at this; omega
  subst e
  have hm : (l.map fun i : Nat => (i : Int)).length = l.length := by simp
  have hb : ∀ x ∈ (l.map fun i : Nat => (i : Int)), -9223372036854775808 ≤ x ∧ x ≤ 9223372036854775807 := by
    intro x hx'
    obtain ⟨y, hy, rfl⟩ := List.mem_map.1 hx'
    have := hx y hy
    exact ⟨by omega, by omega⟩
  obtain ⟨h1, ⟨rfl, h0⟩ | ⟨g, cap, cur, rfl, hg, hh, hcap, hmax, hcs, ht⟩⟩ := id h
  · exact ⟨none, 0, by rw [hm, h0], by omega, by omega, hb, fun h => absurd h (by omega)⟩
  · refine ⟨_, cap, by rw [hm], by omega, by omega, hb, fun _ => ⟨g, 0, rfl, (Array.getElem?_eq_some_iff.1 hh).1, fun i hi => ?_⟩⟩
    have hi' : i < l.length := by omega
    rw [Nat.zero_add, h.cellAt i (by omega)]
    unfold intV
    rw [List.getElem?_map, List.getElem?_eq_getElem hi']
    simp

/-- What shuffled answers: a list in another order, and the places. -/
def Shuf (l : List Nat) (w : World) (e : Ending) (w' : World) : Prop :=
  ∃ (u v : Value) (ord : List Nat), e = .returned (.tuple #[u, v]) ∧ ord.Perm (List.range l.length) ∧ USl w' u (ord.map fun i => l.getD i 0) ∧ ISl w' v (ord.map fun i : Nat => (i : Int)) ∧ Below w.heap.size w w'

set_option maxRecDepth 100000 in
set_option maxHeartbeats 1600000 in
theorem shuffled_any (v1 v2 : Value) (l : List Nat) (ps : List Int) (w : World) (hl : USl w v1 l) (hp : ISl w v2 ps) (hn : l.length ≤ 600) :
    Calls Tryz.prog 6 #[v1, v2] w (Shuf l w) := by
  obtain ⟨i0, hi, hz0, hz1, hz2⟩ := info_parts Tryz.info34
  obtain ⟨i1, hj, hy0, hy1, hy2⟩ := info_parts Tryz.info3
  have HX : Hid (∀ x ∈ l, x < 18446744073709551616) := Lib.hid hl.choose_spec.choose_spec.2.2.2.1
  have HP := Lib.hid hp
  have hcl := clone_run
  obtain ⟨ao, cap, rfl, -⟩ := id hl
  obtain ⟨bo, dap, rfl, -, hpl, -⟩ := id hp
  obtain ⟨vl, w1, hrun, hown, hbl⟩ := clone_run ao cap l w hl hn
  have HA := Lib.hid hrun
  have HS0 : Hid (Sh4 w w1 vl (.slice none 0 0) (.slice none 0 0) (.slice none 0 0) l.length 0 0 0 (u64V l) (intV (List.range 0)) [] []) :=
    Lib.hid ⟨hown, World.ownsRow_nil _ _ _ _, World.ownsRow_nil _ _ _ _, World.ownsRow_nil _ _ _ _, NeB.nil_r _, NeB.nil_r _, NeB.nil_r _, NeB.nil_r _, NeB.nil_r _, NeB.nil_r _, hbl⟩
  obtain ⟨al, cl, rfl⟩ := owns_shape hown
  clear hrun hown hbl hcl hl hp
  go_enter Tryz.func6, Tryz.ntmps6
  go_wp2_with (at_builtin; refine wpList_append_run rfl _ _ 22 rfl _ _ _ _ rfl rfl HA.out ?_)
  clear HA
  go_loopw [7, 17] (fun va i wr => ∃ k : Nat, k ≤ l.length ∧ i = .int .i64 k ∧ Hid (Sh4 w wr (.slice al l.length cl) va (.slice none 0 0) (.slice none 0 0) l.length k 0 0 (u64V l) (intV (List.range k)) [] [])) (fun _ i _ => l.length - (intOf i).toNat)
  case atStart => exact ⟨0, Nat.zero_le _, rfl, HS0⟩
  case round =>
    clear HS0
    obtain ⟨k, hk, rfl, HR⟩ := hrel
    obtain ⟨aa, ca, rfl⟩ := owns_shape HR.out.a
    by_cases hlt : k < l.length
    · have HR1 := Lib.hid fun o => HR.out.later (Below.alloc_self wr o)
      have HNW := Lib.hid fun W => cell_one_new W (.int .i64 (k : Nat)) 3
      go_wp2_with (at_builtin; refine wpList_append_own_at _ rfl _ _ 23 rfl w.heap.size 3 i1 (.int .i64 0) 1 8 Tryz.underlying23 hj hy0 hy1 hy2 rfl (by decide) _ _ _ rfl (HR1.out _).a ⟨_, 0, none⟩ 1 1 [.int .i64 (k : Nat)] rfl rfl (HNW.out _) ?c2 ?c3 ?c4 ?c5 ?_)
      case c2 => intro u hu; simp only [List.mem_singleton] at hu; subst hu; rfl
      case c3 => unfold maxLen; omega
      case c4 => omega
      case c5 => exact (HR1.out _).below.size
      intro v' U4 hown hgrow _ hob
      have hown2 : U4.ownsRow w.heap.size 3 1 v' (k + 1) (intV (List.range (k + 1))) := by
        have e : intV (List.range (k + 1)) = intV (List.range k) ++ [.int .i64 (k : Nat)] := by unfold intV; rw [List.range_succ, List.map_append]; rfl
        rw [e]; exact hown
      have HR2 := Lib.hid ((HR1.out _).put_a hgrow hown2 (hob.imp id fun h => by simpa using h))
      obtain ⟨ao', cap', hv'⟩ := owns_shape hown2
      rw [hv'] at HR2 ⊢
      clear hown hown2 hgrow hv' hob HNW HR1
      go_wp2
      go_roundw
      case rel => exact ⟨k + 1, by omega, by go_num, HR2⟩
      case measure => simp [intOf]; omega
    · obtain rfl : k = l.length := by omega
      have HS1 : Hid (Sh4 w wr (.slice al l.length cl) (.slice aa l.length ca) (.slice none 0 0) (.slice none 0 0) (List.range l.length).length (List.range l.length).length ([] : List Nat).length ([] : List Nat).length (u64V ((List.range l.length).map fun i => l.getD i 0)) (intV (List.range l.length)) (u64V (([] : List Nat).map fun i => l.getD i 0)) (intV [])) := by
        have e : (List.range l.length).map (fun i => l.getD i 0) = l := by
          refine List.ext_getElem (by simp) fun i h1 h2 => ?_
          simp [List.getD_eq_getElem?_getD, List.getElem?_eq_getElem h2]
        rw [e, List.length_range]
        exact HR
      clear HR hk hlt
      go_wp2_with fail
      go_loopw [6, 7, 9, 10, 11] (fun vl va vo vr kv wr => ∃ (at' ord : List Nat), ord.length + at'.length = l.length ∧ kv = .int .i64 ord.length ∧ Hid ((ord ++ at').Perm (List.range l.length)) ∧
          Hid (Sh4 w wr vl va vo vr at'.length at'.length ord.length ord.length (u64V (at'.map fun i => l.getD i 0)) (intV at') (u64V (ord.map fun i => l.getD i 0)) (intV ord)))
        (fun vl _ _ _ _ _ => (match vl with | .slice _ n _ => n | _ => 0))
      case atStart => exact ⟨List.range l.length, [], by simp, rfl, Lib.hid (by simp), HS1⟩
      case round =>
        clear HS1
        obtain ⟨lf, ord, hlen, rfl, HPM, HR⟩ := hrel
        obtain ⟨al, cl, rfl⟩ := owns_shape HR.out.l
        obtain ⟨aa, ca, rfl⟩ := owns_shape HR.out.a
        obtain ⟨bo', co, rfl⟩ := owns_shape HR.out.o
        obtain ⟨br, cr, rfl⟩ := owns_shape HR.out.r
        obtain ⟨m, hm⟩ : ∃ m, lf.length = m := ⟨_, rfl⟩
        obtain ⟨k, hk⟩ : ∃ k, ord.length = k := ⟨_, rfl⟩
        rw [hm, hk] at HR hlen ⊢
        by_cases h0 : m = 0
        · subst h0
          obtain rfl : lf = [] := List.eq_nil_of_length_eq_zero hm
          have HFIN : Hid (Shuf l w (.returned (.tuple #[.slice bo' k co, .slice br k cr])) wr) := by
            have hpm := HPM.out
            rw [List.append_nil] at hpm
            have hol : ord.length = l.length := by have := hpm.length_eq; simpa using this
            have hov : ∀ i ∈ ord, i < l.length := fun i hi => List.mem_range.1 (hpm.mem_iff.1 hi)
            refine Lib.hid ⟨_, _, ord, rfl, hpm, USl.of_ownsU HR.out.o (by rw [List.length_map]; omega) ?_, ISl.of_ownsI HR.out.r (by omega) (fun i hi => by have := hov i hi; omega), HR.out.below⟩
            intro x hx
            obtain ⟨i, hi, rfl⟩ := List.mem_map.1 hx
            have := hov i hi
            show l.getD i 0 < _
            rw [List.getD_eq_getElem?_getD, List.getElem?_eq_getElem this]
            exact HX.out _ (List.getElem_mem _)
          clear HR HPM
          go_wp2
          go_ret2
          exact HFIN.out
        · have hm0 : 0 < m := by omega
          go_upto_if 33 with fail
          go_cut [12] from 33 to 46 (fun s wx => ∃ i : Nat, i < m ∧ s = .int .i64 i ∧ wx = wr)
          case first =>
            by_cases hkp : k < ps.length
            · have HPC := Lib.hid (HP.out.below HR.out.below)
              obtain ⟨bo2, dap2, hbe, -, -, hps, hpc⟩ := HPC.out
              simp only [Value.slice.injEq] at hbe
              obtain ⟨rfl, -, rfl⟩ := hbe
              obtain ⟨b2, off2, rfl, hb2, hcc⟩ := hpc (by omega)
              have hcell := hcc k hkp
              have hpb := hps ps[k] (List.getElem_mem _)
              clear hcc hpc hps
              generalize ps[k] = pk at *
              obtain ⟨q, hq⟩ : ∃ q, pk.tmod (m : Int) = q := ⟨_, rfl⟩
              have hq1 : -(m : Int) < q ∧ q < (m : Int) := by
                rw [← hq]
                have h1 := Int.natAbs_tmod pk (m : Int)
                have h2 : pk.natAbs % m < m := Nat.mod_lt _ hm0
                simp only [Int.natAbs_natCast] at h1
                omega
              obtain ⟨i, hi3⟩ : ∃ i : Nat, (q + (m : Int)).tmod (m : Int) = (i : Int) := ⟨((q + m).tmod m).toNat, by rw [Int.toNat_of_nonneg (Int.tmod_nonneg _ (by omega))]⟩
              have hi4 : i < m := by
                have := Int.tmod_lt_of_pos (q + (m : Int)) (show (0 : Int) < m by omega)
                omega
              have hw1 : IntKind.i64.wrap q = q := IntWalk.i64_in _ (by omega)
              have hw2 : IntKind.i64.wrap (q + (m : Int)) = q + (m : Int) := IntWalk.i64_in _ (by omega)
              have hw3 : IntKind.i64.wrap (i : Int) = (i : Int) := IntWalk.i64_in _ (by omega)
              have hmz : ((m : Int) == 0) = false := by simp; omega
              have hmz2 : (m == 0) = false := by simp; omega
              go_wp2_with fail
              go_meet
              exact ⟨i, hi4, rfl, rfl⟩
            · go_wp2_with fail
              go_meet
              exact ⟨0, hm0, rfl, rfl⟩
          case rest =>
          obtain ⟨i, him, rfl, rfl⟩ := hcut
          obtain ⟨gl, rfl, hgl1, hgl2⟩ := owns_form HR.out.l hm0
          obtain ⟨ga, rfl, hga1, hga2⟩ := owns_form HR.out.a hm0
          have hil : i < lf.length := by omega
          have hcl : wc.cell? ⟨gl, i, none⟩ = some (.int .u64 (l.getD lf[i] 0 : Nat)) := by
            rw [HR.out.l.cellAt i (by omega)]
            unfold u64V
            rw [List.map_map, List.getElem?_map, List.getElem?_eq_getElem hil]; rfl
          have hca : wc.cell? ⟨ga, i, none⟩ = some (.int .i64 (lf[i] : Nat)) := by
            rw [HR.out.a.cellAt i (by omega)]
            unfold intV
            rw [List.getElem?_map, List.getElem?_eq_getElem hil]; rfl
          have HPM2 := Lib.hid ((perm_cut ord lf i hil).trans HPM.out)
          obtain ⟨y, hy⟩ : ∃ y, lf[i] = y := ⟨_, rfl⟩
          rw [hy] at hcl hca HPM2
          obtain ⟨x, hx⟩ : ∃ x, l.getD y 0 = x := ⟨_, rfl⟩
          rw [hx] at hcl
          have HXY := Lib.hid hx
          have hca2 := Lib.hid hca
          clear hx hy HPM
          have HR1 := Lib.hid fun o => HR.out.later (Below.alloc_self wc o)
          have HNW := Lib.hid fun W => cell_one_new W (.int .u64 (x : Nat)) 34
          go_wp2_with (at_builtin; refine wpList_append_own_at _ rfl _ _ 22 rfl w.heap.size 34 i0 (.int .u64 0) 1 8 Tryz.underlying22 hi hz0 hz1 hz2 rfl (by decide) _ _ _ rfl (HR1.out _).o ⟨_, 0, none⟩ 1 1 [.int .u64 (x : Nat)] rfl rfl (HNW.out _) ?c2 ?c3 ?c4 ?c5 ?_)
          case c2 => intro u hu; simp only [List.mem_singleton] at hu; subst hu; rfl
          case c3 => unfold maxLen; omega
          case c4 => omega
          case c5 => exact (HR1.out _).below.size
          intro v' U4 hown hgrow _ hob
          have hown2 : U4.ownsRow w.heap.size 34 1 v' (k + 1) (u64V ((ord ++ [y]).map fun i => l.getD i 0)) := by
            have e : u64V ((ord ++ [y]).map fun i => l.getD i 0) = u64V (ord.map fun i => l.getD i 0) ++ [.int .u64 (x : Nat)] := by unfold u64V; rw [List.map_append, List.map_append, ← HXY.out]; rfl
            rw [e]; exact hown
          have HR2 := Lib.hid ((HR1.out _).put_o hgrow hown2 (hob.imp id fun h => by simpa using h))
          have hcb : U4.cell? ⟨ga, i, none⟩ = some (.int .i64 (y : Nat)) := by
            have h1 := HR2.out.a.cellAt i (by omega)
            have h2 := HR.out.a.cellAt i (by omega)
            rw [h1, ← h2]; exact hca2.out
          obtain ⟨ao', cap', hv'⟩ := owns_shape hown2
          rw [hv'] at HR2 ⊢
          clear hown hown2 hgrow hv' hob HNW HR1 hcl hca HR
          have HR3 := Lib.hid fun o => HR2.out.later (Below.alloc_self U4 o)
          have HNW := Lib.hid fun W => cell_one_new W (.int .i64 (y : Nat)) 3
          go_wp2_with (at_builtin; refine wpList_append_own_at _ rfl _ _ 23 rfl w.heap.size 3 i1 (.int .i64 0) 1 8 Tryz.underlying23 hj hy0 hy1 hy2 rfl (by decide) _ _ _ rfl (HR3.out _).r ⟨_, 0, none⟩ 1 1 [.int .i64 (y : Nat)] rfl rfl (HNW.out _) ?c2 ?c3 ?c4 ?c5 ?_)
          case c2 => intro u hu; simp only [List.mem_singleton] at hu; subst hu; rfl
          case c3 => unfold maxLen; omega
          case c4 => omega
          case c5 => exact (HR3.out _).below.size
          intro v' U5 hown hgrow _ hob
          have hown2 : U5.ownsRow w.heap.size 3 1 v' (k + 1) (intV (ord ++ [y])) := by
            have e : intV (ord ++ [y]) = intV ord ++ [.int .i64 (y : Nat)] := by unfold intV; rw [List.map_append]; rfl
            rw [e]; exact hown
          have HR4 := Lib.hid ((HR3.out _).put_r hgrow hown2 (hob.imp id fun h => by simpa using h))
          obtain ⟨ao'', cap'', hv'⟩ := owns_shape hown2
          rw [hv'] at HR4 ⊢
          clear hown hown2 hgrow hv' hob HNW HR3 HR2 hcb hca2
          have hcapl : m ≤ cl := owns_cap HR4.out.l
          have hcapa : m ≤ ca := owns_cap HR4.out.a
          have hb1 : i ≤ cl := by omega
          have hb2 : (i : Int) ≤ (cl : Int) := by omega
          have hb3 : i + 1 ≤ m := by omega
          have hb4 : (i : Int) + 1 ≤ (m : Int) := by omega
          have hb5 : (m : Int) ≤ (cl : Int) := by omega
          have hb6 : i ≤ ca := by omega
          have hb7 : (i : Int) ≤ (ca : Int) := by omega
          have hb8 : (m : Int) ≤ (ca : Int) := by omega
          have hb9 : 0 ≤ (i : Int) + 1 := by omega
          obtain ⟨ad, had, HAD⟩ : ∃ ad, (if cl = i + 1 then some (⟨gl, 0, none⟩ : Addr) else some ⟨gl, i + 1, none⟩) = some ad ∧ Hid (i + 1 = m ∨ ad = ⟨gl, i + 1, none⟩) := by
            by_cases h : cl = i + 1
            · exact ⟨_, if_pos h, Lib.hid (.inl (by omega))⟩
            · exact ⟨_, if_neg h, Lib.hid (.inr rfl)⟩
          obtain ⟨ae, hae, HAE⟩ : ∃ ae, (if ca = i + 1 then some (⟨ga, 0, none⟩ : Addr) else some ⟨ga, i + 1, none⟩) = some ae ∧ Hid (i + 1 = m ∨ ae = ⟨ga, i + 1, none⟩) := by
            by_cases h : ca = i + 1
            · exact ⟨_, if_pos h, Lib.hid (.inl (by omega))⟩
            · exact ⟨_, if_neg h, Lib.hid (.inr rfl)⟩
          have hwi : IntKind.i64.wrap ((i : Int) + 1) = (i : Int) + 1 := IntWalk.i64_in _ (by omega)
          go_wp2_with fail
          refine wp_region_pl (fun _ : World => True) 7 (.take 0 (.take 1 (.take 2 (.take 3 (.take 4 (.take 5 (.take 6 .nil))))))) (by kernel_rfl) (by kernel_rfl) ?_
          have hS : (fun _ : World => True) U5.drew := trivial
          repeat (refine wpPl_takeL (v := ?_) rfl rfl (fun _ _ _ h => h) rfl (fun w' hSw => ?_) hS ?_; rotate_left; (focus (go_simp; with_reducible rfl)); simp only [List.setIfInBounds_toArray, List.set_cons_zero, List.set_cons_succ])
          clear hS
          refine wpPl_nil ?_
          simp only [List.drop_succ_cons, List.drop_zero]
          have HR5 := Lib.hid (HR4.out.later (drew_below U5))
          generalize U5.drew = W5 at HR5 ⊢
          go_wp2_with (at_builtin; refine wpList_append_own_at _ rfl _ _ 22 rfl w.heap.size 34 i0 (.int .u64 0) 1 8 Tryz.underlying22 hi hz0 hz1 hz2 rfl (by decide) _ _ _ rfl (owns_take HR5.out.l (by simp) (Nat.le_of_lt him)) ad (m - (i + 1)) _ ((u64V (lf.map fun i => l.getD i 0)).drop (i + 1)) rfl ?c2 ?c3 ?c4 ?c5 ?c6 ?c7 ?_)
          case c2 => rw [List.length_drop, u64V_len, List.length_map, hm]; omega
          case c3 =>
            rcases HAD.out with h | h
            · intro j u hu
              rw [List.drop_of_length_le (by rw [u64V_len, List.length_map, hm]; omega)] at hu
              simp at hu
            · rw [h]; exact owns_tail HR5.out.l (i + 1)
          case c4 => exact fun u hu => one_u64V _ u (List.mem_of_mem_drop hu)
          case c5 => unfold maxLen; omega
          case c6 => omega
          case c7 => exact HR5.out.below.size
          intro v' U6 hown hgrow _ hob
          rw [← u64V_cut, ← List.map_take, ← List.map_drop, ← List.map_append] at hown
          rw [show i + (m - (i + 1)) = m - 1 from by omega] at hown
          have HR6 := Lib.hid (HR5.out.put_l hgrow hown (by simpa [Value.ownBlock] using hob))
          obtain ⟨ap5, cap5, hv'⟩ := owns_shape hown
          rw [hv'] at HR6 ⊢
          clear hown hgrow hv' hob HR5 HR4
          go_wp2_with fail
          refine wp_region_pl (fun _ : World => True) 7 (.take 0 (.take 1 (.take 2 (.take 3 (.take 4 (.take 5 (.take 6 .nil))))))) (by kernel_rfl) (by kernel_rfl) ?_
          have hS : (fun _ : World => True) U6.drew := trivial
          repeat (refine wpPl_takeL (v := ?_) rfl rfl (fun _ _ _ h => h) rfl (fun w' hSw => ?_) hS ?_; rotate_left; (focus (go_simp; with_reducible rfl)); simp only [List.setIfInBounds_toArray, List.set_cons_zero, List.set_cons_succ])
          clear hS
          refine wpPl_nil ?_
          simp only [List.drop_succ_cons, List.drop_zero]
          have HR7 := Lib.hid (HR6.out.later (drew_below U6))
          generalize U6.drew = W7 at HR7 ⊢
          go_wp2_with (at_builtin; refine wpList_append_own_at _ rfl _ _ 23 rfl w.heap.size 3 i1 (.int .i64 0) 1 8 Tryz.underlying23 hj hy0 hy1 hy2 rfl (by decide) _ _ _ rfl (owns_take HR7.out.a (by simp) (Nat.le_of_lt him)) ae (m - (i + 1)) _ ((intV lf).drop (i + 1)) rfl ?c2 ?c3 ?c4 ?c5 ?c6 ?c7 ?_)
          case c2 => rw [List.length_drop, intV_len, hm]; omega
          case c3 =>
            rcases HAE.out with h | h
            · intro j u hu
              rw [List.drop_of_length_le (by rw [intV_len, hm]; omega)] at hu
              simp at hu
            · rw [h]; exact owns_tail HR7.out.a (i + 1)
          case c4 => exact fun u hu => one_intV _ u (List.mem_of_mem_drop hu)
          case c5 => unfold maxLen; omega
          case c6 => omega
          case c7 => exact HR7.out.below.size
          intro v' U7 hown hgrow _ hob
          rw [← intV_cut] at hown
          rw [show i + (m - (i + 1)) = m - 1 from by omega] at hown
          have HR8 := Lib.hid (HR7.out.put_a hgrow hown (by simpa [Value.ownBlock] using hob))
          obtain ⟨ap7, cap7, hv'⟩ := owns_shape hown
          rw [hv'] at HR8 ⊢
          clear hown hgrow hv' hob HR7 HR6
          go_wp2_with fail
          go_roundw
          case rel => exact ⟨lf.take i ++ lf.drop (i + 1), ord ++ [y], by simp; omega, by rw [List.length_append, hk]; simp, HPM2, by
            have e1 : (lf.take i ++ lf.drop (i + 1)).length = m - 1 := by simp; omega
            have e2 : (ord ++ [y]).length = k + 1 := by simp; omega
            rw [e1, e2]; exact HR8⟩
          case measure => exact Nat.sub_lt hm0 (by decide)

end Go.Proofs.YtphaikdbldfpaaaGreatDoor
end
