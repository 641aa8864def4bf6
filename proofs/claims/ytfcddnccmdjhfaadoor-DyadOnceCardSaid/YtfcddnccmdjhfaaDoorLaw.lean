/- A law for a statement whose order is left open: what only reads (and reads the same in every world that meets S) is taken first; calls that make memory and keep S come next; what waits for all of these ends it, one behind the other. -/
import Derived.OrdersHeld
import Derived.StillTail
import Derived.Tactics
import Derived.WalkKit
namespace Go.Proofs.YtfcddnccmdjhfaaDoor
open Go

section
variable {P : Program} {ops : Array Oper} {Q : Exit → Act → World → Prop} {S : World → Prop} {md : Region.Mode}

/-- As 'wpAny'; S is shown behind each operation below n. -/
def wpAnyT (P : Program) (md : Region.Mode) (ops : Array Oper) (Q : Exit → Act → World → Prop) (S : World → Prop) (n : Nat) : Nat → Array Bool → Act → World → Prop
  | 0, listed, a, w => Region.ready md ops listed = [] ∧ Q .normal a w
  | fuel + 1, listed, a, w =>
    (Region.ready md ops listed = [] → Q .normal a w) ∧
    ∀ i ∈ Region.ready md ops listed, wpOp P ops Q i (fun a' w' => (i < n → S w') ∧ wpAnyT P md ops Q S n fuel (listed.setIfInBounds i true) a' w') a w

theorem wpAny_of_T {n : Nat} : ∀ (fuel : Nat) (listed : Array Bool) (a : Act) (w : World), wpAnyT P md ops Q S n fuel listed a w → wpAny P md ops Q fuel listed a w
  | 0, _, _, _, h => h
  | fuel + 1, _, _, _, h => ⟨h.1, fun i hi => wpOp_mono (fun a' w' h' => wpAny_of_T fuel _ a' w' h'.2) (h.2 i hi)⟩

theorem wpAnyT_first {n i : Nat} {oi : Oper} {v : Value} (hi : ops[i]? = some oi) (hsel : ∀ (j : Nat) (o : Oper) cs b, ops[j]? = some o → o.op ≠ .select cs b)
    (hQ : ∀ c a w, Q (.panic c) (a.put oi.dst v) w → Q (.panic c) a w) (hs : Region.sinkB md ops n = true) (hc : Region.chainB md ops n = true) (hn : n < ops.size) (hin : i < n) :
    ∀ (fuel : Nat) (listed : Array Bool) (a : Act) (w : World), HeadInv md ops n listed →
      (∀ j oj, ops[j]? = some oj → j ≠ i → listed.getD j true = false → (∀ e ∈ oj.after, Region.binds md e = true → e.on ≠ i) → oi.apart ops oj = true) →
      i ∈ Region.ready md ops listed → YieldsIf P ops S oi v a → S w →
      wpAnyT P md ops Q S n fuel (listed.setIfInBounds i true) (a.put oi.dst v) w → wpAnyT P md ops Q S n (fuel + 1) listed a w := by
  intro fuel
  induction fuel with
  | zero =>
    intro listed a w _ _ hr hy hS H
    refine ⟨fun h => (by rw [h] at hr; cases hr), fun j hj => ?_⟩
    by_cases hji : j = i
    · subst hji; exact hy.wpOp hi hS ⟨fun _ => hS, H⟩
    · have := ready_mono hj hji
      rw [H.1] at this
      cases this
  | succ fuel ih =>
    intro listed a w inv hfree hr hy hS H
    have hun := (mem_ready.1 hr).1
    refine ⟨fun h => (by rw [h] at hr; cases hr), fun j hj => ?_⟩
    by_cases hji : j = i
    · subst hji; exact hy.wpOp hi hS ⟨fun _ => hS, H⟩
    · have hjn : j < n := by
        rcases Nat.lt_or_ge j n with h | h
        · exact h
        · exact absurd hj (tail_waits hs hc hn inv _ i rfl hin hun j h)
      have h1 := H.2 j (ready_mono hj hji)
      obtain ⟨hjun, oj, hoj, hall⟩ := mem_ready.1 hj
      have hnot : ∀ e ∈ oj.after, Region.binds md e = true → e.on ≠ i := fun e he hb heq => by
        have h1 := hall e he hb
        rw [heq, getD_both hun] at h1
        cases h1
      have h2 := wpOp_putIf hoj (hfree j oj hoj hji hjun hnot) (fun cs b => hsel i oi cs b hi) (fun cs b => hsel j oj cs b hoj) hQ hy h1
      have hfree' : ∀ k ok, ops[k]? = some ok → k ≠ i → (listed.setIfInBounds j true).getD k true = false →
          (∀ e ∈ ok.after, Region.binds md e = true → e.on ≠ i) → oi.apart ops ok = true := fun k ok hk hki hun hno => by
        refine hfree k ok hk hki ?_ hno
        by_cases hjk : j = k
        · subst hjk; exact hjun
        · rw [getD_set_ne true hjk] at hun; exact hun
      refine wpOp_mono (fun a' w' h3 => ⟨h3.2.1, ih (listed.setIfInBounds j true) a' w' (inv.set hj hjn) hfree' (ready_mono hr (Ne.symm hji)) h3.1 (h3.2.1 hjn) ?_⟩) h2
      rw [Array.setIfInBounds_comm _ _ hji]
      exact h3.2.2

/-- The plan of a walk: operations by their numbers, each 'true': it only reads; else it is carried out where it stands. -/
def wpPlan (P : Program) (ops : Array Oper) (Q : Exit → Act → World → Prop) (S : World → Prop) (K : Act → World → Prop) : List (Nat × Bool) → Act → World → Prop
  | [], a, w => K a w
  | (i, true) :: pl, a, w => ∃ o v, ops[i]? = some o ∧ (∀ c a' w', Q (.panic c) (a'.put o.dst v) w' → Q (.panic c) a' w') ∧ YieldsIf P ops S o v a ∧ S w ∧ wpPlan P ops Q S K pl (a.put o.dst v) w
  | (i, false) :: pl, a, w => ∃ o, ops[i]? = some o ∧ wpOp P ops Q i (fun a' w' => S w' ∧ wpPlan P ops Q S K pl a' w') a w

/-- That the plan may be gone: each that only reads may come up and is free; each other one is the only one that may come up; then the tail, one behind the other. -/
def planB (md : Region.Mode) (ops : Array Oper) (n : Nat) : List (Nat × Bool) → Array Bool → Bool
  | [], listed => Region.seqB md ops (ops.size - n) n listed
  | (i, true) :: pl, listed => decide (i < n) && (Region.ready md ops listed).contains i && Region.free md ops listed i && planB md ops n pl (listed.setIfInBounds i true)
  | (i, false) :: pl, listed => decide (i < n) && decide (Region.ready md ops listed = [i]) && planB md ops n pl (listed.setIfInBounds i true)

theorem wpAnyT_seq {n : Nat} : ∀ (l : List Oper) (k : Nat) (listed : Array Bool) (a : Act) (w : World), n ≤ k → (∀ j, l[j]? = ops[k + j]?) →
    Region.seqB md ops l.length k listed = true → wpList P ops Q l a w → wpAnyT P md ops Q S n l.length listed a w
  | [], _, _, _, _, _, _, hB, h => ⟨by simpa [Region.seqB] using hB, h⟩
  | o :: l, k, listed, a, w, hk, hl, hB, h => by
    have h0 : ops[k]? = some o := by simpa using (hl 0).symm
    simp only [List.length_cons, Region.seqB, Bool.and_eq_true, decide_eq_true_eq] at hB
    refine ⟨fun h1 => (by rw [hB.1] at h1; cases h1), fun i hi => ?_⟩
    rw [hB.1] at hi
    have hik : i = k := by simpa using hi
    subst hik
    have hw : wpOp P ops Q i (wpList P ops Q l) a w := by unfold wpOp; simp only [h0]; exact h
    exact wpOp_mono (fun a' w' h' => ⟨fun hn => by omega, wpAnyT_seq l (i + 1) _ a' w' (by omega) (fun j => by have := hl (j + 1); simpa [Nat.add_assoc, Nat.add_comm 1 j] using this) hB.2 h'⟩) hw

theorem wpAnyT_plan {n : Nat} {L : List Oper} (hL : ops = L.toArray) (hsel : Region.noSelect ops = true) (hs : Region.sinkB md ops n = true) (hc : Region.chainB md ops n = true) (hn : n < ops.size) :
    ∀ (pl : List (Nat × Bool)) (listed : Array Bool) (a : Act) (w : World), HeadInv md ops n listed → planB md ops n pl listed = true →
      wpPlan P ops Q S (wpList P ops Q (L.drop n)) pl a w → wpAnyT P md ops Q S n (pl.length + (ops.size - n)) listed a w
  | [], listed, a, w, _, hB, h => by
    subst hL
    have hlen : (L.drop n).length = L.toArray.size - n := by simp
    have := wpAnyT_seq (P := P) (Q := Q) (S := S) (md := md) (ops := L.toArray) (n := n) (L.drop n) n listed a w (Nat.le_refl _) (fun j => by simp) (by rw [hlen]; exact hB) h
    rw [hlen] at this
    rw [List.length_nil, Nat.zero_add]; exact this
  | (i, true) :: pl, listed, a, w, inv, hB, h => by
    simp only [planB, Bool.and_eq_true, decide_eq_true_eq] at hB
    obtain ⟨⟨⟨hin, hr⟩, hf⟩, hB'⟩ := hB
    obtain ⟨o, v, ho, hQ, hy, hS, hK⟩ := h
    have hr' : i ∈ Region.ready md ops listed := by simpa using hr
    rw [List.length_cons, show pl.length + 1 + (ops.size - n) = pl.length + (ops.size - n) + 1 from by omega]
    exact wpAnyT_first ho (Region.noSelect_spec hsel) hQ hs hc hn hin _ listed a w inv (Region.free_spec ho hf) hr' hy hS
      (wpAnyT_plan hL hsel hs hc hn pl _ _ _ (inv.set hr' hin) hB' hK)
  | (i, false) :: pl, listed, a, w, inv, hB, h => by
    simp only [planB, Bool.and_eq_true, decide_eq_true_eq] at hB
    obtain ⟨⟨hin, hr⟩, hB'⟩ := hB
    obtain ⟨o, ho, hw⟩ := h
    rw [List.length_cons, show pl.length + 1 + (ops.size - n) = pl.length + (ops.size - n) + 1 from by omega]
    refine ⟨fun h1 => (by rw [hr] at h1; cases h1), fun j hj => ?_⟩
    have hri : i ∈ Region.ready md ops listed := by rw [hr]; simp
    rw [hr] at hj
    have hji : j = i := by simpa using hj
    subst hji
    exact wpOp_mono (fun a' w' h' => ⟨fun _ => h'.1, wpAnyT_plan hL hsel hs hc hn pl _ _ _ (inv.set hri hin) hB' h'.2⟩) hw

/-- All that the kernel looks at, once. -/
def goB (ops : Array Oper) (n : Nat) (pl : List (Nat × Bool)) : Bool :=
  Region.noSelect ops && decide (n < ops.size) && decide (pl.length = n) && Region.sinkB .any ops n && Region.chainB .any ops n && planB .any ops n pl (Array.replicate ops.size false)

theorem wp_region_plan {id : Nat} {a : Act} {w : World} {L : List Oper} (S : World → Prop) (n : Nat) (pl : List (Nat × Bool)) (hm : P.follows .mixedOrders = true) (hB : goB L.toArray n pl = true)
    (h : wpPlan P L.toArray Q S (wpList P L.toArray Q (L.drop n)) pl a w.drew) : (Code.region id L.toArray true).wp P Q a w := by
  simp only [goB, Bool.and_eq_true, decide_eq_true_eq] at hB
  obtain ⟨⟨⟨⟨⟨hsel, hn⟩, hlen⟩, hs⟩, hc⟩, hp⟩ := hB
  have inv0 : HeadInv .any L.toArray n (Array.replicate L.toArray.size false) :=
    ⟨by simp, fun j oj _ hl => (by rw [getD_replicate_false] at hl; cases hl), fun t _ ht => getD_in (by simpa using ht) (getD_replicate_false _ _)⟩
  have := wpAnyT_plan (P := P) (Q := Q) (S := S) rfl hsel hs hc hn pl _ a w.drew inv0 hp h
  rw [hlen, show n + (L.toArray.size - n) = L.toArray.size from by omega] at this
  exact wp_region_any hm (wpAny_of_T _ _ _ _ this)

/-- One that only reads. -/
theorem wpPlan_take {i : Nat} {o : Oper} {v : Value} {K : Act → World → Prop} {pl : List (Nat × Bool)} {a : Act} {w : World} (ho : ops[i]? = some o) (hQ : ∀ c a' w', Q (.panic c) (a'.put o.dst v) w' → Q (.panic c) a' w')
    (hw : Region.wanted o (yielded ops a.tmps) = true) (hy : ∀ w', S w' → (execOp a.eval o).run P w' = .ok (.value v) w') (hS : S w) (h : wpPlan P ops Q S K pl (a.put o.dst v) w) : wpPlan P ops Q S K ((i, true) :: pl) a w :=
  ⟨o, v, ho, hQ, .inl ⟨hw, fun w' hw' => hy w' hw'⟩, hS, h⟩

/-- One whose guard says no. -/
theorem wpPlan_skip {i : Nat} {o : Oper} {K : Act → World → Prop} {pl : List (Nat × Bool)} {a : Act} {w : World} (ho : ops[i]? = some o) (hQ : ∀ c a' w', Q (.panic c) (a'.put o.dst undef) w' → Q (.panic c) a' w')
    (hw : Region.wanted o (yielded ops a.tmps) = false) (hS : S w) (h : wpPlan P ops Q S K pl (a.put o.dst undef) w) : wpPlan P ops Q S K ((i, true) :: pl) a w :=
  ⟨o, undef, ho, hQ, .inr ⟨hw, rfl⟩, hS, h⟩

/-- One that is carried out. -/
theorem wpPlan_run {i : Nat} {o : Oper} {K : Act → World → Prop} {pl : List (Nat × Bool)} {a : Act} {w : World} (ho : ops[i]? = some o)
    (h : ∀ K' : Act → World → Prop, (∀ a' w', S w' → wpPlan P ops Q S K pl a' w' → K' a' w') → if Region.wanted o (yielded ops a.tmps) then o.wp P a w K' Q else K' (a.put o.dst undef) w) : wpPlan P ops Q S K ((i, false) :: pl) a w := by
  refine ⟨o, ho, ?_⟩
  have := h (fun a' w' => S w' ∧ wpPlan P ops Q S K pl a' w') fun a' w' h1 h2 => ⟨h1, h2⟩
  unfold wpOp
  simp only [ho]
  split
  · rename_i hw; simp only [hw, if_true] at this; exact .inl this
  · rename_i hw; simp only [hw] at this; exact this

theorem wpPlan_nil {K : Act → World → Prop} {a : Act} {w : World} (h : K a w) : wpPlan P ops Q S K [] a w := h
end
end Go.Proofs.YtfcddnccmdjhfaaDoor
