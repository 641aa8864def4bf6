/- The law of Law, with forks: where two operations may come next, both ways are gone. -/
import Derived.Test.YtfcddnccmdjhfaaDoorLaw
namespace Go.Proofs.YtfcddnccmdjhfaaDoor
open Go

/-- A plan with forks. -/
inductive Pl where
  | nil : Pl
  | take : Nat → Pl → Pl
  | run : Nat → Pl → Pl
  | fork : Nat → Pl → Nat → Pl → Pl

def Pl.depth : Pl → Nat
  | .nil => 0
  | .take _ p => p.depth + 1
  | .run _ p => p.depth + 1
  | .fork _ p _ _ => p.depth + 1

section
variable {P : Program} {ops : Array Oper} {Q : Exit → Act → World → Prop} {S : World → Prop} {md : Region.Mode}

def wpPl (P : Program) (ops : Array Oper) (Q : Exit → Act → World → Prop) (S : World → Prop) (K : Act → World → Prop) : Pl → Act → World → Prop
  | .nil, a, w => K a w
  | .take i p, a, w => ∃ o v, ops[i]? = some o ∧ (∀ c a' w', Q (.panic c) (a'.put o.dst v) w' → Q (.panic c) a' w') ∧ YieldsIf P ops S o v a ∧ S w ∧ wpPl P ops Q S K p (a.put o.dst v) w
  | .run i p, a, w => ∃ o, ops[i]? = some o ∧ wpOp P ops Q i (fun a' w' => S w' ∧ wpPl P ops Q S K p a' w') a w
  | .fork i p j q, a, w => (∃ o, ops[i]? = some o ∧ wpOp P ops Q i (fun a' w' => S w' ∧ wpPl P ops Q S K p a' w') a w) ∧
      (∃ o, ops[j]? = some o ∧ wpOp P ops Q j (fun a' w' => S w' ∧ wpPl P ops Q S K q a' w') a w)

def plB (md : Region.Mode) (ops : Array Oper) (n : Nat) : Pl → Array Bool → Bool
  | .nil, listed => Region.seqB md ops (ops.size - n) n listed
  | .take i p, listed => decide (i < n) && (Region.ready md ops listed).contains i && Region.free md ops listed i && plB md ops n p (listed.setIfInBounds i true)
  | .run i p, listed => decide (i < n) && decide (Region.ready md ops listed = [i]) && plB md ops n p (listed.setIfInBounds i true)
  | .fork i p j q, listed => decide (i < n) && decide (j < n) && decide (Region.ready md ops listed = [i, j]) && decide (p.depth = q.depth) && plB md ops n p (listed.setIfInBounds i true) && plB md ops n q (listed.setIfInBounds j true)

theorem wpAnyT_pl {n : Nat} {L : List Oper} (hL : ops = L.toArray) (hsel : Region.noSelect ops = true) (hs : Region.sinkB md ops n = true) (hc : Region.chainB md ops n = true) (hn : n < ops.size) :
    ∀ (pl : Pl) (listed : Array Bool) (a : Act) (w : World), HeadInv md ops n listed → plB md ops n pl listed = true →
      wpPl P ops Q S (wpList P ops Q (L.drop n)) pl a w → wpAnyT P md ops Q S n (pl.depth + (ops.size - n)) listed a w
  | .nil, listed, a, w, _, hB, h => by
    subst hL
    have hlen : (L.drop n).length = L.toArray.size - n := by simp
    have := wpAnyT_seq (P := P) (Q := Q) (S := S) (md := md) (ops := L.toArray) (n := n) (L.drop n) n listed a w (Nat.le_refl _) (fun j => by simp) (by rw [hlen]; exact hB) h
    rw [hlen] at this
    rw [Pl.depth, Nat.zero_add]; exact this
  | .take i pl, listed, a, w, inv, hB, h => by
    simp only [plB, Bool.and_eq_true, decide_eq_true_eq] at hB
    obtain ⟨⟨⟨hin, hr⟩, hf⟩, hB'⟩ := hB
    obtain ⟨o, v, ho, hQ, hy, hS, hK⟩ := h
    have hr' : i ∈ Region.ready md ops listed := by simpa using hr
    rw [Pl.depth, show pl.depth + 1 + (ops.size - n) = pl.depth + (ops.size - n) + 1 from by omega]
    exact wpAnyT_first ho (Region.noSelect_spec hsel) hQ hs hc hn hin _ listed a w inv (Region.free_spec ho hf) hr' hy hS
      (wpAnyT_pl hL hsel hs hc hn pl _ _ _ (inv.set hr' hin) hB' hK)
  | .run i pl, listed, a, w, inv, hB, h => by
    simp only [plB, Bool.and_eq_true, decide_eq_true_eq] at hB
    obtain ⟨⟨hin, hr⟩, hB'⟩ := hB
    obtain ⟨o, ho, hw⟩ := h
    rw [Pl.depth, show pl.depth + 1 + (ops.size - n) = pl.depth + (ops.size - n) + 1 from by omega]
    refine ⟨fun h1 => (by rw [hr] at h1; cases h1), fun j hj => ?_⟩
    have hri : i ∈ Region.ready md ops listed := by rw [hr]; simp
    rw [hr] at hj
    have hji : j = i := by simpa using hj
    subst hji
    exact wpOp_mono (fun a' w' h' => ⟨fun _ => h'.1, wpAnyT_pl hL hsel hs hc hn pl _ _ _ (inv.set hri hin) hB' h'.2⟩) hw
  | .fork i p j q, listed, a, w, inv, hB, h => by
    simp only [plB, Bool.and_eq_true, decide_eq_true_eq] at hB
    obtain ⟨⟨⟨⟨⟨hin, hjn⟩, hr⟩, hd⟩, hB1⟩, hB2⟩ := hB
    obtain ⟨⟨o, ho, hw⟩, o2, ho2, hw2⟩ := h
    rw [Pl.depth, show p.depth + 1 + (ops.size - n) = p.depth + (ops.size - n) + 1 from by omega]
    refine ⟨fun h1 => (by rw [hr] at h1; cases h1), fun k hk => ?_⟩
    have hri : i ∈ Region.ready md ops listed := by rw [hr]; simp
    have hrj : j ∈ Region.ready md ops listed := by rw [hr]; simp
    rw [hr] at hk
    have hk' : k = i ∨ k = j := by simpa using hk
    rcases hk' with rfl | rfl
    · exact wpOp_mono (fun a' w' h' => ⟨fun _ => h'.1, wpAnyT_pl hL hsel hs hc hn p _ _ _ (inv.set hri hin) hB1 h'.2⟩) hw
    · rw [hd]
      exact wpOp_mono (fun a' w' h' => ⟨fun _ => h'.1, wpAnyT_pl hL hsel hs hc hn q _ _ _ (inv.set hrj hjn) hB2 h'.2⟩) hw2

def goPl (ops : Array Oper) (n : Nat) (pl : Pl) : Bool :=
  Region.noSelect ops && decide (n < ops.size) && decide (pl.depth = n) && Region.sinkB .any ops n && Region.chainB .any ops n && plB .any ops n pl (Array.replicate ops.size false)

theorem wp_region_pl {id : Nat} {a : Act} {w : World} {L : List Oper} (S : World → Prop) (n : Nat) (pl : Pl) (hm : P.follows .mixedOrders = true) (hB : goPl L.toArray n pl = true)
    (h : wpPl P L.toArray Q S (wpList P L.toArray Q (L.drop n)) pl a w.drew) : (Code.region id L.toArray true).wp P Q a w := by
  simp only [goPl, Bool.and_eq_true, decide_eq_true_eq] at hB
  obtain ⟨⟨⟨⟨⟨hsel, hn⟩, hlen⟩, hs⟩, hc⟩, hp⟩ := hB
  have inv0 : HeadInv .any L.toArray n (Array.replicate L.toArray.size false) :=
    ⟨by simp, fun j oj _ hl => (by rw [getD_replicate_false] at hl; cases hl), fun t _ ht => getD_in (by simpa using ht) (getD_replicate_false _ _)⟩
  have := wpAnyT_pl (P := P) (Q := Q) (S := S) rfl hsel hs hc hn pl _ a w.drew inv0 hp h
  rw [hlen, show n + (L.toArray.size - n) = L.toArray.size from by omega] at this
  exact wp_region_any hm (wpAny_of_T _ _ _ _ this)

theorem wpPl_take {i : Nat} {o : Oper} {v : Value} {K : Act → World → Prop} {pl : Pl} {a : Act} {w : World} (ho : ops[i]? = some o) (hQ : ∀ c a' w', Q (.panic c) (a'.put o.dst v) w' → Q (.panic c) a' w')
    (hw : Region.wanted o (yielded ops a.tmps) = true) (hy : ∀ w', S w' → (execOp a.eval o).run P w' = .ok (.value v) w') (hS : S w) (h : wpPl P ops Q S K pl (a.put o.dst v) w) : wpPl P ops Q S K (.take i pl) a w :=
  ⟨o, v, ho, hQ, .inl ⟨hw, fun w' hw' => hy w' hw'⟩, hS, h⟩

theorem wpPl_run {i : Nat} {o : Oper} {K : Act → World → Prop} {pl : Pl} {a : Act} {w : World} (ho : ops[i]? = some o)
    (h : ∀ K' : Act → World → Prop, (∀ a' w', S w' → wpPl P ops Q S K pl a' w' → K' a' w') → if Region.wanted o (yielded ops a.tmps) then o.wp P a w K' Q else K' (a.put o.dst undef) w) : wpPl P ops Q S K (.run i pl) a w := by
  refine ⟨o, ho, ?_⟩
  have := h (fun a' w' => S w' ∧ wpPl P ops Q S K pl a' w') fun a' w' h1 h2 => ⟨h1, h2⟩
  unfold wpOp
  simp only [ho]
  split
  · rename_i hw; simp only [hw, if_true] at this; exact .inl this
  · rename_i hw; simp only [hw] at this; exact this

theorem wpPl_go {i : Nat} {o : Oper} {K : Act → World → Prop} {pl : Pl} {a : Act} {w : World} (ho : ops[i]? = some o) (hw : Region.wanted o (yielded ops a.tmps) = true)
    (h : ∀ K' : Act → World → Prop, (∀ a' w', S w' → wpPl P ops Q S K pl a' w' → K' a' w') → o.wp P a w K' Q) : wpPl P ops Q S K (.run i pl) a w :=
  wpPl_run ho fun K' hK => by rw [if_pos hw]; exact h K' hK

theorem wpPl_fork {i j : Nat} {K : Act → World → Prop} {p q : Pl} {a : Act} {w : World} (h1 : wpPl P ops Q S K (.run i p) a w) (h2 : wpPl P ops Q S K (.run j q) a w) : wpPl P ops Q S K (.fork i p j q) a w := ⟨h1, h2⟩

theorem wpPl_nil {K : Act → World → Prop} {a : Act} {w : World} (h : K a w) : wpPl P ops Q S K .nil a w := h
end
end Go.Proofs.YtfcddnccmdjhfaaDoor
