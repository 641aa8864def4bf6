/- Plain: Kahan's sum is a number; what the law of bounds asks, in the exact numbers' own words. -/
import Derived.Test.YtjoajbbapfgaoaaGreatDoorZBd3
import Derived.Test.YtjoajbbapfgaoaaGreatDoorZFo1
import Derived.Test.YtjoajbbapfgaoaaGreatDoorZBw1
namespace Go.Proofs.YtjoajbbapfgaoaaGreatDoor
open Go.RowKit

/-! Kahan's sum. -/
theorem NearR.size {x r : Int} (h : NearR x r) : 9007199254740992 * r.natAbs ≤ 9007199254740993 * x.natAbs := by
  have := h.ulp
  omega

theorem kah_rest {s y t z : Int} (h1 : 9007199254740992 * (s + y - t).natAbs ≤ (s + y).natAbs) (h2 : 9007199254740992 * (t - s - z).natAbs ≤ (t - s).natAbs) : 9007199254740992 * (z - y).natAbs ≤ t.natAbs + 2 * s.natAbs + y.natAbs := by
  have e1 : (z - y).natAbs ≤ (t - s - z).natAbs + (s + y - t).natAbs := by clear h1 h2; omega
  have e2 : (s + y).natAbs ≤ s.natAbs + y.natAbs := by clear h1 h2 e1; omega
  have e3 : (t - s).natAbs ≤ t.natAbs + s.natAbs := by clear h1 h2 e1 e2; omega
  generalize (z - y).natAbs = a at *
  generalize (t - s - z).natAbs = b at *
  generalize (s + y - t).natAbs = c at *
  generalize (s + y).natAbs = d at *
  generalize (t - s).natAbs = e at *
  omega

theorem kah_y {A X C Y A' : Nat} (hA : A' = A + X) (hC : 1125899906842624 * C ≤ A) (hY : 9007199254740992 * Y ≤ 9007199254740993 * (X + C)) : 70368744177664 * Y ≤ 70368744177664 * X + A' := by omega
theorem kah_t {A X S Y T A' E : Nat} (hA : A' = A + X) (hS : 35184372088832 * S ≤ 35184372088832 * A + E) (hE : E ≤ 4096 * A) (hY : 70368744177664 * Y ≤ 70368744177664 * X + A') (hT : 9007199254740992 * T ≤ 9007199254740993 * (S + Y)) : 35184372088832 * T ≤ 35184372088832 * A' + E + A' := by omega
theorem kah_d {A X S Y T W D A' E : Nat} (hA : A' = A + X) (hS : 35184372088832 * S ≤ 35184372088832 * A + E) (hE : E ≤ 4096 * A) (hY : 70368744177664 * Y ≤ 70368744177664 * X + A') (hT : 35184372088832 * T ≤ 35184372088832 * A' + E + A')
    (hW : 9007199254740992 * W ≤ T + 2 * S + Y) (hD : 9007199254740992 * D ≤ 9007199254740993 * W) : 1125899906842624 * D ≤ A' := by
  have t1 : 1000 * T ≤ 1001 * A' := by omega
  have s1 : 1000 * S ≤ 1001 * A' := by omega
  have y1 : 1000 * Y ≤ 1001 * A' := by omega
  clear hS hE hY hT hA
  have w1 : 9007199254740992 * W ≤ 5 * A' := by omega
  clear hW t1 s1 y1
  omega

theorem kah_step {s c x : Nat} (hs : s < 18446744073709551616) (hc : c < 18446744073709551616) (hx : x < 18446744073709551616) (fs : finB s = true) (fc : finB c = true) (fx : finB x = true)
    {A A' E E' : Nat} (hA : A' < 9007199254740992 * unU) (hAA : A' = A + (fI x).natAbs) (hEE : E + A' ≤ E') (hE : E ≤ 4096 * A)
    (h1 : 35184372088832 * (fI s).natAbs ≤ 35184372088832 * A + E) (h2 : 1125899906842624 * (fI c).natAbs ≤ A) :
    ∃ t d, kahS (some s, some c) x = (some t, some d) ∧ t < 18446744073709551616 ∧ d < 18446744073709551616 ∧ finB t = true ∧ finB d = true ∧
      35184372088832 * (fI t).natAbs ≤ 35184372088832 * A' + E' ∧ 1125899906842624 * (fI d).natAbs ≤ A' := by
  have hU := unU_pos
  generalize hUe : unU = U at hA hU
  have c1 : (fI x - fI c).natAbs ≤ (fI x).natAbs + (fI c).natAbs := by clear h1 h2 hE hEE hA hAA; omega
  obtain ⟨y, hy, hyl, hyf, hyn⟩ := sub_near hx hc fx fc (by rw [hUe]; clear hEE hE h1; omega)
  have hys := Nat.le_trans hyn.size (Nat.mul_le_mul_left 9007199254740993 c1)
  have k1 := kah_y hAA h2 hys
  have c2 : (fI s + fI y).natAbs ≤ (fI s).natAbs + (fI y).natAbs := by clear h1 h2 hE hEE hA hAA k1 hys c1; omega
  obtain ⟨t, ht, htl, htf, htn⟩ := add_near hs hyl fs hyf (by rw [hUe]; clear hEE hys c1; omega)
  have hts := Nat.le_trans htn.size (Nat.mul_le_mul_left 9007199254740993 c2)
  have k2 := kah_t hAA h1 hE k1 hts
  have c3 : (fI t - fI s).natAbs ≤ (fI t).natAbs + (fI s).natAbs := by clear h1 h2 hE hEE hA hAA k1 k2 hys hts c1 c2; omega
  have c4 : (fI t - fI s).natAbs ≤ (fI y).natAbs + (fI s + fI y - fI t).natAbs := by clear h1 h2 hE hEE hA hAA k1 k2 hys hts c1 c2 c3; omega
  have htu := htn.ulp
  obtain ⟨z, hz, hzl, hzf, hzn⟩ := sub_near htl hs htf fs (by
    rw [hUe]; clear hEE hys c1 hts c3
    generalize (fI t - fI s).natAbs = a at *
    generalize (fI s + fI y - fI t).natAbs = b at *
    generalize (fI s + fI y).natAbs = d at *
    omega)
  have k3 := kah_rest htu hzn.ulp
  obtain ⟨d, hd, hdl, hdf, hdn⟩ := sub_near hzl hyl hzf hyf (by
    rw [hUe]; clear hEE hys c1 hts c3 c4 htu c2
    generalize (fI z - fI y).natAbs = a at *
    omega)
  have e1 : oA .sub (some x) (some c) = some y := hy
  have e2 : oA .add (some s) (some y) = some t := ht
  have e3 : oA .sub (some t) (some s) = some z := hz
  have e4 : oA .sub (some z) (some y) = some d := hd
  exact ⟨t, d, by unfold kahS; simp only [e1, e2, e3, e4], htl, hdl, htf, hdf, by omega, kah_d hAA h1 hE k1 k2 k3 hdn.size⟩

theorem kah_fin {l : List Nat} (hx : ∀ x ∈ l, x < 18446744073709551616) (hf : l.all finB = true) (hn : l.length ≤ 4096) (hA : absI (nthI l) l.length < 9007199254740992 * unU) : finB (cO (kahF l).1) = true := by
  have hfk : ∀ k (h : k < l.length), finB l[k] = true := fun k h => List.all_eq_true.1 hf _ (List.getElem_mem h)
  have key : ∀ k, k ≤ l.length → ∃ s c, kahF (l.take k) = (some s, some c) ∧ s < 18446744073709551616 ∧ c < 18446744073709551616 ∧ finB s = true ∧ finB c = true ∧
      35184372088832 * (fI s).natAbs ≤ 35184372088832 * absI (nthI l) k + k * absI (nthI l) k ∧ 1125899906842624 * (fI c).natAbs ≤ absI (nthI l) k := by
    intro k
    induction k with
    | zero => intro _; exact ⟨0, 0, rfl, by decide, by decide, by decide, by decide, by rw [fI_zero (.inl rfl)]; simp, by rw [fI_zero (.inl rfl)]; simp⟩
    | succ k ih =>
      intro hk
      obtain ⟨s, c, hs, hsl, hcl, hsf, hcf, k1, k2⟩ := ih (by omega)
      have hlt : k < l.length := hk
      have hxI : nthI l k = fI l[k] := by unfold nthI; rw [List.getD_eq_getElem?_getD, List.getElem?_eq_getElem hlt]; rfl
      have hAk : absI (nthI l) (k + 1) ≤ absI (nthI l) l.length := absI_mono _ hk
      have hA1 : absI (nthI l) (k + 1) = absI (nthI l) k + (fI l[k]).natAbs := by rw [← hxI]; rfl
      have hm1 : k * absI (nthI l) k ≤ 4096 * absI (nthI l) k := Nat.mul_le_mul_right _ (by omega)
      have hm3 : k * absI (nthI l) k + absI (nthI l) (k + 1) ≤ (k + 1) * absI (nthI l) (k + 1) := by
        rw [Nat.add_mul, Nat.one_mul]
        have := Nat.mul_le_mul_left k (show absI (nthI l) k ≤ absI (nthI l) (k + 1) by omega)
        omega
      obtain ⟨t, d, htd, htl, hdl, htf, hdf, j1, j2⟩ := kah_step hsl hcl (hx _ (List.getElem_mem hlt)) hsf hcf (hfk k hlt) (by omega) hA1 hm3 hm1 k1 k2
      exact ⟨t, d, by rw [kahF_take hlt, hs]; exact htd, htl, hdl, htf, hdf, j1, j2⟩
  obtain ⟨s, c, hs, hsl, hcl, hsf, -⟩ := key l.length (Nat.le_refl _)
  rw [List.take_length] at hs
  rw [hs]
  show finB (canonB s) = true
  rw [canon_of_fin hsf]; exact hsf

/-! All ways' sums are numbers. -/
theorem way_fin {l : List Nat} (hx : ∀ x ∈ l, x < 18446744073709551616) (hf : l.all finB = true) (hn : l.length ≤ 4096) (h1 : 0 < l.length) (hA : absL l < 9007199254740992 * unU) (way : Int) : finB (wayB way l) = true := by
  have hU := unU_pos
  unfold wayB
  split
  · obtain ⟨s, hs, hsl, hsf, -⟩ := left_off hx hf hn h1 hA
    rw [hs]
    show finB (canonB s) = true
    rw [canon_of_fin hsf]; exact hsf
  · split
    · exact (pairs_off l.length l 12 (Nat.le_refl _) h1 (by omega) (by omega) hx hf hA).1
    · split
      · exact kah_fin hx hf hn hA
      · split
        · obtain ⟨r, hr, hrl, hrf, -⟩ := neu_off hx hf hn h1 hA
          rw [hr]
          show finB (canonB r) = true
          rw [canon_of_fin hrf]; exact hrf
        · split
          · split
            · decide
            · exact (exact_off hf (by
                have := sum_abs (nthI l) l.length
                have : (sumL l).natAbs ≤ absL l := this
                generalize unU = U at *; omega)).1
          · decide

/-- By how much a way is off, in units. -/
theorem off_val {l : List Nat} {way : Int} (hf : l.all finB = true) (hw : finB (wayB way l) = true) : -1074 ≤ offE way l ∧ sc 1074 (offZ way l) (offE way l) = fI (wayB way l) - sumL l := by
  obtain ⟨h1, h2⟩ := fold_sum hf
  have hp := pE_bd hw
  have h3 := plE_ge (M := 1074) (z := valZ (wayB way l)) (e := pE (wayB way l)) (y := -(foldS (prs l)).1) (f := (foldS (prs l)).2) (by omega) (by omega)
  refine ⟨by unfold offE; omega, ?_⟩
  unfold offZ offE
  rw [sc_pl (by omega) (by omega), sc_neg, h2]
  unfold fI
  omega

/-- The exact number that the law keeps for a way. -/
def offX (way : Int) (l : List Nat) : Int := ((hvZ (offZ way l)).natAbs : Int)
def offG (way : Int) (l : List Nat) : Int := nrE (offZ way l) (offE way l)

theorem off_x {l : List Nat} {way : Int} (hf : l.all finB = true) (hw : finB (wayB way l) = true) : -1074 ≤ offG way l ∧ sc 1074 (offX way l) (offG way l) = ((fI (wayB way l) - sumL l).natAbs : Int) := by
  obtain ⟨h1, h2⟩ := off_val hf hw
  have h3 := nrE_ge (M := 1074) (z := offZ way l) (e := offE way l) (by omega) (by omega)
  refine ⟨by unfold offG; omega, ?_⟩
  unfold offX offG
  rw [sc_natAbs, sc_nr (by omega), h2]

/-- The amounts' exact sum, in units. -/
theorem fold_abs {l : List Nat} (hf : l.all finB = true) : -1074 ≤ (foldS (mgs l)).2 ∧ sc 1074 (foldS (mgs l)).1 (foldS (mgs l)).2 = (absL l : Int) := by
  have key : ∀ k, k ≤ l.length → -1074 ≤ (foldS ((mgs l).take k)).2 ∧ sc 1074 (foldS ((mgs l).take k)).1 (foldS ((mgs l).take k)).2 = (absI (nthI l) k : Int) := by
    intro k
    induction k with
    | zero => intro _; exact ⟨by show (-1074 : Int) ≤ 0; decide, sc_zero 1074 0⟩
    | succ k ih =>
      intro hk
      obtain ⟨i1, i2⟩ := ih (by omega)
      have hpl : (mgs l).length = l.length := by unfold mgs; simp
      have hl : k < (mgs l).length := by omega
      have hpe := pE_bd (List.all_eq_true.1 hf _ (List.getElem_mem (show k < l.length from hk)))
      rw [foldS_take hl]
      have e1 : (mgs l)[k]'hl = (((valZ (l[k]'hk)).natAbs : Int), pE (l[k]'hk)) := List.getElem_map _
      rw [e1]
      have h3 := plE_ge (M := 1074) (z := (foldS ((mgs l).take k)).1) (e := (foldS ((mgs l).take k)).2) (y := ((valZ l[k]).natAbs : Int)) (f := pE l[k]) (by omega) (by omega)
      refine ⟨by dsimp only; omega, ?_⟩
      have hA1 : absI (nthI l) (k + 1) = absI (nthI l) k + (nthI l k).natAbs := rfl
      show sc 1074 (plZ _ _ _ _) (plE _ _ _ _) = ((absI (nthI l) (k + 1) : Nat) : Int)
      rw [sc_pl (by omega) (by omega), i2, hA1, Int.natCast_add, sc_natAbs]
      congr 1
      unfold nthI
      rw [List.getD_eq_getElem?_getD, List.getElem?_eq_getElem (show k < l.length from hk)]; rfl
  have := key l.length (Nat.le_refl _)
  rw [show (mgs l).take l.length = mgs l from List.take_of_length_le (by unfold mgs; simp)] at this
  exact this

/-! Signs of differences. -/
theorem sc_mul2 {M N z e y f : Int} (h1 : 0 ≤ e + M) (h2 : 0 ≤ f + N) : sc (M + N) (z * y) (e + f) = sc M z e * sc N y f := by
  unfold sc
  rw [show (e + f + (M + N)).toNat = (e + M).toNat + (f + N).toNat by omega, Int.pow_add, Int.mul_assoc, Int.mul_assoc, Int.mul_left_comm y]

theorem sc_up {M N z e : Int} (h1 : 0 ≤ e + M) (h2 : 0 ≤ N) : sc (M + N) z e = sc M z e * 2 ^ N.toNat := by
  unfold sc
  rw [show (e + (M + N)).toNat = (e + M).toNat + N.toNat by omega, Int.pow_add, Int.mul_assoc]

theorem sgn_le {M z e y f : Int} (h1 : 0 ≤ e + M) (h2 : 0 ≤ f + M) (h : sc M z e ≤ sc M y f) : (plZ z e (-y) f).sign ≤ 0 := by
  have h3 := sc_pl (M := M) (z := z) (e := e) (y := -y) (f := f) h1 h2
  rw [sc_neg] at h3
  rcases Int.lt_trichotomy (plZ z e (-y) f) 0 with h4 | h4 | h4
  · rw [Int.sign_eq_neg_one_of_neg h4]; decide
  · rw [h4]; decide
  · have h5 : 0 < sc M (plZ z e (-y) f) (plE z e (-y) f) := by unfold sc; exact Int.mul_pos h4 (Int.pow_pos (by decide))
    omega

theorem sgn_lt {M z e y f : Int} (h1 : 0 ≤ e + M) (h2 : 0 ≤ f + M) (h : (plZ z e (-y) f).sign < 0) : sc M z e < sc M y f := by
  have h3 := sc_pl (M := M) (z := z) (e := e) (y := -y) (f := f) h1 h2
  rw [sc_neg] at h3
  have h4 : plZ z e (-y) f < 0 := by
    rcases Int.lt_trichotomy (plZ z e (-y) f) 0 with h4 | h4 | h4
    · exact h4
    · rw [h4] at h; simp at h
    · rw [Int.sign_eq_one_of_pos h4] at h; omega
  have h5 : sc M (plZ z e (-y) f) (plE z e (-y) f) < 0 := by unfold sc; exact Int.mul_neg_of_neg_of_pos h4 (Int.pow_pos (by decide))
  omega

/-- 1 - m u, in units of u. -/
theorem one_less {m : Int} : sc 53 (plZ 1 0 (-(m * 1)) (0 + -53)) (plE 1 0 (-(m * 1)) (0 + -53)) = 9007199254740992 - m ∧ 0 ≤ plE 1 0 (-(m * 1)) (0 + -53) + 53 := by
  refine ⟨?_, plE_ge (M := 53) (by decide) (by decide)⟩
  rw [sc_pl (by decide) (by decide), sc_neg]
  have e1 : sc 53 1 0 = 9007199254740992 := by decide
  have e2 : sc 53 (m * 1) (0 + -53) = m := by unfold sc; rw [show ((0 : Int) + -53 + 53).toNat = 0 from rfl]; simp
  rw [e1, e2]; rfl

theorem mu_val {m : Int} : sc 53 (m * 1) (0 + -53) = m := by unfold sc; rw [show ((0 : Int) + -53 + 53).toNat = 0 from rfl]; simp

/-- What 'below' asks. -/
theorem below_law {x e y f : Int} {n X Y : Nat} (he : -1074 ≤ e) (hf : -1074 ≤ f) (hx : sc 1074 x e = X) (hy : sc 1074 y f = Y) (hn : n ≤ 9007199254740992) (h : X * (9007199254740992 - n) ≤ n * Y) : (belP x e n y f).sign ≤ 0 := by
  obtain ⟨o1, o2⟩ := one_less (m := n)
  unfold belP
  refine sgn_le (M := 1074 + 53) (by omega) (by omega) ?_
  rw [sc_mul2 (by omega) (by omega), hx, o1, show (1074 + 53 : Int) = 53 + 1074 from rfl, sc_mul2 (by decide) (by omega), mu_val, hy]
  have h2 := Int.ofNat_le.2 h
  rw [Int.natCast_mul, Int.natCast_mul, Int.natCast_sub hn] at h2
  exact h2

/-- What is asked of Neumaier's sum. -/
theorem neu_law {x e s g y f : Int} {m X S A : Nat} (he : -1074 ≤ e) (hg : -1074 ≤ g) (hf : -1074 ≤ f) (hx : sc 1074 x e = X) (hs : sc 1074 s g = S) (hy : sc 1074 y f = A) (hm : m ≤ 9007199254740992)
    (h : ((9007199254740992 : Int) * X - S) * ((9007199254740992 - m : Nat) : Int) * ((9007199254740992 - m : Nat) : Int) ≤ 9007199254740992 * ((m : Int) * m * A)) :
    (plZ (plZ x e (-(s * 1)) (g + -53) * plZ 1 0 (-((m : Int) * 1)) (0 + -53) * plZ 1 0 (-((m : Int) * 1)) (0 + -53)) (plE x e (-(s * 1)) (g + -53) + plE 1 0 (-((m : Int) * 1)) (0 + -53) + plE 1 0 (-((m : Int) * 1)) (0 + -53))
      (-((m : Int) * 1 * ((m : Int) * 1) * y)) (0 + -53 + (0 + -53) + f)).sign ≤ 0 := by
  obtain ⟨o1, o2⟩ := one_less (m := m)
  have r1 : sc (1074 + 53) (plZ x e (-(s * 1)) (g + -53)) (plE x e (-(s * 1)) (g + -53)) = 9007199254740992 * X - S := by
    rw [sc_pl (by omega) (by omega), sc_neg, sc_up (by omega) (by decide), hx, sc_mul2 (N := 53) (by omega) (by decide), hs]
    have : sc 53 1 (-53) = 1 := by decide
    rw [this, show (2 : Int) ^ (53 : Int).toNat = 9007199254740992 from rfl]
    omega
  have r2 : 0 ≤ plE x e (-(s * 1)) (g + -53) + (1074 + 53) := plE_ge (by omega) (by omega)
  refine sgn_le (M := 1074 + 53 + 53 + 53) (by omega) (by omega) ?_
  rw [sc_mul2 (M := 1074 + 53 + 53) (N := 53) (by omega) (by omega), sc_mul2 (M := 1074 + 53) (N := 53) (by omega) (by omega), r1, o1]
  rw [show (1074 + 53 + 53 + 53 : Int) = (53 + 53 + 1074) + 53 from rfl, sc_up (by omega) (by decide), sc_mul2 (M := 53 + 53) (N := 1074) (by omega) (by omega), sc_mul2 (M := 53) (N := 53) (by decide) (by decide), mu_val, hy, show (2 : Int) ^ (53 : Int).toNat = 9007199254740992 from rfl]
  rw [Int.natCast_sub hm] at h
  rw [Int.mul_comm _ 9007199254740992]
  exact h

/-- What is asked of the exact sum. -/
theorem exact_law {x e s g : Int} {X S : Nat} (he : -1074 ≤ e) (hg : -1074 ≤ g) (hx : sc 1074 x e = X) (hs : sc 1074 s g = S) (h : 9007199254740992 * X ≤ S) :
    (plZ x e (-(plZ (s * 1) (g + -53) 1 (-1074))) (plE (s * 1) (g + -53) 1 (-1074))).sign ≤ 0 := by
  have r2 : 0 ≤ plE (s * 1) (g + -53) 1 (-1074) + (1074 + 53) := plE_ge (by omega) (by decide)
  refine sgn_le (M := 1074 + 53) (by omega) r2 ?_
  rw [sc_pl (by omega) (by decide), sc_up (by omega) (by decide), hx, sc_mul2 (N := 53) (by omega) (by decide), hs]
  have e1 : sc 53 1 (-53) = 1 := by decide
  have e2 : sc (1074 + 53) 1 (-1074) = 9007199254740992 := by decide
  rw [e1, e2, show (2 : Int) ^ (53 : Int).toNat = 9007199254740992 from rfl]
  have h2 := Int.ofNat_le.2 h
  rw [Int.natCast_mul] at h2
  have : ((9007199254740992 : Nat) : Int) = 9007199254740992 := rfl
  rw [this] at h2
  omega

/-- The ways' sums below the bound. -/
theorem small_of {l : List Nat} (hf : l.all finB = true) (h : (plZ (foldS (mgs l)).1 (foldS (mgs l)).2 (-1) 1023).sign < 0) : absL l < 9007199254740992 * unU := by
  obtain ⟨h1, h2⟩ := fold_abs hf
  have h3 := sgn_lt (M := 1074) (by omega) (by decide) h
  rw [h2] at h3
  have e : sc 1074 1 1023 = ((9007199254740992 * unU : Nat) : Int) := by
    unfold sc unU
    rw [show (1023 + 1074 : Int).toNat = 53 + unE from rfl, Int.pow_add, Int.natCast_mul, Int.natCast_pow, Int.one_mul]; rfl
  rw [e] at h3
  exact Int.ofNat_lt.1 h3

/-- A good dyad may be. -/
theorem may_good {z e : Int} (h : GoodD z e) : mayB (decide (z < 0)) (ln 32 z.natAbs) z.natAbs e = true := by
  obtain ⟨h1, h2, h3, h4⟩ := h
  unfold mayB
  by_cases h0 : z = 0
  · subst h0
    rcases h1 with ⟨-, h1⟩ | h1
    · subst h1; decide
    · omega
  · have hl : ln 32 z.natAbs ≠ 0 := fun h => h0 (by have := (ln_eq_zero (s := 32) (by decide)).1 h; omega)
    rw [if_neg hl]
    have hodd : z % 2 = 1 := by
      rcases h1 with h1 | h1
      · exact absurd h1.1 h0
      · exact h1
    have d1 := dg_top (s := 32) (by decide) (show z.natAbs ≠ 0 by omega)
    have d2 : ln 32 z.natAbs ≤ 2048 := by unfold ln; omega
    simp only [Bool.and_eq_true, decide_eq_true_eq]
    refine ⟨d2, d1, ?_, h3, h4⟩
    rw [dg_zero_mod]; omega

end Go.Proofs.YtjoajbbapfgaoaaGreatDoor
