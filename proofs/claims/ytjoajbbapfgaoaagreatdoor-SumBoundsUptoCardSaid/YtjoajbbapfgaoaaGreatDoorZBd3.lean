/- Plain: how far off Neumaier's sum, the sum by halves and the exact one are. -/
import Derived.Test.YtjoajbbapfgaoaaGreatDoorZBd2
import Derived.Test.YtjoajbbapfgaoaaGreatDoorGV
import Derived.Test.YtjoajbbapfgaoaaGreatDoorGX
import Derived.Test.YtjoajbbapfgaoaaGreatDoorZNe4
namespace Go.Proofs.YtjoajbbapfgaoaaGreatDoor
open Go.RowKit

/-- The greater amount, by the floats' own order. -/
theorem ge_amount {s x : Nat} (hs : s < 18446744073709551616) (hx : x < 18446744073709551616) (fs : finB s = true) (fx : finB x = true) :
    (geB (s % kSign) (x % kSign) = true → (fI x).natAbs ≤ (fI s).natAbs) ∧ (geB (s % kSign) (x % kSign) = false → (fI s).natAbs ≤ (fI x).natAbs) := by
  have h1 := sc_word hs fs (M := 1074) (by omega)
  have h2 := sc_word hx fx (M := 1074) (by omega)
  rw [show ((1074 : Int) - 1074).toNat = 0 from rfl, Int.pow_zero, Int.mul_one] at h1 h2
  have e1 : (fI s).natAbs = wv (s % kSign) := by
    show (sc 1074 (valZ s) (pE s)).natAbs = _
    rw [h1]; split <;> omega
  have e2 : (fI x).natAbs = wv (x % kSign) := by
    show (sc 1074 (valZ x) (pE x)).natAbs = _
    rw [h2]; split <;> omega
  have hk := kSign_big
  have hkv : kSign = 9223372036854775808 := rfl
  have hfs : s % kSign ≤ kInf := by have := nan_fin fs; unfold nanB at this; simpa using this
  have hfx : x % kSign ≤ kInf := by have := nan_fin fx; unfold nanB at this; simpa using this
  have a1 : s % kSign % kSign = s % kSign := Nat.mod_mod _ _
  have a2 : x % kSign % kSign = x % kSign := Nat.mod_mod _ _
  have l1 : s % kSign < kSign := Nat.mod_lt _ (by omega)
  have l2 : x % kSign < kSign := Nat.mod_lt _ (by omega)
  have ho := order_ky (x := s % kSign) (y := x % kSign) (by omega) (by omega) (by rw [a1]; exact hfs) (by rw [a2]; exact hfx)
  have k1 : ky (s % kSign) = (s % kSign : Nat) := by unfold ky; rw [if_pos l1]
  have k2 : ky (x % kSign) = (x % kSign : Nat) := by unfold ky; rw [if_pos l2]
  rw [k1, k2] at ho
  rw [e1, e2]
  unfold geB
  rw [ho]
  rcases Int.lt_trichotomy ((s % kSign : Nat) : Int) ((x % kSign : Nat) : Int) with h | h | h
  · rw [Int.compare_eq_lt.2 h]
    exact ⟨fun h => (by cases h), fun _ => wv_mono (by omega)⟩
  · rw [h, Int.compare_eq_eq.2 rfl]
    have : s % kSign = x % kSign := by omega
    rw [this]
    exact ⟨fun _ => Nat.le_refl _, fun h => (by cases h)⟩
  · rw [Int.compare_eq_gt.2 h]
    exact ⟨fun _ => wv_mono (by omega), fun h => (by cases h)⟩

theorem NearR.comm {a b r : Int} (h : NearR (a + b) r) : NearR (b + a) r := by rw [Int.add_comm]; exact h

/-- What one step of Neumaier's does: the sum and what is lost, exactly. -/
theorem neu_step {s c x : Nat} (hs : s < 18446744073709551616) (hc : c < 18446744073709551616) (hx : x < 18446744073709551616) (fs : finB s = true) (fc : finB c = true) (fx : finB x = true)
    {A : Nat} (hA : A < 9007199254740992 * unU) (hsA : 1000000 * (fI s).natAbs + 1000000 * (fI x).natAbs ≤ 1000001 * A) (hcA : 1000 * (fI c).natAbs ≤ A) :
    ∃ t d, neuS (some s, some c) x = (some t, some d) ∧ t < 18446744073709551616 ∧ d < 18446744073709551616 ∧ finB t = true ∧ finB d = true ∧
      NearR (fI s + fI x) (fI t) ∧ Rep53 (fI s + fI x - fI t) ∧ NearR (fI c + (fI s + fI x - fI t)) (fI d) := by
  have hU := unU_pos
  obtain ⟨t, ht, htl, htf, htn⟩ := add_near hs hx fs fx (by generalize unU = U at *; omega)
  have htu := htn.ulp
  obtain ⟨g1, g2⟩ := ge_amount hs hx fs fx
  have hts : oA .add (some s) (some x) = some t := ht
  unfold neuS
  simp only [hts]
  cases hge : geB (s % kSign) (x % kSign)
  · have hgO : geO (some s) (some x) = false := hge
    obtain ⟨h1, h2⟩ := fast_two (fI_rep fx) (fI_rep fs) (g2 hge) htn.comm
    rw [hgO, if_neg (by decide)]
    have hq : fI x + fI s - fI t = fI s + fI x - fI t := by omega
    rw [hq] at h2
    obtain ⟨z, hz, hzl, hzf, hzn⟩ := sub_near hx htl fx htf (by generalize unU = U at *; omega)
    have hzx : fI z = fI x - fI t := hzn.self (by have := h1.neg; rwa [Int.neg_sub] at this)
    obtain ⟨q, hqq, hql, hqf, hqn⟩ := add_near hzl hs hzf fs (by rw [hzx]; generalize unU = U at *; omega)
    rw [hzx, show fI x - fI t + fI s = fI s + fI x - fI t by omega] at hqn
    have hqx := hqn.self h2
    obtain ⟨d, hd, hdl, hdf, hdn⟩ := add_near hc hql fc hqf (by rw [hqx]; generalize unU = U at *; omega)
    rw [hqx] at hdn
    have e1 : oA .sub (some x) (some t) = some z := hz
    have e2 : oA .add (some z) (some s) = some q := hqq
    have e3 : oA .add (some c) (some q) = some d := hd
    exact ⟨t, d, by rw [e1, e2, e3], htl, hdl, htf, hdf, htn, h2, hdn⟩
  · have hgO : geO (some s) (some x) = true := hge
    obtain ⟨h1, h2⟩ := fast_two (fI_rep fs) (fI_rep fx) (g1 hge) htn
    rw [hgO, if_pos rfl]
    obtain ⟨z, hz, hzl, hzf, hzn⟩ := sub_near hs htl fs htf (by generalize unU = U at *; omega)
    have hzx : fI z = fI s - fI t := hzn.self (by have := h1.neg; rwa [Int.neg_sub] at this)
    obtain ⟨q, hqq, hql, hqf, hqn⟩ := add_near hzl hx hzf fx (by rw [hzx]; generalize unU = U at *; omega)
    rw [hzx, show fI s - fI t + fI x = fI s + fI x - fI t by omega] at hqn
    have hqx := hqn.self h2
    obtain ⟨d, hd, hdl, hdf, hdn⟩ := add_near hc hql fc hqf (by rw [hqx]; generalize unU = U at *; omega)
    rw [hqx] at hdn
    have e1 : oA .sub (some s) (some t) = some z := hz
    have e2 : oA .add (some z) (some x) = some q := hqq
    have e3 : oA .add (some c) (some q) = some d := hd
    exact ⟨t, d, by rw [e1, e2, e3], htl, hdl, htf, hdf, htn, h2, hdn⟩

/-- Neumaier's sum and its rest after k. -/
def neuI (l : List Nat) (k : Nat) : Int := fI (bits0 (neuF (l.take k)).1)
def nrcI (l : List Nat) (k : Nat) : Int := fI (bits0 (neuF (l.take k)).2)

/-- How great the rest can be. -/
theorem rest_size {m B A : Nat} {c Q : Int} (hm : m ≤ 4096) (hB : B * (9007199254740992 - m) ≤ m * A) (hg : (c - Q).natAbs * (9007199254740992 - (m - 1)) ≤ (m - 1) * B) (hQ : Q.natAbs ≤ B) : 1000 * c.natAbs ≤ A := by
  have h1 : B * 9007199254736896 ≤ 4096 * A := Nat.le_trans (Nat.mul_le_mul_left _ (by omega)) (Nat.le_trans hB (Nat.mul_le_mul_right _ hm))
  have h2 : (c - Q).natAbs * 9007199254736896 ≤ 4096 * B := Nat.le_trans (Nat.mul_le_mul_left _ (by omega)) (Nat.le_trans hg (Nat.mul_le_mul_right _ (by omega)))
  omega

theorem neu_chain {l : List Nat} (hx : ∀ x ∈ l, x < 18446744073709551616) (hf : l.all finB = true) (hn : l.length ≤ 4096) (hA : absI (nthI l) l.length < 9007199254740992 * unU) :
    ∀ k, k ≤ l.length → (∃ s c, neuF (l.take k) = (some s, some c) ∧ s < 18446744073709551616 ∧ c < 18446744073709551616 ∧ finB s = true ∧ finB c = true) ∧
      ∀ j, j < k → NearR (neuI l j + nthI l j) (neuI l (j + 1)) ∧ Rep53 (neuI l j + nthI l j - neuI l (j + 1)) ∧ NearR (nrcI l j + (neuI l j + nthI l j - neuI l (j + 1))) (nrcI l (j + 1)) := by
  have hfk : ∀ k (h : k < l.length), finB l[k] = true := fun k h => List.all_eq_true.1 hf _ (List.getElem_mem h)
  have h0 : neuI l 0 = 0 := by unfold neuI; rw [List.take_zero]; exact fI_zero (.inl rfl)
  have c0 : nrcI l 0 = 0 := by unfold nrcI; rw [List.take_zero]; exact fI_zero (.inl rfl)
  intro k
  induction k with
  | zero => intro _; exact ⟨⟨0, 0, rfl, by decide, by decide, by decide, by decide⟩, fun j hj => by omega⟩
  | succ k ih =>
    intro hk
    obtain ⟨⟨s, c, hs, hsl, hcl, hsf, hcf⟩, hc⟩ := ih (by omega)
    have hlt : k < l.length := hk
    have hsI : neuI l k = fI s := by unfold neuI; rw [hs]; rfl
    have hcI : nrcI l k = fI c := by unfold nrcI; rw [hs]; rfl
    have hxI : nthI l k = fI l[k] := by unfold nthI; rw [List.getD_eq_getElem?_getD, List.getElem?_eq_getElem hlt]; rfl
    have hAk : absI (nthI l) (k + 1) ≤ absI (nthI l) l.length := absI_mono _ hk
    have hA1 : absI (nthI l) (k + 1) = absI (nthI l) k + (nthI l k).natAbs := rfl
    have hrep : ∀ i, i < k → Rep53 (nthI l i) := fun i hi => fI_rep (by
      have : i < l.length := by omega
      rw [List.getD_eq_getElem?_getD, List.getElem?_eq_getElem this]; exact hfk i this)
    have hsz : 1000000 * (neuI l k).natAbs ≤ 1000001 * absI (nthI l) k ∧ 1000 * (nrcI l k).natAbs ≤ absI (nthI l) k := by
      rcases Nat.eq_zero_or_pos k with rfl | hpos
      · rw [h0, c0]; simp
      · obtain ⟨j, rfl⟩ : ∃ j, k = j + 1 := ⟨k - 1, by omega⟩
        refine ⟨left_size (left_bound h0 hrep (fun i hi => (hc i hi).1) (by omega) j (Nat.le_refl _)) (by omega), ?_⟩
        obtain ⟨-, b1, b2, -⟩ := neu_bound h0 c0 hrep (fun i hi => (hc i hi).1) (fun i hi => (hc i hi).2.1) (fun i hi => (hc i hi).2.2) (by omega) j (Nat.le_refl _)
        exact rest_size (by omega) b1 b2 (sum_abs _ _)
    obtain ⟨t, d, htd, htl, hdl, htf, hdf, n1, n2, n3⟩ := neu_step hsl hcl (hx _ (List.getElem_mem hlt)) hsf hcf (hfk k hlt) hA (by rw [← hsI, ← hxI]; omega) (by rw [← hcI]; omega)
    have hnext : neuF (l.take (k + 1)) = (some t, some d) := by rw [neuF_take hlt, hs]; exact htd
    refine ⟨⟨t, d, hnext, htl, hdl, htf, hdf⟩, fun j hj => ?_⟩
    by_cases hjk : j = k
    · subst hjk
      rw [hsI, hxI, hcI, show neuI l (j + 1) = fI t by unfold neuI; rw [hnext]; rfl, show nrcI l (j + 1) = fI d by unfold nrcI; rw [hnext]; rfl]
      exact ⟨n1, n2, n3⟩
    · exact hc j (by omega)

/-- Neumaier's sum: how far off it is. -/
theorem neu_off {l : List Nat} (hx : ∀ x ∈ l, x < 18446744073709551616) (hf : l.all finB = true) (hn : l.length ≤ 4096) (h1 : 0 < l.length) (hA : absI (nthI l) l.length < 9007199254740992 * unU) :
    ∃ r, oA .add (neuF l).1 (neuF l).2 = some r ∧ r < 18446744073709551616 ∧ finB r = true ∧
      ((9007199254740992 : Int) * (fI r - sumI (nthI l) l.length).natAbs - (sumI (nthI l) l.length).natAbs) * ((9007199254740992 - (l.length - 1) : Nat) : Int) * ((9007199254740992 - (l.length - 1) : Nat) : Int) ≤
        9007199254740992 * ((l.length - 1 : Nat) * (l.length - 1 : Nat) * absI (nthI l) l.length) := by
  obtain ⟨⟨s, c, hs, hsl, hcl, hsf, hcf⟩, hc⟩ := neu_chain hx hf hn hA l.length (Nat.le_refl _)
  have h0 : neuI l 0 = 0 := by unfold neuI; rw [List.take_zero]; exact fI_zero (.inl rfl)
  have c0 : nrcI l 0 = 0 := by unfold nrcI; rw [List.take_zero]; exact fI_zero (.inl rfl)
  have hsI : neuI l l.length = fI s := by unfold neuI; rw [hs]; rfl
  have hcI : nrcI l l.length = fI c := by unfold nrcI; rw [hs]; rfl
  have hrep : ∀ i, i < l.length → Rep53 (nthI l i) := fun i hi => fI_rep (by
      rw [List.getD_eq_getElem?_getD, List.getElem?_eq_getElem hi]; exact List.all_eq_true.1 hf _ (List.getElem_mem hi))
  have hnb := neu_bound h0 c0 hrep (fun i hi => (hc i hi).1) (fun i hi => (hc i hi).2.1) (fun i hi => (hc i hi).2.2) (by omega) (l.length - 1) (by omega)
  have hlb := left_bound h0 hrep (fun i hi => (hc i hi).1) (by omega) (l.length - 1) (by omega)
  have hsz := left_size hlb (by omega)
  rw [show l.length - 1 + 1 = l.length by omega] at hnb hsz
  obtain ⟨b0, b1, b2, b3⟩ := hnb
  have hcz := rest_size (by omega) b1 b2 (sum_abs _ _)
  have hU := unU_pos
  rw [hsI] at hsz b0
  rw [hcI] at hcz b2 b3
  obtain ⟨r, hr, hrl, hrf, hrn⟩ := add_near hsl hcl hsf hcf (by generalize unU = U at *; omega)
  have hu := hrn.ulp
  rw [List.take_length] at hs
  refine ⟨r, by rw [hs]; exact hr, hrl, hrf, ?_⟩
  have key := neu_end (D := 9007199254740992) (m := l.length - 1) (g := (fI c - sumI (fun k => neuI l k + nthI l k - neuI l (k + 1)) l.length).natAbs) (B := absI (fun k => neuI l k + nthI l k - neuI l (k + 1)) l.length) (A := absI (nthI l) l.length)
    (R := (9007199254740992 : Int) * (fI r - sumI (nthI l) l.length).natAbs - (sumI (nthI l) l.length).natAbs) (by omega) b1 b2 (fun h => by
      obtain ⟨d1, d2⟩ := b3 h
      rw [d1, d2]; rfl) (by
      generalize sumI (fun k => neuI l k + nthI l k - neuI l (k + 1)) l.length = Q at *
      generalize sumI (nthI l) l.length = S at *
      omega)
  have e : ((9007199254740992 : Nat) : Int) = 9007199254740992 := rfl
  simpa only [Int.natCast_mul, e] using key

/-! By halves. -/
def sumL (l : List Nat) : Int := sumI (nthI l) l.length
def absL (l : List Nat) : Nat := absI (nthI l) l.length

theorem nth_take {l : List Nat} {h k : Nat} (hk : k < h) : nthI (l.take h) k = nthI l k := by
  unfold nthI
  rw [List.getD_eq_getElem?_getD, List.getD_eq_getElem?_getD, List.getElem?_take_of_lt hk]

theorem nth_drop {l : List Nat} {h k : Nat} : nthI (l.drop h) k = nthI l (h + k) := by
  unfold nthI
  rw [List.getD_eq_getElem?_getD, List.getD_eq_getElem?_getD, List.getElem?_drop]

theorem sumI_congr {a b : Nat → Int} {n : Nat} (h : ∀ k, k < n → a k = b k) : sumI a n = sumI b n ∧ absI a n = absI b n := by
  induction n with
  | zero => exact ⟨rfl, rfl⟩
  | succ n ih =>
    obtain ⟨h1, h2⟩ := ih fun k hk => h k (by omega)
    show sumI a n + a n = sumI b n + b n ∧ absI a n + (a n).natAbs = absI b n + (b n).natAbs
    rw [h1, h2, h n (by omega)]; exact ⟨rfl, rfl⟩

theorem sumI_split (a : Nat → Int) (h n : Nat) : sumI a (h + n) = sumI a h + sumI (fun k => a (h + k)) n ∧ absI a (h + n) = absI a h + absI (fun k => a (h + k)) n := by
  induction n with
  | zero => exact ⟨by show sumI a h = sumI a h + 0; omega, by show absI a h = absI a h + 0; omega⟩
  | succ n ih =>
    obtain ⟨h1, h2⟩ := ih
    constructor
    · show sumI a (h + n) + a (h + n) = sumI a h + (sumI (fun k => a (h + k)) n + a (h + n))
      rw [h1]; omega
    · show absI a (h + n) + (a (h + n)).natAbs = absI a h + (absI (fun k => a (h + k)) n + (a (h + n)).natAbs)
      rw [h2]; omega

theorem sum_halves {l : List Nat} {h : Nat} (hl : h ≤ l.length) : sumL l = sumL (l.take h) + sumL (l.drop h) ∧ absL l = absL (l.take h) + absL (l.drop h) := by
  obtain ⟨s1, s2⟩ := sumI_split (nthI l) h (l.length - h)
  rw [show h + (l.length - h) = l.length by omega] at s1 s2
  have h1 : (l.take h).length = h := by rw [List.length_take]; omega
  have h2 : (l.drop h).length = l.length - h := List.length_drop
  obtain ⟨a1, a2⟩ := sumI_congr (a := nthI (l.take h)) (b := nthI l) (n := h) fun k hk => nth_take hk
  obtain ⟨b1, b2⟩ := sumI_congr (a := nthI (l.drop h)) (b := fun k => nthI l (h + k)) (n := l.length - h) fun k _ => nth_drop
  unfold sumL absL
  rw [h1, h2, a1, a2, b1, b2]
  exact ⟨s1, s2⟩

theorem canon_of_fin {r : Nat} (h : finB r = true) : canonB r = r := canon_fin h

theorem hfN_bd {n d : Nat} (h2 : 2 ≤ n) (hd : n ≤ 2 ^ d) : 1 ≤ d ∧ hfN n < n ∧ 0 < hfN n ∧ hfN n ≤ 2 ^ (d - 1) ∧ n - hfN n ≤ 2 ^ (d - 1) := by
  have hd1 : 1 ≤ d := by
    rcases Nat.eq_zero_or_pos d with rfl | h
    · simp at hd; omega
    · exact h
  have hb := (bl_le_iff (N := n - 1) (k := d)).2 (by have := Nat.two_pow_pos d; omega)
  have hb0 : bl (n - 1) ≠ 0 := fun h => by
    have := (bl_le_iff (N := n - 1) (k := 0)).1 (by omega); simp at this; omega
  obtain ⟨j, hj⟩ : ∃ j, bl (n - 1) = j + 1 := ⟨bl (n - 1) - 1, by omega⟩
  have h3 := (bl_le_iff (N := n - 1) (k := j + 1)).1 (by omega)
  have h4 : ¬ n - 1 < 2 ^ j := fun h => by have := (bl_le_iff (N := n - 1) (k := j)).2 h; omega
  have hh : hfN n = 2 ^ j := by unfold hfN; rw [hj]; rfl
  have h5 : 2 ^ j ≤ 2 ^ (d - 1) := Nat.pow_le_pow_right (by decide) (by omega)
  have h6 : 2 ^ (j + 1) = 2 * 2 ^ j := by rw [Nat.pow_succ, Nat.mul_comm]
  have := Nat.two_pow_pos j
  rw [hh]
  omega

theorem pairs_off (f : Nat) : ∀ (l : List Nat) (d : Nat), l.length ≤ f → 0 < l.length → l.length ≤ 2 ^ d → d ≤ 64 → (∀ x ∈ l, x < 18446744073709551616) → l.all finB = true → absL l < 9007199254740992 * unU →
    finB (prB f l) = true ∧ (fI (prB f l) - sumL l).natAbs * (9007199254740992 - d) ≤ d * absL l := by
  induction f with
  | zero => intro l d h1 h2; omega
  | succ f ih =>
    intro l d hlf h0 hd hd64 hx hf hA
    by_cases h2 : 2 ≤ l.length
    · obtain ⟨e1, e2, e3, e4, e5⟩ := hfN_bd h2 hd
      rw [prB_two h2]
      generalize hfN l.length = h at *
      have l1 : (l.take h).length = h := by rw [List.length_take]; omega
      have l2 : (l.drop h).length = l.length - h := List.length_drop
      obtain ⟨t1, t2⟩ := sum_halves (l := l) (h := h) (by omega)
      have hf' := List.all_eq_true.1 hf
      obtain ⟨a1, a2⟩ := ih (l.take h) (d - 1) (by omega) (by omega) (by omega) (by omega) (fun x hm => hx x (List.mem_of_mem_take hm)) (List.all_eq_true.2 fun x hm => hf' x (List.mem_of_mem_take hm)) (by omega)
      obtain ⟨b1, b2⟩ := ih (l.drop h) (d - 1) (by omega) (by omega) (by omega) (by omega) (fun x hm => hx x (List.mem_of_mem_drop hm)) (List.all_eq_true.2 fun x hm => hf' x (List.mem_of_mem_drop hm)) (by omega)
      have pl1 : prB f (l.take h) < 18446744073709551616 := prB_lt fun x hm => hx x (List.mem_of_mem_take hm)
      have pl2 : prB f (l.drop h) < 18446744073709551616 := prB_lt fun x hm => hx x (List.mem_of_mem_drop hm)
      have z1 : (sumL (l.take h)).natAbs ≤ absL (l.take h) := sum_abs _ _
      have z2 : (sumL (l.drop h)).natAbs ≤ absL (l.drop h) := sum_abs _ _
      have w1 : (fI (prB f (l.take h)) - sumL (l.take h)).natAbs * 9007199254740928 ≤ 64 * absL (l.take h) := Nat.le_trans (Nat.mul_le_mul_left _ (by omega)) (Nat.le_trans a2 (Nat.mul_le_mul_right _ (by omega)))
      have w2 : (fI (prB f (l.drop h)) - sumL (l.drop h)).natAbs * 9007199254740928 ≤ 64 * absL (l.drop h) := Nat.le_trans (Nat.mul_le_mul_left _ (by omega)) (Nat.le_trans b2 (Nat.mul_le_mul_right _ (by omega)))
      have hU := unU_pos
      obtain ⟨r, hr, hrl, hrf, hrn⟩ := add_near pl1 pl2 a1 b1 (by generalize unU = U at *; omega)
      have hro : oA .add (some (prB f (l.take h))) (some (prB f (l.drop h))) = some r := hr
      rw [hro]
      show finB (canonB r) = true ∧ (fI (canonB r) - sumL l).natAbs * _ ≤ _
      rw [canon_of_fin hrf]
      refine ⟨hrf, ?_⟩
      have hst := halves_step (k := d - 1) (by omega) a2 b2 z1 z2 hrn
      rw [show d - 1 + 1 = d by omega, ← t1, ← t2] at hst
      exact hst
    · obtain ⟨x, rfl⟩ : ∃ x, l = [x] := by
        match l, h0, h2 with
        | [x], _, _ => exact ⟨x, rfl⟩
        | _ :: _ :: _, _, h2 => simp at h2
      have hfx : finB x = true := by simpa using hf
      show finB (canonB x) = true ∧ (fI (canonB x) - sumL [x]).natAbs * _ ≤ _
      rw [canon_of_fin hfx]
      have : sumL [x] = fI x := by show (0 : Int) + nthI [x] 0 = fI x; rw [Int.zero_add]; rfl
      rw [this, Int.sub_self]
      exact ⟨hfx, by simp⟩

/-- The exact sum, in units. -/
theorem fold_sum {l : List Nat} (hf : l.all finB = true) : -1074 ≤ (foldS (prs l)).2 ∧ sc 1074 (foldS (prs l)).1 (foldS (prs l)).2 = sumL l := by
  have key : ∀ k, k ≤ l.length → -1074 ≤ (foldS ((prs l).take k)).2 ∧ sc 1074 (foldS ((prs l).take k)).1 (foldS ((prs l).take k)).2 = sumI (nthI l) k := by
    intro k
    induction k with
    | zero => intro _; exact ⟨by show (-1074 : Int) ≤ 0; decide, sc_zero 1074 0⟩
    | succ k ih =>
      intro hk
      obtain ⟨i1, i2⟩ := ih (by omega)
      have hpl : (prs l).length = l.length := by unfold prs; simp
      have hl : k < (prs l).length := by omega
      have hpe := pE_bd (List.all_eq_true.1 hf _ (List.getElem_mem (show k < l.length from hk)))
      rw [foldS_take hl]
      have e1 : (prs l)[k]'hl = (valZ (l[k]'hk), pE (l[k]'hk)) := List.getElem_map _
      rw [e1]
      have h3 := plE_ge (M := 1074) (z := (foldS ((prs l).take k)).1) (e := (foldS ((prs l).take k)).2) (y := valZ l[k]) (f := pE l[k]) (by omega) (by omega)
      refine ⟨by dsimp only; omega, ?_⟩
      show sc 1074 (plZ _ _ _ _) (plE _ _ _ _) = sumI (nthI l) k + nthI l k
      rw [sc_pl (by omega) (by omega), i2]
      unfold nthI
      rw [List.getD_eq_getElem?_getD, List.getElem?_eq_getElem (show k < l.length from hk)]; rfl
  have := key l.length (Nat.le_refl _)
  rw [show (prs l).take l.length = prs l from List.take_of_length_le (by unfold prs; simp)] at this
  exact this

theorem exact_off {l : List Nat} (hf : l.all finB = true) (hA : (sumL l).natAbs < 18014398509481983 * unU) : finB (exB l) = true ∧ 9007199254740992 * (fI (exB l) - sumL l).natAbs ≤ (sumL l).natAbs := by
  obtain ⟨h1, h2⟩ := fold_sum hf
  cases hg : ngtB l
  · rw [exB_fin (spc_fin.2 hf) hg]
    unfold rndX
    by_cases h0 : (foldS (prs l)).1 = 0
    · rw [if_pos h0]
      rw [h0, sc_zero] at h2
      rw [← h2, fI_zero (.inl rfl)]
      exact ⟨by decide, by simp⟩
    · rw [if_neg h0]
      have hfin : finB (rndB (foldS (prs l)).1 (foldS (prs l)).2 0) = true := by
        cases hfb : finB (rndB (foldS (prs l)).1 (foldS (prs l)).2 0)
        · have h4 : finB (rndX (foldS (prs l)).1 (foldS (prs l)).2 0) = false := by rw [rndX, if_neg h0]; exact hfb
          obtain ⟨-, -, h5⟩ := near_inf (M := 1074) (by omega) (by omega) h4
          rw [← h2, natAbs_sc] at hA
          exfalso
          have h6 : (970 + 1074 : Int).toNat = unE := rfl
          rw [h6] at h5
          unfold unU at hA
          omega
        · rfl
      have hn := near_rnd (by omega) h0 hfin
      rw [h2] at hn
      refine ⟨hfin, ?_⟩
      have := hn.ulp
      omega
  · rw [exB_ngt (spc_fin.2 hf) hg]
    have := ngt_zero hg
    rw [this, sc_zero] at h2
    rw [← h2, fI_zero (.inr rfl)]
    exact ⟨by decide, by simp⟩

end Go.Proofs.YtjoajbbapfgaoaaGreatDoor
