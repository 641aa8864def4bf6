/- Plain: numbers of 53 digits, rounded to the nearest: half a unit; what is lost can be had exactly; sums in order, by halves, Neumaier's. No program. -/
import Init
namespace Go.Proofs.YtjoajbbapfgaoaaGreatDoor

/-- A whole number that a float of 53 digits can be, whatever its size. -/
def Rep53 (x : Int) : Prop := ∃ (m : Int) (k : Nat), x = m * 2 ^ k ∧ m.natAbs ≤ 9007199254740992

/-- r is of those the nearest to x. -/
def NearR (x r : Int) : Prop := Rep53 r ∧ ∀ y, Rep53 y → (x - r).natAbs ≤ (x - y).natAbs

theorem Rep53.neg {x : Int} (h : Rep53 x) : Rep53 (-x) := by
  obtain ⟨m, k, rfl, hm⟩ := h
  exact ⟨-m, k, by rw [Int.neg_mul], by rw [Int.natAbs_neg]; exact hm⟩

theorem Rep53.small {x : Int} (h : x.natAbs ≤ 9007199254740992) : Rep53 x := ⟨x, 0, by simp, h⟩

theorem Rep53.zero : Rep53 0 := Rep53.small (by decide)

theorem NearR.self {x r : Int} (h : NearR x r) (hx : Rep53 x) : r = x := by
  have := h.2 x hx
  omega

theorem NearR.neg {x r : Int} (h : NearR x r) : NearR (-x) (-r) := by
  refine ⟨h.1.neg, fun y hy => ?_⟩
  have := h.2 (-y) hy.neg
  omega

/-- Between 2^52 and 2^53 steps of size 2^k: no farther than half a step. -/
theorem NearR.half {x r : Int} (h : NearR x r) (k : Nat) (hx : x.natAbs ≤ 9007199254740992 * 2 ^ k) : 2 * (x - r).natAbs ≤ 2 ^ k := by
  have hP : (0 : Int) < 2 ^ k := Int.pow_pos (by decide)
  obtain ⟨q, hq⟩ : ∃ q, x / 2 ^ k = q := ⟨_, rfl⟩
  have hdm := Int.mul_ediv_add_emod x (2 ^ k)
  have h1 := Int.emod_nonneg x (Int.ne_of_gt hP)
  have h2 := Int.emod_lt_of_pos x hP
  rw [hq] at hdm
  have hc : ((2 ^ k : Nat) : Int) = 2 ^ k := by rw [Int.natCast_pow]; rfl
  have hlo : q.natAbs ≤ 9007199254740992 ∧ (x % 2 ^ k ≠ 0 → (q + 1).natAbs ≤ 9007199254740992) := by
    have hxx := Int.ofNat_le.2 hx
    rw [Int.natCast_mul, hc] at hxx
    have hx1 : x ≤ 9007199254740992 * 2 ^ k := by omega
    have hx2 : -(9007199254740992 * 2 ^ k) ≤ x := by omega
    have h3 : q ≤ 9007199254740992 := by
      rw [← hq]; exact Int.ediv_le_of_le_mul hP hx1
    have h4 : -9007199254740992 ≤ q := by
      rw [← hq]; exact (Int.le_ediv_iff_mul_le hP).2 (by rw [Int.neg_mul]; exact hx2)
    refine ⟨by omega, fun h0 => ?_⟩
    have h5 : q ≠ 9007199254740992 := by
      intro h6
      subst h6
      have : (2 : Int) ^ k * 9007199254740992 = 9007199254740992 * 2 ^ k := Int.mul_comm _ _
      omega
    omega
  have hA := h.2 (q * 2 ^ k) ⟨q, k, rfl, hlo.1⟩
  have hqm : q * 2 ^ k = 2 ^ k * q := Int.mul_comm _ _
  by_cases h0 : x % 2 ^ k = 0
  · have : x - q * 2 ^ k = 0 := by omega
    rw [this] at hA
    have : (x - r).natAbs = 0 := by simpa using hA
    omega
  · have hB := h.2 ((q + 1) * 2 ^ k) ⟨q + 1, k, rfl, hlo.2 h0⟩
    have hq2 : (q + 1) * 2 ^ k = 2 ^ k * q + 2 ^ k := by rw [Int.add_mul, Int.one_mul, hqm]
    rw [hq2] at hB
    rw [hqm] at hA
    generalize (2 : Int) ^ k * q = g at *
    generalize hPk : (2 : Int) ^ k = P at *
    have hPn : ((2 ^ k : Nat) : Int) = P := hc
    generalize (2 ^ k : Nat) = Pn at *
    omega

/-- What is not as small as 2^53 steps lies between two powers. -/
theorem bin_of (n : Nat) : n ≤ 9007199254740992 ∨ ∃ k : Nat, 4503599627370496 * 2 ^ (k + 1) < n ∧ n ≤ 9007199254740992 * 2 ^ (k + 1) := by
  by_cases h : n ≤ 9007199254740992
  · exact .inl h
  · right
    have key : ∀ j : Nat, n ≤ 9007199254740992 * 2 ^ j → ∃ k : Nat, 4503599627370496 * 2 ^ (k + 1) < n ∧ n ≤ 9007199254740992 * 2 ^ (k + 1) := by
      intro j
      induction j with
      | zero => intro h2; simp at h2; omega
      | succ j ih =>
        intro h2
        by_cases h3 : n ≤ 9007199254740992 * 2 ^ j
        · exact ih h3
        · refine ⟨j, ?_, h2⟩
          rw [Nat.pow_succ]; omega
    refine key n ?_
    have := Nat.lt_two_pow_self (n := n)
    omega

/-- Half a unit in the last place. -/
theorem NearR.ulp {x r : Int} (h : NearR x r) : 9007199254740992 * (x - r).natAbs ≤ x.natAbs := by
  rcases bin_of x.natAbs with h1 | ⟨k, h1, h2⟩
  · rw [h.self (Rep53.small h1)]; simp
  · have := h.half (k + 1) h2
    omega

/-- What is nearest to a multiple of 2^j is one. -/
theorem NearR.dvd {x r : Int} (h : NearR x r) {j : Nat} (hd : (2 : Int) ^ j ∣ x) : (2 : Int) ^ j ∣ r := by
  obtain ⟨q, rfl⟩ := hd
  by_cases hq : q.natAbs ≤ 9007199254740992
  · rw [h.self ⟨q, j, Int.mul_comm _ _, hq⟩]; exact Int.dvd_mul_right _ _
  · have hP : (0 : Int) < 2 ^ j := Int.pow_pos (by decide)
    have hr : (9007199254740992 * 2 ^ j : Int) ≤ r.natAbs := by
      have e1 : (9007199254740992 : Int) * 2 ^ j = 2 ^ j * 9007199254740992 := Int.mul_comm _ _
      rcases Int.lt_or_lt_of_ne (show q ≠ 0 by omega) with hn | hp
      · have h1 := h.2 (-(9007199254740992 * 2 ^ j)) ⟨-9007199254740992, j, by rw [Int.neg_mul], by decide⟩
        have h2 : (2 : Int) ^ j * q ≤ 2 ^ j * (-9007199254740992) := Int.mul_le_mul_of_nonneg_left (by omega) (Int.le_of_lt hP)
        have e2 : (2 : Int) ^ j * (-9007199254740992) = -(2 ^ j * 9007199254740992) := Int.mul_neg _ _
        generalize (2 : Int) ^ j * q = x at *
        generalize (2 : Int) ^ j = P at *
        omega
      · have h1 := h.2 (9007199254740992 * 2 ^ j) ⟨9007199254740992, j, rfl, by decide⟩
        have h2 : (2 : Int) ^ j * 9007199254740992 ≤ 2 ^ j * q := Int.mul_le_mul_of_nonneg_left (by omega) (Int.le_of_lt hP)
        generalize (2 : Int) ^ j * q = x at *
        generalize (2 : Int) ^ j = P at *
        omega
    obtain ⟨m, i, rfl, hm⟩ := h.1
    by_cases hij : j ≤ i
    · refine Int.dvd_trans ?_ (Int.dvd_mul_left _ _)
      exact ⟨2 ^ (i - j), by rw [← Int.pow_add]; congr 1; omega⟩
    · exfalso
      have h3 : (m * 2 ^ i).natAbs = m.natAbs * 2 ^ i := by
        rw [Int.natAbs_mul, Int.natAbs_pow]; rfl
      have h4 : m.natAbs * 2 ^ i ≤ 9007199254740992 * 2 ^ i := Nat.mul_le_mul_right _ hm
      have h5 : (2 : Nat) ^ i < 2 ^ j := Nat.pow_lt_pow_right (by decide) (by omega)
      rw [h3] at hr
      have h6 : ((9007199254740992 * 2 ^ j : Nat) : Int) ≤ ((m.natAbs * 2 ^ i : Nat) : Int) := by
        rw [Int.natCast_mul, Int.natCast_pow]; exact hr
      have h7 := Int.ofNat_le.1 h6
      omega

theorem dvd_natAbs_le {j : Nat} {x : Int} (hd : (2 : Int) ^ j ∣ x) (hb : x.natAbs ≤ 9007199254740992 * 2 ^ j) : Rep53 x := by
  obtain ⟨q, rfl⟩ := hd
  refine ⟨q, j, Int.mul_comm _ _, ?_⟩
  have h3 : ((2 : Int) ^ j * q).natAbs = 2 ^ j * q.natAbs := by rw [Int.natAbs_mul, Int.natAbs_pow]; rfl
  rw [h3, Nat.mul_comm] at hb
  exact Nat.le_of_mul_le_mul_right hb (Nat.two_pow_pos j)

theorem Rep53.big {j : Nat} {t : Int} (h : Rep53 t) (hb : 9007199254740992 * 2 ^ j ≤ t.natAbs) : (2 : Int) ^ (j + 1) ∣ t := by
  obtain ⟨m, i, rfl, hm⟩ := h
  have h3 : (m * 2 ^ i).natAbs = m.natAbs * 2 ^ i := by rw [Int.natAbs_mul, Int.natAbs_pow]; rfl
  rw [h3] at hb
  by_cases hij : j + 1 ≤ i
  · refine Int.dvd_trans ?_ (Int.dvd_mul_left _ _)
    exact ⟨2 ^ (i - (j + 1)), by rw [← Int.pow_add]; congr 1; omega⟩
  · have h4 : m.natAbs * 2 ^ i ≤ 9007199254740992 * 2 ^ i := Nat.mul_le_mul_right _ hm
    have h5 : 2 ^ j ≤ 2 ^ i := by
      refine Nat.le_of_mul_le_mul_left (c := 9007199254740992) ?_ (by decide)
      exact Nat.le_trans hb h4
    have h6 : i = j := by
      have := (Nat.pow_le_pow_iff_right (a := 2) (by decide)).1 h5
      omega
    subst h6
    have h7 : m.natAbs = 9007199254740992 := by
      have := Nat.le_of_mul_le_mul_right hb (Nat.two_pow_pos i)
      omega
    rw [Int.pow_succ]
    rcases Int.natAbs_eq m with h8 | h8
    · rw [h8, h7]; exact ⟨4503599627370496, by rw [Int.mul_assoc, Int.mul_comm]; rfl⟩
    · rw [h8, h7]; exact ⟨-4503599627370496, by rw [Int.mul_assoc, Int.mul_comm]; rfl⟩

/-- The sum of two of which the first is no smaller: what is lost can be had exactly. -/
theorem fast_two {a b t : Int} (ha : Rep53 a) (hb : Rep53 b) (hab : b.natAbs ≤ a.natAbs) (h : NearR (a + b) t) : Rep53 (t - a) ∧ Rep53 (a + b - t) := by
  -- a step of both
  obtain ⟨j, mb, hbj, hmb, hda⟩ : ∃ (j : Nat) (mb : Int), b = mb * 2 ^ j ∧ mb.natAbs ≤ 9007199254740992 ∧ ((2 : Int) ^ j ∣ a) := by
    obtain ⟨mb, j, rfl, hmb⟩ := hb
    obtain ⟨ma, i, rfl, hma⟩ := ha
    by_cases hij : j ≤ i
    · refine ⟨j, mb, rfl, hmb, Int.dvd_trans ?_ (Int.dvd_mul_left _ _)⟩
      exact ⟨2 ^ (i - j), by rw [← Int.pow_add]; congr 1; omega⟩
    · refine ⟨i, mb * 2 ^ (j - i), by rw [Int.mul_assoc, ← Int.pow_add]; congr 2; omega, ?_, Int.dvd_mul_left _ _⟩
      have e1 : (ma * 2 ^ i).natAbs = ma.natAbs * 2 ^ i := by rw [Int.natAbs_mul, Int.natAbs_pow]; rfl
      have e2 : (mb * 2 ^ j).natAbs = (mb * 2 ^ (j - i)).natAbs * 2 ^ i := by
        rw [show (mb * 2 ^ j : Int) = mb * 2 ^ (j - i) * 2 ^ i by rw [Int.mul_assoc, ← Int.pow_add]; congr 2; omega, Int.natAbs_mul _ (2 ^ i), Int.natAbs_pow]; rfl
      rw [e1, e2] at hab
      exact Nat.le_trans (Nat.le_of_mul_le_mul_right hab (Nat.two_pow_pos i)) hma
  have hdb : (2 : Int) ^ j ∣ b := ⟨mb, by rw [hbj, Int.mul_comm]⟩
  have hbb : b.natAbs = mb.natAbs * 2 ^ j := by rw [hbj, Int.natAbs_mul, Int.natAbs_pow]; rfl
  have hble : b.natAbs ≤ 9007199254740992 * 2 ^ j := by rw [hbb]; exact Nat.mul_le_mul_right _ hmb
  have hds : (2 : Int) ^ j ∣ a + b := Int.dvd_add hda hdb
  have hdt := h.dvd hds
  have hde : (2 : Int) ^ j ∣ a + b - t := Int.dvd_sub hds hdt
  have he : (a + b - t).natAbs ≤ b.natAbs := by
    have := h.2 a ha
    omega
  refine ⟨?_, dvd_natAbs_le hde (Nat.le_trans he hble)⟩
  by_cases hsm : (t - a).natAbs ≤ 9007199254740992 * 2 ^ j
  · exact dvd_natAbs_le (Int.dvd_sub hdt hda) hsm
  · -- the sum is no float
    have hns : ¬ Rep53 (a + b) := fun hr => by
      have := h.self hr
      omega
    have hbig : 9007199254740992 * 2 ^ j < (a + b).natAbs := by
      rcases Nat.lt_or_ge (9007199254740992 * 2 ^ j) (a + b).natAbs with h1 | h1
      · exact h1
      · exact absurd (dvd_natAbs_le hds h1) hns
    have htb : 9007199254740992 * 2 ^ j ≤ t.natAbs := by
      have hc : ((2 ^ j : Nat) : Int) = 2 ^ j := by rw [Int.natCast_pow]; rfl
      have h1 := h.2 (9007199254740992 * 2 ^ j) ⟨9007199254740992, j, rfl, by decide⟩
      have h2 := h.2 (-(9007199254740992 * 2 ^ j)) ⟨-9007199254740992, j, by rw [Int.neg_mul], by decide⟩
      have hP : (0 : Int) < 2 ^ j := Int.pow_pos (by decide)
      rw [← hc] at h1 h2
      generalize (2 ^ j : Nat) = P at *
      omega
    have hd1 := h.1.big htb
    have hd2 : (2 : Int) ^ (j + 1) ∣ a := by
      obtain ⟨ma, i, hai, hma⟩ := ha
      by_cases hij : j + 1 ≤ i
      · rw [hai]
        refine Int.dvd_trans ?_ (Int.dvd_mul_left _ _)
        exact ⟨2 ^ (i - (j + 1)), by rw [← Int.pow_add]; congr 1; omega⟩
      · exfalso
        have haa : a.natAbs = ma.natAbs * 2 ^ i := by rw [hai, Int.natAbs_mul, Int.natAbs_pow]; rfl
        have hale : a.natAbs ≤ 9007199254740992 * 2 ^ j := by
          rw [haa]
          exact Nat.le_trans (Nat.mul_le_mul_right _ hma) (Nat.mul_le_mul_left _ (Nat.pow_le_pow_right (by decide) (by omega)))
        have hp : 2 ^ (j + 1) = 2 * 2 ^ j := by rw [Nat.pow_succ, Nat.mul_comm]
        have hh := h.half (j + 1) (by rw [hp]; omega)
        rw [hp] at hh
        by_cases hm : mb.natAbs = 9007199254740992
        · refine hns ?_
          rw [hm] at hbb
          have : a.natAbs = b.natAbs := by omega
          rcases Int.natAbs_eq_natAbs_iff.1 this with h5 | h5
          · rw [h5]
            refine ⟨mb, j + 1, ?_, hmb⟩
            rw [hbj, Int.pow_succ, ← Int.mul_assoc]; omega
          · rw [h5, Int.add_left_neg]; exact Rep53.zero
        · have h6 : mb.natAbs + 1 ≤ 9007199254740992 := by omega
          have h7 := Nat.mul_le_mul_right (2 ^ j) h6
          rw [Nat.add_mul, ← hbb, Nat.one_mul] at h7
          omega
    refine dvd_natAbs_le (j := j + 1) (Int.dvd_sub hd1 hd2) ?_
    rw [Nat.pow_succ]; omega

/-- One rounding more: the bound, on a bare inequality. -/
theorem gamma_step {D m e A f : Nat} (h : e * (D - m) ≤ m * A) (hm : m + 1 ≤ D) (h2 : D * f ≤ D * e + e + A) : f * (D - (m + 1)) ≤ (m + 1) * A := by
  obtain ⟨r, rfl⟩ : ∃ r, D = m + 1 + r := ⟨D - (m + 1), by omega⟩
  rw [show m + 1 + r - m = r + 1 by omega] at h
  rw [show m + 1 + r - (m + 1) = r by omega]
  -- D * (f * r) <= D * ((m + 1) * A)
  refine Nat.le_of_mul_le_mul_left (c := m + 1 + r) ?_ (by omega)
  have e1 : (m + 1 + r) * (f * r) ≤ ((m + 1 + r) * e + e + A) * r := by rw [← Nat.mul_assoc]; exact Nat.mul_le_mul_right _ h2
  have e2 : ((m + 1 + r) * e + e + A) * r = (m + 1 + r) * (e * r) + e * r + A * r := by rw [Nat.add_mul, Nat.add_mul, Nat.mul_assoc]
  have e3 : (m + 1 + r) * (e * (r + 1)) ≤ (m + 1 + r) * (m * A) := Nat.mul_le_mul_left _ h
  have e4 : (m + 1 + r) * (e * (r + 1)) = (m + 1 + r) * (e * r) + (m + 1 + r) * e := by rw [Nat.mul_add, Nat.mul_one, Nat.mul_add]
  have e5 : (m + 1 + r) * e = m * e + e + e * r := by rw [Nat.add_mul, Nat.add_mul, Nat.one_mul, Nat.mul_comm r e]
  have e6 : (m + 1 + r) * ((m + 1) * A) = (m + 1 + r) * (m * A) + (m * A + A + r * A) := by
    rw [Nat.add_mul m 1 A, Nat.one_mul, Nat.mul_add, Nat.add_mul (m + 1) r A, Nat.add_mul m 1 A, Nat.one_mul]
  have e7 : A * r = r * A := Nat.mul_comm _ _
  omega

/-- A rounded number near an exact one. -/
theorem round_step {D m : Nat} (hD : D = 9007199254740992) {s S s' : Int} {A : Nat} (hm : m + 1 ≤ D) (h : (s - S).natAbs * (D - m) ≤ m * A) (hS : S.natAbs ≤ A) (hr : NearR s s') :
    (s' - S).natAbs * (D - (m + 1)) ≤ (m + 1) * A := by
  refine gamma_step h hm ?_
  have h1 := hr.ulp
  subst hD
  omega


/-- Sums of the first k, and of their amounts. -/
def sumI (a : Nat → Int) : Nat → Int
  | 0 => 0
  | k + 1 => sumI a k + a k
def absI (a : Nat → Int) : Nat → Nat
  | 0 => 0
  | k + 1 => absI a k + (a k).natAbs

theorem sum_abs (a : Nat → Int) (k : Nat) : (sumI a k).natAbs ≤ absI a k := by
  induction k with
  | zero => exact Nat.le_refl _
  | succ k ih => show (sumI a k + a k).natAbs ≤ absI a k + (a k).natAbs; omega

/-- The sum in order: how far off. -/
theorem left_bound {a s : Nat → Int} {n : Nat} (h0 : s 0 = 0) (hr : ∀ k, k < n → Rep53 (a k)) (hs : ∀ k, k < n → NearR (s k + a k) (s (k + 1))) (hn : n ≤ 9007199254740992) :
    ∀ k, k + 1 ≤ n → (s (k + 1) - sumI a (k + 1)).natAbs * (9007199254740992 - k) ≤ k * absI a (k + 1) := by
  intro k
  induction k with
  | zero =>
    intro h1
    have h2 := (hs 0 (by omega))
    rw [h0, Int.zero_add] at h2
    rw [h2.self (hr 0 (by omega))]
    show ((a 0 - (0 + a 0)).natAbs) * _ ≤ _
    rw [Int.zero_add, Int.sub_self]; simp
  | succ k ih =>
    intro h1
    refine round_step rfl (s := s (k + 1) + a (k + 1)) (A := absI a (k + 2)) (by omega) ?_ (sum_abs a (k + 2)) (hs (k + 1) (by omega))
    have h2 := ih (by omega)
    show ((s (k + 1) + a (k + 1) - (sumI a (k + 1) + a (k + 1))).natAbs) * _ ≤ _
    rw [show s (k + 1) + a (k + 1) - (sumI a (k + 1) + a (k + 1)) = s (k + 1) - sumI a (k + 1) by omega]
    refine Nat.le_trans h2 (Nat.mul_le_mul_left _ ?_)
    show absI a (k + 1) ≤ absI a (k + 1) + _
    omega

/-- How great a sum in order can be. -/
theorem left_size {a s : Nat → Int} {k : Nat} (h : (s (k + 1) - sumI a (k + 1)).natAbs * (9007199254740992 - k) ≤ k * absI a (k + 1)) (hk : k ≤ 4096) : 1000000 * (s (k + 1)).natAbs ≤ 1000001 * absI a (k + 1) := by
  have h1 := sum_abs a (k + 1)
  have h2 : (s (k + 1) - sumI a (k + 1)).natAbs * 9007199254736896 ≤ 4096 * absI a (k + 1) :=
    Nat.le_trans (Nat.mul_le_mul_left _ (by omega)) (Nat.le_trans h (Nat.mul_le_mul_right _ hk))
  generalize absI a (k + 1) = A at *
  generalize sumI a (k + 1) = S at *
  omega

/-- Neumaier's sum. -/
theorem neu_bound {a s c : Nat → Int} {n : Nat} (h0 : s 0 = 0) (c0 : c 0 = 0) (hr : ∀ k, k < n → Rep53 (a k)) (hs : ∀ k, k < n → NearR (s k + a k) (s (k + 1)))
    (hq : ∀ k, k < n → Rep53 (s k + a k - s (k + 1))) (hc : ∀ k, k < n → NearR (c k + (s k + a k - s (k + 1))) (c (k + 1))) (hn : n ≤ 9007199254740992) :
    ∀ k, k + 1 ≤ n → sumI (fun k => s k + a k - s (k + 1)) (k + 1) = sumI a (k + 1) - s (k + 1) ∧ absI (fun k => s k + a k - s (k + 1)) (k + 1) * (9007199254740992 - k) ≤ k * absI a (k + 1) ∧
      (c (k + 1) - sumI (fun k => s k + a k - s (k + 1)) (k + 1)).natAbs * (9007199254740992 - (k - 1)) ≤ (k - 1) * absI (fun k => s k + a k - s (k + 1)) (k + 1) ∧ (k = 0 → c (k + 1) = 0 ∧ sumI (fun k => s k + a k - s (k + 1)) (k + 1) = 0) := by
  generalize hqd : (fun k => s k + a k - s (k + 1)) = q
  have hqk : ∀ k, s k + a k - s (k + 1) = q k := fun k => by rw [← hqd]
  have hS : ∀ k, sumI q k = sumI a k - s k := by
    intro k
    induction k with
    | zero => show (0 : Int) = 0 - s 0; rw [h0]; rfl
    | succ k ih => show sumI q k + q k = sumI a k + a k - s (k + 1); rw [ih, ← hqk]; omega
  intro k
  refine fun h1 => ⟨hS _, ?_⟩
  induction k with
  | zero =>
    have h2 := (hs 0 (by omega))
    rw [h0, Int.zero_add] at h2
    have h3 := h2.self (hr 0 (by omega))
    have h4 : q 0 = 0 := by rw [← hqk 0, h0, h3]; omega
    have h5 := hc 0 (by omega)
    rw [hqk 0, h4, c0, Int.zero_add] at h5
    have h6 := h5.self Rep53.zero
    have h7 : absI q 1 = 0 := by show 0 + (q 0).natAbs = 0; rw [h4]; rfl
    have h8 : sumI q 1 = 0 := by show 0 + q 0 = 0; rw [h4]; rfl
    show absI q 1 * _ ≤ _ ∧ (c 1 - sumI q 1).natAbs * _ ≤ _ ∧ (0 = 0 → c 1 = 0 ∧ sumI q 1 = 0)
    rw [h7, h8, h6]; simp
  | succ k ih =>
    obtain ⟨i1, i2, i3⟩ := ih (by omega)
    have hu := (hs (k + 1) (by omega)).ulp
    have hub : (sumI q (k + 1)).natAbs ≤ absI q (k + 1) := sum_abs q (k + 1)
    have hua : (sumI a (k + 2)).natAbs ≤ absI a (k + 2) := sum_abs a (k + 2)
    have hsk := hS (k + 1)
    have hA : absI a (k + 2) = absI a (k + 1) + (a (k + 1)).natAbs := rfl
    have hSA : sumI a (k + 2) = sumI a (k + 1) + a (k + 1) := rfl
    have hB : absI q (k + 2) = absI q (k + 1) + (q (k + 1)).natAbs := rfl
    have hQ : sumI q (k + 2) = sumI q (k + 1) + q (k + 1) := rfl
    rw [hqk] at hu
    refine ⟨?_, ?_, fun h => by omega⟩
    · show absI q (k + 2) * _ ≤ _ * absI a (k + 2)
      refine gamma_step (e := absI q (k + 1)) (Nat.le_trans i1 (Nat.mul_le_mul_left _ (by omega))) (by omega) ?_
      rw [hB]
      clear i1 i2 i3
      omega
    · show (c (k + 2) - sumI q (k + 2)).natAbs * (9007199254740992 - k) ≤ k * absI q (k + 2)
      have hck := hc (k + 1) (by omega)
      rw [hqk] at hck
      by_cases hk : k = 0
      · subst hk
        obtain ⟨j1, j2⟩ := i3 rfl
        have hcc : c (0 + 1) = 0 := j1
        rw [hcc, Int.zero_add] at hck
        have hrq := hq 1 (by omega)
        rw [hqk] at hrq
        have hc2 : c 2 = q 1 := hck.self hrq
        have hq2 : sumI q 2 = q 1 := by rw [show sumI q 2 = sumI q 1 + q 1 from rfl, show sumI q 1 = 0 from j2, Int.zero_add]
        show (c 2 - sumI q 2).natAbs * _ ≤ _
        rw [hc2, hq2, Int.sub_self]; simp
      · obtain ⟨m, rfl⟩ : ∃ m, k = m + 1 := ⟨k - 1, by omega⟩
        refine round_step rfl (by omega) ?_ (sum_abs q (m + 1 + 2)) hck
        rw [hQ, show c (m + 1 + 1) + q (m + 1 + 1) - (sumI q (m + 1 + 1) + q (m + 1 + 1)) = c (m + 1 + 1) - sumI q (m + 1 + 1) by omega]
        exact Nat.le_trans i2 (Nat.mul_le_mul_left _ (by omega))

/-- What the law asks of it, of bare numbers. -/
theorem neu_end {D m g B A : Nat} {R : Int} (hm : m ≤ D) (hB : B * (D - m) ≤ m * A) (hg : g * (D - (m - 1)) ≤ (m - 1) * B) (h0 : m = 0 → g = 0) (hR : R ≤ (D + 1) * g) : R * (D - m : Nat) * (D - m : Nat) ≤ D * (m * m * A) := by
  have e0 : R * (D - m : Nat) * (D - m : Nat) ≤ (D + 1) * g * (D - m : Nat) * (D - m : Nat) := by
    have h1 : (0 : Int) ≤ ((D - m : Nat) : Int) := Int.natCast_nonneg _
    exact Int.mul_le_mul_of_nonneg_right (Int.mul_le_mul_of_nonneg_right hR h1) h1
  refine Int.le_trans e0 ?_
  have e1 : (D + 1) * g * (D - m) * (D - m) ≤ D * (m * m * A) := by
    by_cases hm0 : m = 0
    · rw [h0 hm0]; simp
    · obtain ⟨p, rfl⟩ : ∃ p, m = p + 1 := ⟨m - 1, by omega⟩
      obtain ⟨r, rfl⟩ : ∃ r, D = p + 1 + r := ⟨D - (p + 1), by omega⟩
      rw [show p + 1 + r - (p + 1) = r by omega] at *
      rw [show p + 1 - 1 = p by omega, show p + 1 + r - p = r + 1 by omega] at hg
      have h2 : (p + 1 + r + 1) * g * r ≤ (p + 1 + r) * (p * B) := by
        have k1 : (p + 1 + r) * (g * (r + 1)) ≤ (p + 1 + r) * (p * B) := Nat.mul_le_mul_left _ hg
        refine Nat.le_trans ?_ k1
        have k2 : (p + 1 + r) * (g * (r + 1)) = (p + 1 + r) * (g * r) + (p * g + g + r * g) := by
          rw [Nat.mul_add g r 1, Nat.mul_one, Nat.mul_add]
          rw [Nat.add_mul (p + 1) r g, Nat.add_mul p 1 g, Nat.one_mul]
        have k3 : (p + 1 + r + 1) * g * r = (p + 1 + r) * (g * r) + g * r := by
          rw [Nat.mul_assoc, Nat.add_mul (p + 1 + r) 1 (g * r), Nat.one_mul]
        have k4 : g * r = r * g := Nat.mul_comm _ _
        omega
      calc (p + 1 + r + 1) * g * r * r ≤ (p + 1 + r) * (p * B) * r := Nat.mul_le_mul_right _ h2
        _ = (p + 1 + r) * (p * (B * r)) := by rw [Nat.mul_assoc, Nat.mul_assoc]
        _ ≤ (p + 1 + r) * (p * ((p + 1) * A)) := Nat.mul_le_mul_left _ (Nat.mul_le_mul_left _ hB)
        _ ≤ (p + 1 + r) * ((p + 1) * (p + 1) * A) := by
          refine Nat.mul_le_mul_left _ ?_
          rw [← Nat.mul_assoc]
          exact Nat.mul_le_mul_right _ (Nat.mul_le_mul_right _ (by omega))
  have e2 := Int.ofNat_le.2 e1
  simpa only [Int.natCast_mul, Int.natCast_add, Int.natCast_one] using e2

/-- By halves: how far off; the depth is k. -/
theorem halves_step {k : Nat} {s1 s2 S1 S2 r : Int} {A1 A2 : Nat} (hk : k + 1 ≤ 9007199254740992) (h1 : (s1 - S1).natAbs * (9007199254740992 - k) ≤ k * A1) (h2 : (s2 - S2).natAbs * (9007199254740992 - k) ≤ k * A2)
    (b1 : S1.natAbs ≤ A1) (b2 : S2.natAbs ≤ A2) (hr : NearR (s1 + s2) r) : (r - (S1 + S2)).natAbs * (9007199254740992 - (k + 1)) ≤ (k + 1) * (A1 + A2) := by
  refine round_step rfl hk ?_ (by omega) hr
  have h3 : (s1 + s2 - (S1 + S2)).natAbs ≤ (s1 - S1).natAbs + (s2 - S2).natAbs := by omega
  refine Nat.le_trans (Nat.mul_le_mul_right _ h3) ?_
  rw [Nat.add_mul, Nat.mul_add]
  exact Nat.add_le_add h1 h2

end Go.Proofs.YtjoajbbapfgaoaaGreatDoor
