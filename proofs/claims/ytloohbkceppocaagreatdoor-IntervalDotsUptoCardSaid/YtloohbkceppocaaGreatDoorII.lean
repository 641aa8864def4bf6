/- Sums and products of intervals rise with them. -/
import Derived.Test.YtloohbkceppocaaGreatDoorIH
section
namespace Go.Proofs.YtloohbkceppocaaGreatDoor
open Go.RowKit

/-- A place that a number may have. -/
def PlcR (x : Int) : Prop := -(kInf : Int) ≤ x ∧ x ≤ kInf

theorem pr_at {x y : Int} (hx : PlcR x) (hy : PlcR y) (h0 : 0 < y) (fy : y < kInf) (mode : Int) :
    (x = 0 ∧ prK (kb x) (kb y) mode = 0) ∨ (x ≠ 0 ∧ (-(kInf : Int) < x ∧ x < kInf) ∧ prK (kb x) (kb y) mode = mlK (kb x) (kb y) mode) ∨ (x = kInf ∧ prK (kb x) (kb y) mode = kInf) ∨ (x = -(kInf : Int) ∧ prK (kb x) (kb y) mode = -(kInf : Int)) := by
  rw [pr_form hx hy]
  have hk := kInf_pos
  obtain ⟨x1, x2⟩ := hx
  by_cases e : x = 0
  · exact .inl ⟨e, by rw [if_pos (.inl e)]⟩
  · rw [if_neg (by omega)]
    by_cases fx : -(kInf : Int) < x ∧ x < kInf
    · exact .inr (.inl ⟨e, fx, by rw [if_pos ⟨fx, by omega, fy⟩]⟩)
    · rw [if_neg (fun t => fx t.1)]
      by_cases e2 : x = kInf
      · exact .inr (.inr (.inl ⟨e2, by rw [if_pos (by omega)]⟩))
      · exact .inr (.inr (.inr ⟨by omega, by rw [if_neg (by omega)]⟩))

theorem pr_at_inf {x : Int} (hx : PlcR x) (mode : Int) :
    (x = 0 ∧ prK (kb x) (kb kInf) mode = 0) ∨ (0 < x ∧ prK (kb x) (kb kInf) mode = kInf) ∨ (x < 0 ∧ prK (kb x) (kb kInf) mode = -(kInf : Int)) := by
  have hk := kInf_pos
  rw [pr_form hx ⟨by omega, by omega⟩]
  by_cases e : x = 0
  · exact .inl ⟨e, by rw [if_pos (.inl e)]⟩
  · rw [if_neg (by omega), if_neg (fun t => by omega)]
    by_cases s : 0 < x
    · exact .inr (.inl ⟨s, by rw [if_pos (by omega)]⟩)
    · exact .inr (.inr ⟨by omega, by rw [if_neg (by omega)]⟩)

theorem pr_mono {x x' y : Int} (hx : PlcR x) (hx' : PlcR x') (hy : PlcR y) (h0 : 0 ≤ y) (h : x ≤ x') (mode : Int) (hm : mode = 3 ∨ mode = 4) : prK (kb x) (kb y) mode ≤ prK (kb x') (kb y) mode := by
  have hk := kInf_pos
  by_cases hy0 : y = 0
  · rw [pr_form hx hy, pr_form hx' hy, if_pos (.inr hy0), if_pos (.inr hy0)]; exact Int.le_refl _
  by_cases hyi : y = kInf
  · subst hyi
    have c1 := pr_at_inf hx mode
    have c2 := pr_at_inf hx' mode
    omega
  · have fy : -(kInf : Int) < y ∧ y < kInf := ⟨by omega, by have := hy.2; omega⟩
    have vy := (vv_pos fy.1 fy.2).1.1 h0
    have b1 := ml_bd (kb x) (kb y)
    have b2 := ml_bd (kb x') (kb y)
    have bx : -(kInf : Int) ≤ mlK (kb x) (kb y) mode ∧ mlK (kb x) (kb y) mode ≤ kInf := by rcases hm with rfl | rfl <;> omega
    have bx' : -(kInf : Int) ≤ mlK (kb x') (kb y) mode ∧ mlK (kb x') (kb y) mode ≤ kInf := by rcases hm with rfl | rfl <;> omega
    clear b1 b2
    rcases pr_at hx hy (by omega) fy.2 mode with ⟨e1, c1⟩ | ⟨e1, fx, c1⟩ | ⟨e1, c1⟩ | ⟨e1, c1⟩ <;> rcases pr_at hx' hy (by omega) fy.2 mode with ⟨e2, c2⟩ | ⟨e2, fx', c2⟩ | ⟨e2, c2⟩ | ⟨e2, c2⟩ <;> rw [c1, c2] <;> try omega
    · exact (ml_sign mode fx' fy).2 (Int.mul_nonneg ((vv_pos fx'.1 fx'.2).1.1 (by omega)) vy)
    · exact (ml_sign mode fx fy).1 (Int.mul_nonpos_of_nonpos_of_nonneg ((vv_pos fx.1 fx.2).2.1 (by omega)) vy)
    · exact ml_rises mode fx fy fx' fy (Int.mul_le_mul_of_nonneg_right ((vv_le fx.1 fx.2 fx'.1 fx'.2).1 h) vy)

theorem pr_anti {x x' y : Int} (hx : PlcR x) (hx' : PlcR x') (hy : PlcR y) (h0 : y ≤ 0) (h : x ≤ x') (mode : Int) (hm : mode = 3 ∨ mode = 4) : prK (kb x') (kb y) mode ≤ prK (kb x) (kb y) mode := by
  have := pr_mono (x := -x') (x' := -x) (y := -y) ⟨by have := hx'.2; omega, by have := hx'.1; omega⟩ ⟨by have := hx.2; omega, by have := hx.1; omega⟩ ⟨by have := hy.2; omega, by have := hy.1; omega⟩ (by omega) (by omega) mode hm
  rw [pr_neg hx' hy, pr_neg hx hy] at this
  exact this

/-- Between two places. -/
theorem pr_btw {a b x y : Int} (ha : PlcR a) (hb : PlcR b) (hx : PlcR x) (hy : PlcR y) (h1 : a ≤ x) (h2 : x ≤ b) (mode : Int) (hm : mode = 3 ∨ mode = 4) :
    min (prK (kb a) (kb y) mode) (prK (kb b) (kb y) mode) ≤ prK (kb x) (kb y) mode ∧ prK (kb x) (kb y) mode ≤ max (prK (kb a) (kb y) mode) (prK (kb b) (kb y) mode) := by
  rcases Int.le_total 0 y with h | h
  · have c1 := pr_mono ha hx hy h h1 mode hm
    have c2 := pr_mono hx hb hy h h2 mode hm
    omega
  · have c1 := pr_anti ha hx hy h h1 mode hm
    have c2 := pr_anti hx hb hy h h2 mode hm
    omega

theorem pr_box {a b c d x y : Int} (ha : PlcR a) (hb : PlcR b) (hc : PlcR c) (hd : PlcR d) (hx : PlcR x) (hy : PlcR y) (h1 : a ≤ x) (h2 : x ≤ b) (h3 : c ≤ y) (h4 : y ≤ d) (mode : Int) (hm : mode = 3 ∨ mode = 4) :
    min (min (prK (kb a) (kb c) mode) (prK (kb a) (kb d) mode)) (min (prK (kb b) (kb c) mode) (prK (kb b) (kb d) mode)) ≤ prK (kb x) (kb y) mode ∧
    prK (kb x) (kb y) mode ≤ max (max (prK (kb a) (kb c) mode) (prK (kb a) (kb d) mode)) (max (prK (kb b) (kb c) mode) (prK (kb b) (kb d) mode)) := by
  have k := pr_btw ha hb hx hy h1 h2 mode hm
  have k1 := pr_btw hc hd hy ha h3 h4 mode hm
  have k2 := pr_btw hc hd hy hb h3 h4 mode hm
  rw [pr_comm hc ha, pr_comm hd ha, pr_comm hy ha] at k1
  rw [pr_comm hc hb, pr_comm hd hb, pr_comm hy hb] at k2
  omega

end Go.Proofs.YtloohbkceppocaaGreatDoor
end

/- What holds more gives what holds more: sums, differences, products. -/
section
namespace Go.Proofs.YtloohbkceppocaaGreatDoor
open Go.RowKit

theorem inK_iff {l h m k : Int} : inK (some (l, h)) (some (m, k)) = true ↔ m ≤ l ∧ h ≤ k := by
  show (decide (m ≤ l) && decide (h ≤ k)) = true ↔ _
  rw [Bool.and_eq_true, decide_eq_true_iff, decide_eq_true_iff]

theorem su_bd {x y : Int} (hx : PlcR x) (hy : PlcR y) (mode : Int) (hm : mode = 3 ∨ mode = 4) : PlcR (suK (kb x) (kb y) mode) := by
  rw [su_form hx hy]
  have hb := ad_bd (kb x) (kb y)
  have : PlcR (adK (kb x) (kb y) mode) := by unfold PlcR; rcases hm with rfl | rfl <;> omega
  split
  · split
    · exact this
    · exact hy
  · exact hx

theorem su_low {x y x' y' : Int} (hx : PlcR x) (hy : PlcR y) (hx' : PlcR x') (hy' : PlcR y') (h1 : x' ≤ x) (h2 : y' ≤ y) (n1 : x < kInf) (n2 : y < kInf) : suK (kb x') (kb y') 4 ≤ suK (kb x) (kb y) 4 := by
  have hb := su_bd hx hy 4 (.inr rfl)
  obtain ⟨hb1, hb2⟩ := hb
  by_cases e1 : x' = -(kInf : Int)
  · rw [su_form hx' hy', if_neg (by omega), e1]; exact hb1
  by_cases e2 : y' = -(kInf : Int)
  · rw [su_form hx' hy']
    by_cases f : -(kInf : Int) < x' ∧ x' < kInf
    · rw [if_pos f, if_neg (by omega), e2]; exact hb1
    · exfalso; have := hx'.1; omega
  have fx' : -(kInf : Int) < x' ∧ x' < kInf := ⟨by have := hx'.1; omega, by omega⟩
  have fy' : -(kInf : Int) < y' ∧ y' < kInf := ⟨by have := hy'.1; omega, by omega⟩
  have fx : -(kInf : Int) < x ∧ x < kInf := ⟨by omega, n1⟩
  have fy : -(kInf : Int) < y ∧ y < kInf := ⟨by omega, n2⟩
  rw [su_form hx' hy', su_form hx hy, if_pos fx', if_pos fy', if_pos fx, if_pos fy]
  exact ad_rises 4 fx' fy' fx fy (Int.add_le_add ((vv_le fx'.1 fx'.2 fx.1 fx.2).1 h1) ((vv_le fy'.1 fy'.2 fy.1 fy.2).1 h2))

theorem su_high {x y x' y' : Int} (hx : PlcR x) (hy : PlcR y) (hx' : PlcR x') (hy' : PlcR y') (h1 : x ≤ x') (h2 : y ≤ y') (n1 : -(kInf : Int) < x) (n2 : -(kInf : Int) < y) : suK (kb x) (kb y) 3 ≤ suK (kb x') (kb y') 3 := by
  have hb := su_bd hx hy 3 (.inl rfl)
  obtain ⟨hb1, hb2⟩ := hb
  by_cases e1 : x' = kInf
  · rw [su_form hx' hy', if_neg (by omega), e1]; exact hb2
  by_cases e2 : y' = kInf
  · rw [su_form hx' hy']
    by_cases f : -(kInf : Int) < x' ∧ x' < kInf
    · rw [if_pos f, if_neg (by omega), e2]; exact hb2
    · exfalso; have := hx'.2; omega
  have fx' : -(kInf : Int) < x' ∧ x' < kInf := ⟨by omega, by have := hx'.2; omega⟩
  have fy' : -(kInf : Int) < y' ∧ y' < kInf := ⟨by omega, by have := hy'.2; omega⟩
  have fx : -(kInf : Int) < x ∧ x < kInf := ⟨n1, by omega⟩
  have fy : -(kInf : Int) < y ∧ y < kInf := ⟨n2, by omega⟩
  rw [su_form hx' hy', su_form hx hy, if_pos fx', if_pos fy', if_pos fx, if_pos fy]
  exact ad_rises 3 fx fy fx' fy' (Int.add_le_add ((vv_le fx.1 fx.2 fx'.1 fx'.2).1 h1) ((vv_le fy.1 fy.2 fy'.1 fy'.2).1 h2))

theorem addK_in {a b c d : Option (Int × Int)} (ha : Iok a) (hb : Iok b) (hc : Iok c) (hd : Iok d) (h1 : inK a c = true) (h2 : inK b d = true) : inK (addK a b) (addK c d) = true := by
  rcases a with _ | ⟨l, h⟩
  · rfl
  rcases b with _ | ⟨m, k⟩
  · rfl
  rcases c with _ | ⟨l', h'⟩
  · cases h1
  rcases d with _ | ⟨m', k'⟩
  · cases h2
  obtain ⟨a1, a2, a3, a4, a5⟩ := ha l h rfl
  obtain ⟨b1, b2, b3, b4, b5⟩ := hb m k rfl
  obtain ⟨c1, c2, c3, c4, c5⟩ := hc l' h' rfl
  obtain ⟨d1, d2, d3, d4, d5⟩ := hd m' k' rfl
  obtain ⟨e1, e2⟩ := inK_iff.1 h1
  obtain ⟨e3, e4⟩ := inK_iff.1 h2
  exact inK_iff.2 ⟨su_low ⟨by omega, by omega⟩ ⟨by omega, by omega⟩ ⟨by omega, by omega⟩ ⟨by omega, by omega⟩ e1 e3 a4 b4,
    su_high ⟨by omega, by omega⟩ ⟨by omega, by omega⟩ ⟨by omega, by omega⟩ ⟨by omega, by omega⟩ e2 e4 a5 b5⟩

theorem mulK_in {a b c d : Option (Int × Int)} (ha : Iok a) (hb : Iok b) (hc : Iok c) (hd : Iok d) (h1 : inK a c = true) (h2 : inK b d = true) : inK (mulK a b) (mulK c d) = true := by
  rcases a with _ | ⟨l, h⟩
  · rfl
  rcases b with _ | ⟨m, k⟩
  · rfl
  rcases c with _ | ⟨l', h'⟩
  · cases h1
  rcases d with _ | ⟨m', k'⟩
  · cases h2
  obtain ⟨a1, a2, a3, a4, a5⟩ := ha l h rfl
  obtain ⟨b1, b2, b3, b4, b5⟩ := hb m k rfl
  obtain ⟨c1, c2, c3, c4, c5⟩ := hc l' h' rfl
  obtain ⟨d1, d2, d3, d4, d5⟩ := hd m' k' rfl
  obtain ⟨e1, e2⟩ := inK_iff.1 h1
  obtain ⟨e3, e4⟩ := inK_iff.1 h2
  have R (x y mode : Int) (hm : mode = 3 ∨ mode = 4) (t1 : l' ≤ x) (t2 : x ≤ h') (t3 : m' ≤ y) (t4 : y ≤ k') := pr_box (a := l') (b := h') (c := m') (d := k') (x := x) (y := y) ⟨by omega, by omega⟩ ⟨by omega, by omega⟩ ⟨by omega, by omega⟩ ⟨by omega, by omega⟩ ⟨by omega, by omega⟩ ⟨by omega, by omega⟩ t1 t2 t3 t4 mode hm
  have r1 := (R l m 4 (.inr rfl) (by omega) (by omega) (by omega) (by omega)).1
  have r2 := (R l k 4 (.inr rfl) (by omega) (by omega) (by omega) (by omega)).1
  have r3 := (R h m 4 (.inr rfl) (by omega) (by omega) (by omega) (by omega)).1
  have r4 := (R h k 4 (.inr rfl) (by omega) (by omega) (by omega) (by omega)).1
  have s1 := (R l m 3 (.inl rfl) (by omega) (by omega) (by omega) (by omega)).2
  have s2 := (R l k 3 (.inl rfl) (by omega) (by omega) (by omega) (by omega)).2
  have s3 := (R h m 3 (.inl rfl) (by omega) (by omega) (by omega) (by omega)).2
  have s4 := (R h k 3 (.inl rfl) (by omega) (by omega) (by omega) (by omega)).2
  clear R a1 a2 a3 a4 a5 b1 b2 b3 b4 b5 c1 c2 c3 c4 c5 d1 d2 d3 d4 d5 e1 e2 e3 e4 ha hb hc hd h1 h2
  refine inK_iff.2 ⟨?_, ?_⟩
  · clear s1 s2 s3 s4; omega
  · clear r1 r2 r3 r4; omega

end Go.Proofs.YtloohbkceppocaaGreatDoor
end
