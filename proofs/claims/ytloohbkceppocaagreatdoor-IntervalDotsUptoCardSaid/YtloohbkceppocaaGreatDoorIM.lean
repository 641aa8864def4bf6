/- Plain: what a dot product of intervals holds: the exact sum, and the rounded one. -/
import Derived.Test.YtloohbkceppocaaGreatDoorZIww
import Derived.Test.YtloohbkceppocaaGreatDoorGV
import Derived.Test.YtloohbkceppocaaGreatDoorZSr0
import Derived.Test.YtloohbkceppocaaGreatDoorGR
import Derived.Test.YtloohbkceppocaaGreatDoorIG
import Derived.Test.YtloohbkceppocaaGreatDoorZBks
section
namespace Go.Proofs.YtloohbkceppocaaGreatDoor
open Go.RowKit

/-- An interval that holds the exact value t / 2^M. -/
def HasV (o : Option (Int × Int)) (M t : Int) : Prop := ∃ l h, o = some (l, h) ∧ (-(kInf : Int) < l → vI M (kb l) ≤ t) ∧ (h < kInf → t ≤ vI M (kb h))

theorem Enc.hasV {o : Option (Int × Int)} {z e M : Int} (ho : Iok o) (h : Enc o z e) (hM : 1074 ≤ M) (h1 : 0 ≤ e + M) : HasV o M (sc M z e) := by
  obtain ⟨l, u, rfl, a, b⟩ := h
  exact ⟨l, u, rfl, fun hl => enc_low hM h1 a hl, fun hu => enc_high hM h1 b hu⟩

theorem vI_back {M : Int} {b : Nat} (hb : W64 b) : vI M (kb (ky b)) = vI M b := by
  unfold vI
  rw [(own_parts hb).1, (own_parts hb).2]

theorem HasV.add {a b : Option (Int × Int)} {M s t : Int} (ha : Iok a) (hb : Iok b) (hM : 1074 ≤ M) (h1 : HasV a M s) (h2 : HasV b M t) : HasV (addK a b) M (s + t) := by
  obtain ⟨l, h, rfl, p1, p2⟩ := h1
  obtain ⟨m, k, rfl, q1, q2⟩ := h2
  obtain ⟨a1, a2, a3, a4, a5⟩ := ha l h rfl
  obtain ⟨b1, b2, b3, b4, b5⟩ := hb m k rfl
  refine ⟨suK (kb l) (kb m) 4, suK (kb h) (kb k) 3, rfl, fun hl => ?_, fun hh => ?_⟩
  · rw [su_form ⟨a1, by omega⟩ ⟨b1, by omega⟩] at hl ⊢
    by_cases c1 : -(kInf : Int) < l
    · rw [if_pos ⟨c1, a4⟩] at hl ⊢
      by_cases c2 : -(kInf : Int) < m
      · rw [if_pos ⟨c2, b4⟩] at hl ⊢
        obtain ⟨-, f1, -, -⟩ := kb_fin c1 a4
        obtain ⟨-, f2, -, -⟩ := kb_fin c2 b4
        have e1 := pE_bd f1
        have e2 := pE_bd f2
        unfold adK at hl ⊢
        have hp := plE_in (z := valZ (kb l)) (y := valZ (kb m)) e1.1 e1.2 e2.1 e2.2
        generalize hZ : plZ (valZ (kb l)) (pE (kb l)) (valZ (kb m)) (pE (kb m)) = Z at *
        generalize hE : plE (valZ (kb l)) (pE (kb l)) (valZ (kb m)) (pE (kb m)) = E at *
        obtain ⟨r1, r2⟩ := rndX_lt Z E 4
        have adj := rndX_adj Z E
        have hf := (fin_ky r1 r2).2 ⟨hl, adj.2.2.1⟩
        have hd := rndX_down_le hM (by omega) hf
        rw [vI_back r1]
        have hs := sc_pl (M := M) (z := valZ (kb l)) (e := pE (kb l)) (y := valZ (kb m)) (f := pE (kb m)) (by omega) (by omega)
        rw [hZ, hE] at hs
        have := p1 c1
        have := q1 c2
        unfold vI at *
        omega
      · rw [if_neg (fun t => c2 t.1)] at hl
        exact absurd hl c2
    · rw [if_neg (fun t => c1 t.1)] at hl
      exact absurd hl c1
  · rw [su_form ⟨by omega, a3⟩ ⟨by omega, b3⟩] at hh ⊢
    by_cases c1 : h < kInf
    · rw [if_pos ⟨a5, c1⟩] at hh ⊢
      by_cases c2 : k < kInf
      · rw [if_pos ⟨b5, c2⟩] at hh ⊢
        obtain ⟨-, f1, -, -⟩ := kb_fin a5 c1
        obtain ⟨-, f2, -, -⟩ := kb_fin b5 c2
        have e1 := pE_bd f1
        have e2 := pE_bd f2
        unfold adK at hh ⊢
        have hp := plE_in (z := valZ (kb h)) (y := valZ (kb k)) e1.1 e1.2 e2.1 e2.2
        generalize hZ : plZ (valZ (kb h)) (pE (kb h)) (valZ (kb k)) (pE (kb k)) = Z at *
        generalize hE : plE (valZ (kb h)) (pE (kb h)) (valZ (kb k)) (pE (kb k)) = E at *
        obtain ⟨r1, r2⟩ := rndX_lt Z E 3
        have up := rndX_up_low Z E
        have hf := (fin_ky r1 r2).2 ⟨up, hh⟩
        have hd := rndX_up_ge hM (by omega) hf
        rw [vI_back r1]
        have hs := sc_pl (M := M) (z := valZ (kb h)) (e := pE (kb h)) (y := valZ (kb k)) (f := pE (kb k)) (by omega) (by omega)
        rw [hZ, hE] at hs
        have := p2 c1
        have := q2 c2
        unfold vI at *
        omega
      · rw [if_neg (fun t => c2 t.2)] at hh
        exact absurd hh c2
    · rw [if_neg (fun t => c1 t.2)] at hh
      exact absurd hh c1

theorem HasV.hold {o : Option (Int × Int)} {z e M : Int} (ho : Iok o) (hM : 1074 ≤ M) (h1 : 0 ≤ e + M) (h : HasV o M (sc M z e)) : HoldQ o z e 1 0 := by
  obtain ⟨l, u, rfl, p1, p2⟩ := h
  obtain ⟨a1, a2, a3, a4, a5⟩ := ho l u rfl
  refine ⟨l, u, rfl, fun hl => ?_, fun hu => ?_⟩
  · obtain ⟨a, b, c, d⟩ := kb_fin (k := l) hl a4
    have ep := pE_bd b
    refine (cmp_sc (M := M) (by omega) h1).1.2 ?_
    rw [Int.mul_one, Int.add_zero]
    exact p1 hl
  · obtain ⟨a, b, c, d⟩ := kb_fin (k := u) a5 hu
    have ep := pE_bd b
    refine (cmp_sc (M := M) (by omega) h1).2.1.2 ?_
    rw [Int.mul_one, Int.add_zero]
    exact p2 hu

theorem holdV_of {o : Option (Int × Int)} (ho : Iok o) {zn en M : Int} (hM : 1074 ≤ M) (h1 : 0 ≤ en + M) (h : HasV o M (sc M zn en)) (bn : bl zn.natAbs ≤ 60000) (n1 : -60000 ≤ en) (n2 : en ≤ 60000) (b : Nat) (w : World) (hn : RInt w b zn) :
    Calls Tryz.prog 17 #[.agg #[.float .f64 (ivL o), .float .f64 (ivH o)], ExV b en] w (Gives (.bool true) w) := by
  obtain ⟨a1, a2, a3, a4, a5, a6, a7, a8⟩ := hold_args ho (h.hold ho hM h1)
  exact holds_true _ _ b zn en w a1 a2 a3 a4 a5 a6 hn bn n1 n2 a7 a8

theorem fin_or {x : Nat} (h : finB x = false) : nanB x = true ∨ x % kSign = kInf := by
  cases hn : nanB x
  · right
    rcases fin_word (num_iff.1 hn) with ⟨h1, h2⟩ | ⟨h1, h2⟩
    · rw [h1] at h; cases h
    · exact h2
  · left; rfl

theorem inf_fin (s : Bool) : finB (F6.write (.infinity s)) = false := by cases s <;> decide

theorem fadd_both {x y r : Nat} (h : F6.add x y = some r) (fr : finB r = true) : finB x = true ∧ finB y = true := by
  have nan : ¬ (nanB x = true ∨ nanB y = true) := fun hn => by
    have := bits_nan (op := .add) hn
    rw [show floatBits .add .f64 x y = F6.add x y from rfl, h] at this
    cases this
  unfold Ieee.Format.add at h
  constructor
  · cases fx : finB x
    · exfalso
      rcases fin_or fx with h1 | h1
      · exact nan (.inl h1)
      · obtain ⟨s, hs⟩ := read_infinite h1
        rw [hs] at h
        cases hy : F6.read y with
        | nan a b => rw [hy] at h; cases h
        | infinity t =>
          rw [hy] at h
          cases s <;> cases t <;> first | (obtain rfl := Option.some.inj h; rw [inf_fin] at fr; cases fr) | cases h
        | number a b c =>
          rw [hy] at h
          obtain rfl := Option.some.inj h
          rw [inf_fin] at fr; cases fr
    · rfl
  · cases fy : finB y
    · exfalso
      rcases fin_or fy with h1 | h1
      · exact nan (.inr h1)
      · obtain ⟨s, hs⟩ := read_infinite h1
        rw [hs] at h
        cases hx : F6.read x with
        | nan a b => rw [hx] at h; cases h
        | infinity t =>
          rw [hx] at h
          cases s <;> cases t <;> first | (obtain rfl := Option.some.inj h; rw [inf_fin] at fr; cases fr) | cases h
        | number a b c =>
          rw [hx] at h
          obtain rfl := Option.some.inj h
          rw [inf_fin] at fr; cases fr
    · rfl

/-- One more summand: the rounded sum stays within. -/
theorem dot_round {d m : Option (Int × Int)} (hd : Iok d) (hm : Iok m) {s p : Nat} (hs : W64 s) (hp : W64 p) (h1 : finB s = true → hasK d s = true) (h2 : finB p = true → hasK m p = true) (w : World) :
    W64 (fV .add s p w) ∧ (finB (fV .add s p w) = true → hasK (addK d m) (fV .add s p w) = true) := by
  have hr := (Rep.op (op := .add) (Rep.of hs) (Rep.of hp) w).1
  refine ⟨hr, fun hf => ?_⟩
  unfold fV at *
  cases hb : floatBits .add .f64 s p with
  | none =>
    rw [hb] at hf
    have := (nz_nan s p w).2
    have h3 := nan_fin hf
    rw [this] at h3; cases h3
  | some r =>
    rw [hb] at hf
    obtain ⟨fs, fp⟩ := fadd_both hb hf
    obtain ⟨r', r1, r2, r3⟩ := plus_word hs hp fs fp
    obtain rfl : r = r' := Option.some.inj (hb.symm.trans r1)
    exact (enc_add hd hm hs hp (h1 fs) (h2 fp)).has hf r3

/-- The dot product of the first k. -/
def dotK (us vs : List (Nat × Nat)) : Nat → Option (Int × Int)
  | 0 => some (0, 0)
  | k + 1 => addK (dotK us vs k) (mulK (ivK (us.getD k (0, 0)).1 (us.getD k (0, 0)).2) (ivK (vs.getD k (0, 0)).1 (vs.getD k (0, 0)).2))

def EndsL (l : List (Nat × Nat)) : Prop := ∀ p ∈ l, W64 p.1 ∧ W64 p.2
theorem EndsL.at {l : List (Nat × Nat)} (h : EndsL l) (k : Nat) : W64 (l.getD k (0, 0)).1 ∧ W64 (l.getD k (0, 0)).2 := by
  rw [List.getD_eq_getElem?_getD]
  cases e : l[k]? with
  | none => exact ⟨by decide, by decide⟩
  | some p => exact h p (List.mem_of_getElem? e)

theorem nought_ok : Iok (some ((0 : Int), (0 : Int))) := by have := kInf_pos; exact Iok.some (by omega) (by omega) (by omega) (by omega) (by omega)
theorem dotK_ok {us vs : List (Nat × Nat)} (hu : EndsL us) (hv : EndsL vs) (k : Nat) : Iok (dotK us vs k) := by
  induction k with
  | zero => exact nought_ok
  | succ k ih => exact addK_ok ih (mulK_ok (ivK_ok (hu.at k).1 (hu.at k).2) (ivK_ok (hv.at k).1 (hv.at k).2))

/-- The exact sum of the first k. -/
def dotX (x y : List Nat) : Nat → Int × Int
  | 0 => (0, 0)
  | k + 1 => (plZ (dotX x y k).1 (dotX x y k).2 (valZ (x.getD k 0) * valZ (y.getD k 0)) (pE (x.getD k 0) + pE (y.getD k 0)), plE (dotX x y k).1 (dotX x y k).2 (valZ (x.getD k 0) * valZ (y.getD k 0)) (pE (x.getD k 0) + pE (y.getD k 0)))

/-- What the law's loop has shown of the first k. -/
def DotOk (us vs : List (Nat × Nat)) (x y : List Nat) (k : Nat) : Prop := ∀ i, i < k → hasK (ivK (us.getD i (0, 0)).1 (us.getD i (0, 0)).2) (x.getD i 0) = true ∧ hasK (ivK (vs.getD i (0, 0)).1 (vs.getD i (0, 0)).2) (y.getD i 0) = true

theorem abs_pow_le {a : Int} {n k : Nat} (h : a.natAbs < 2 ^ n) (hk : n ≤ k) : a.natAbs < 2 ^ k := Nat.lt_of_lt_of_le h (Nat.pow_le_pow_right (by decide) hk)

theorem sc_nat {M z e : Int} : (sc M z e).natAbs = z.natAbs * 2 ^ (e + M).toNat := by
  unfold sc
  rw [Int.natAbs_mul, Int.natAbs_pow]
  rfl

/-- A bound's exponent. -/
def dxE : Nat := 4300
theorem dxE_eq : dxE = 4300 := rfl

theorem dotX_ok {us vs : List (Nat × Nat)} {x y : List Nat} (hu : EndsL us) (hv : EndsL vs) (hx : ∀ k, W64 (x.getD k 0)) (hy : ∀ k, W64 (y.getD k 0)) (k : Nat) (h : DotOk us vs x y k) :
    HasV (dotK us vs k) 2148 (sc 2148 (dotX x y k).1 (dotX x y k).2) ∧ -2148 ≤ (dotX x y k).2 ∧ (dotX x y k).2 ≤ 2046 ∧ (sc 2148 (dotX x y k).1 (dotX x y k).2).natAbs ≤ k * 2 ^ dxE := by
  induction k with
  | zero =>
    refine ⟨⟨0, 0, rfl, fun _ => ?_, fun _ => ?_⟩, show (-2148 : Int) ≤ 0 by decide, show (0 : Int) ≤ 2046 by decide, ?_⟩
    · show vI 2148 (kb 0) ≤ sc 2148 0 0
      rw [sc_zero, show kb 0 = 0 by decide]
      unfold vI
      rw [show valZ 0 = 0 by decide, sc_zero]; exact Int.le_refl _
    · show sc 2148 0 0 ≤ vI 2148 (kb 0)
      rw [sc_zero, show kb 0 = 0 by decide]
      unfold vI
      rw [show valZ 0 = 0 by decide, sc_zero]; exact Int.le_refl _
    · show (sc 2148 0 0).natAbs ≤ _
      rw [sc_zero]; omega
  | succ k ih =>
    obtain ⟨i1, i2, i3, i4⟩ := ih fun i hi => h i (by omega)
    obtain ⟨h1, h2⟩ := h k (by omega)
    obtain ⟨fx, -⟩ := pt_in h1
    obtain ⟨fy, -⟩ := pt_in h2
    have ex := pE_bd fx
    have ey := pE_bd fy
    have okA := ivK_ok (hu.at k).1 (hu.at k).2
    have okB := ivK_ok (hv.at k).1 (hv.at k).2
    have hm := enc_mul okA okB (hx k) (hy k) h1 h2
    have hmv := hm.hasV (M := 2148) (mulK_ok okA okB) (by omega) (by omega)
    have hs := i1.add (dotK_ok hu hv k) (mulK_ok okA okB) (by omega) hmv
    have hp := sc_pl (M := 2148) (z := (dotX x y k).1) (e := (dotX x y k).2) (y := valZ (x.getD k 0) * valZ (y.getD k 0)) (f := pE (x.getD k 0) + pE (y.getD k 0)) (by omega) (by omega)
    have hin := plE_in (z := (dotX x y k).1) (y := valZ (x.getD k 0) * valZ (y.getD k 0)) (a := -2148) (b := 2046) (e := (dotX x y k).2) (f := pE (x.getD k 0) + pE (y.getD k 0)) (by omega) (by omega) (by omega) (by omega)
    have hb : (sc 2148 (valZ (x.getD k 0) * valZ (y.getD k 0)) (pE (x.getD k 0) + pE (y.getD k 0))).natAbs ≤ 2 ^ dxE := by
      rw [sc_nat]
      have mm := bl_mul (valZ (x.getD k 0)).natAbs (valZ (y.getD k 0)).natAbs
      rw [← Int.natAbs_mul] at mm
      have vx := val_bl (b := x.getD k 0)
      have vy := val_bl (b := y.getD k 0)
      have h3 := bl_le_iff.1 (Nat.le_refl (bl (valZ (x.getD k 0) * valZ (y.getD k 0)).natAbs))
      have h4 : (valZ (x.getD k 0) * valZ (y.getD k 0)).natAbs ≤ 2 ^ 106 := Nat.le_of_lt (abs_pow_le h3 (by omega))
      have h5 : 2 ^ (pE (x.getD k 0) + pE (y.getD k 0) + 2148).toNat ≤ 2 ^ (dxE - 106) := Nat.pow_le_pow_right (by decide) (by rw [dxE_eq]; omega)
      have h6 := Nat.mul_le_mul h4 h5
      rw [← Nat.pow_add, show 106 + (dxE - 106) = dxE by decide] at h6
      exact h6
    refine ⟨?_, hin.1, hin.2, ?_⟩
    · show HasV (addK _ _) 2148 (sc 2148 (plZ _ _ _ _) (plE _ _ _ _))
      rw [hp]
      exact hs
    · show (sc 2148 (plZ _ _ _ _) (plE _ _ _ _)).natAbs ≤ _
      rw [hp, Nat.add_mul, Nat.one_mul]
      generalize 2 ^ dxE = T at *
      omega

theorem dotX_bl {us vs : List (Nat × Nat)} {x y : List Nat} (hu : EndsL us) (hv : EndsL vs) (hx : ∀ k, W64 (x.getD k 0)) (hy : ∀ k, W64 (y.getD k 0)) {k : Nat} (h : DotOk us vs x y k) (hk : k ≤ 1099511627776) :
    bl (dotX x y k).1.natAbs ≤ 4341 := by
  obtain ⟨-, i2, i3, i4⟩ := dotX_ok hu hv hx hy k h
  refine Nat.le_trans (bl_le_of_lt (k := dxE + 41) (Nat.lt_of_le_of_lt ?_ (Nat.pow_lt_pow_right (by decide) (show 40 + dxE < dxE + 41 by decide)))) (by decide)
  rw [sc_nat] at i4
  have h1 : (dotX x y k).1.natAbs * 1 ≤ (dotX x y k).1.natAbs * 2 ^ ((dotX x y k).2 + 2148).toNat := Nat.mul_le_mul_left _ (Nat.pow_pos (by decide))
  have h2 : k * 2 ^ dxE ≤ 2 ^ 40 * 2 ^ dxE := Nat.mul_le_mul_right _ (by simpa using hk)
  rw [← Nat.pow_add] at h2
  rw [Nat.mul_one] at h1
  exact Nat.le_trans h1 (Nat.le_trans i4 h2)

end Go.Proofs.YtloohbkceppocaaGreatDoor
end

/- Slices of ends and of intervals; the law's list. -/
section
namespace Go.Proofs.YtloohbkceppocaaGreatDoor
open Go.RowKit
attribute [local go_sem] run_store_f

/-- A slice of pairs, known by its cells. -/
def PSl (f : Nat → Value) (w : World) (v : Value) (l : List (Nat × Nat)) : Prop :=
  ∃ ao cap, v = .slice ao l.length cap ∧ l.length ≤ cap ∧ l.length ≤ 1099511627776 ∧ EndsL l ∧
    (0 < l.length → ∃ b off, ao = some ⟨b, off, none⟩ ∧ b < w.heap.size ∧ ∀ i (h : i < l.length), w.cell? ⟨b, off + i * 2, none⟩ = some (f l[i].1) ∧ w.cell? ⟨b, off + i * 2 + 1, none⟩ = some (f l[i].2))
def wdU (x : Nat) : Value := .int .u64 (x : Int)
def wdF (x : Nat) : Value := .float .f64 x
def ESl (w : World) (v : Value) (l : List (Nat × Nat)) : Prop := PSl wdU w v l
def VSl (w : World) (v : Value) (l : List (Nat × Nat)) : Prop := PSl wdF w v l

theorem PSl.below {f : Nat → Value} {w w' : World} {v : Value} {l : List (Nat × Nat)} (h : PSl f w v l) (hb : Below w.heap.size w w') : PSl f w' v l := by
  obtain ⟨ao, cap, h1, h2, h3, h4, h5⟩ := h
  refine ⟨ao, cap, h1, h2, h3, h4, fun h0 => ?_⟩
  obtain ⟨b, off, e, hlt, hc⟩ := h5 h0
  exact ⟨b, off, e, Nat.lt_of_lt_of_le hlt hb.size, fun i hi => ⟨(hb.cell (p := ⟨b, off + i * 2, none⟩) hlt).trans (hc i hi).1, (hb.cell (p := ⟨b, off + i * 2 + 1, none⟩) hlt).trans (hc i hi).2⟩⟩

theorem PSl.take {f : Nat → Value} {w : World} {ao : Option Addr} {cap : Nat} {m : List (Nat × Nat)} (h : PSl f w (.slice ao m.length cap) m) {n : Nat} (hn : n ≤ m.length) : PSl f w (.slice ao n cap) (m.take n) := by
  obtain ⟨ao', cap', hv, h1, h2, h3, h4⟩ := h
  simp only [Value.slice.injEq] at hv
  obtain ⟨rfl, -, rfl⟩ := hv
  have e : (m.take n).length = n := by rw [List.length_take]; omega
  refine ⟨ao, cap, by rw [e], by omega, by omega, fun x hx => h3 x (List.mem_of_mem_take hx), fun h0 => ?_⟩
  obtain ⟨b, off, e1, e2, e3⟩ := h4 (by omega)
  exact ⟨b, off, e1, e2, fun i hi => by rw [(e3 i (by omega)).1, (e3 i (by omega)).2]; simp⟩

def prV (f : Nat → Value) (l : List (Nat × Nat)) : List Value := l.flatMap fun p => [f p.1, f p.2]
theorem prV_succ {f : Nat → Value} {l : List (Nat × Nat)} {k : Nat} (h : k < l.length) : prV f (l.take (k + 1)) = prV f (l.take k) ++ [f l[k].1, f l[k].2] := by
  unfold prV; rw [List.take_succ_eq_append_getElem h, List.flatMap_append]; rfl
theorem prV_get {f : Nat → Value} {l : List (Nat × Nat)} : ∀ {i : Nat} (h : i < l.length), (prV f l)[i * 2]? = some (f l[i].1) ∧ (prV f l)[i * 2 + 1]? = some (f l[i].2) := by
  induction l with
  | nil => intro i h; cases h
  | cons p r ih =>
    intro i h
    cases i with
    | zero => exact ⟨rfl, rfl⟩
    | succ i =>
      have h2 : i < r.length := by simpa using h
      obtain ⟨a, b⟩ := ih h2
      have e : prV f (p :: r) = f p.1 :: f p.2 :: prV f r := rfl
      rw [e, show (i + 1) * 2 = i * 2 + 1 + 1 by omega, show i * 2 + 1 + 1 + 1 = (i * 2 + 1) + 1 + 1 by omega]
      simp only [List.getElem?_cons_succ, List.getElem_cons_succ]
      exact ⟨a, b⟩
theorem PSl.of_owns {f : Nat → Value} {w : World} {base t : Nat} {v : Value} {l : List (Nat × Nat)} (h : w.ownsRow base t 2 v l.length (prV f l)) (hn : l.length ≤ 1099511627776) (hx : EndsL l) : PSl f w v l := by
  obtain ⟨h1, ⟨rfl, h0⟩ | ⟨g, cap, cur, rfl, hg, hh, hcap, hmax, hcs, ht⟩⟩ := h
  · exact ⟨none, 0, by rw [h0], by omega, hn, hx, fun h => absurd h (by omega)⟩
  · refine ⟨_, cap, rfl, hcap, hn, hx, fun _ => ⟨g, 0, rfl, (Array.getElem?_eq_some_iff.1 hh).1, fun i hi => ?_⟩⟩
    obtain ⟨h2, h3⟩ := prV_get (f := f) hi
    rw [← ht, List.getElem?_take_of_lt (by omega)] at h2 h3
    simp only [World.cell?, hh, Nat.zero_add]
    exact ⟨by simpa using h2, by simpa using h3⟩

theorem Tryz.info34 : (Tryz.prog.info? 34).map (fun i => (i.zero, i.size, i.bytes)) = some (some (.agg #[.float .f64 0, .float .f64 0]), 2, 16) := by kernel_rfl

theorem cell_two_new (w : World) (x y : Value) (t : TypeId) : ∀ j u, [x, y][j]? = some u → (w.alloc (.cells #[x, y] t)).cell? ((⟨w.heap.size, 0, none⟩ : Addr).add j) = some u := by
  intro j u hj
  match j, hj with
  | 0, hj => simp at hj; subst hj; simp [Addr.add]
  | 1, hj => simp at hj; subst hj; simp [Addr.add]

theorem owns_shape2 {w : World} {base t n sz : Nat} {v : Value} {xs : List Value} (h : w.ownsRow base t sz v n xs) : ∃ ao cap, v = .slice ao n cap := by
  rcases h.2 with ⟨rfl, rfl⟩ | ⟨g, cap, cur, rfl, -⟩
  · exact ⟨none, 0, rfl⟩
  · exact ⟨_, cap, rfl⟩

set_option maxRecDepth 100000 in
set_option maxHeartbeats 1600000 in
theorem llist_any (v : Value) (l : List (Nat × Nat)) (w : World) (hl : ESl w v l) :
    Calls Tryz.prog 16 #[v] w fun en w' => ∃ u, en = .returned u ∧ VSl w' u l ∧ Below w.heap.size w w' := by
  obtain ⟨i0, hi, hz0, hz1, hz2⟩ := info_parts Tryz.info34
  obtain ⟨ao, cap, rfl, hcap, hn, hx, hc⟩ := hl
  have HC := Lib.hid hc
  have HX := Lib.hid hx
  have HOF := Lib.hid fun a b W => lof_any a b W
  clear hc hx
  go_enter Tryz.func16, Tryz.ntmps16
  go_wp2
  go_loopw [3, 4] (fun u i wr => ∃ k : Nat, k ≤ l.length ∧ i = .int .i64 k ∧ Hid (wr.ownsRow w.heap.size 34 2 u k (prV wdF (l.take k)) ∧ Below w.heap.size w wr)) (fun _ i _ => l.length - (intOf i).toNat)
  case atStart => exact ⟨0, Nat.zero_le _, rfl, Lib.hid ⟨World.ownsRow_nil _ _ _ _, Below.refl _ _⟩⟩
  case round =>
    obtain ⟨k, hk, rfl, HR⟩ := hrel
    obtain ⟨ao2, cap2, rfl⟩ := owns_shape2 HR.out.1
    by_cases hlt : k < l.length
    · obtain ⟨b, off, rfl, hb, hcc⟩ := HC.out (by omega)
      have hck := (HR.out.2.cell (p := ⟨b, off + k * 2, none⟩) hb).trans (hcc k hlt).1
      have hck2 := (HR.out.2.cell (p := ⟨b, off + k * 2 + 1, none⟩) hb).trans (hcc k hlt).2
      have HSU : Hid (prV wdF (l.take (k + 1)) = prV wdF (l.take k) ++ [.float .f64 l[k].1, .float .f64 l[k].2]) := Lib.hid (prV_succ hlt)
      unfold wdU at hck hck2
      clear hcc
      generalize l[k].1 = x at *
      generalize l[k].2 = y at *
      go_wp2_with fail
      refine (HOF.out _ _ _).mono ?_
      rintro e1 w1 ⟨rfl, hb1⟩
      have HR1 := Lib.hid (And.intro (HR.out.1.kept (row := none) (grown_of_below hb1) (by cases (Value.slice ao2 k cap2).ownBlock <;> simp)) (HR.out.2.trans (hb1.mono HR.out.2.size)))
      have HOW := Lib.hid fun o => HR1.out.1.kept (grown_of_below (Below.alloc_self w1 o)) (by cases (Value.slice ao2 k cap2).ownBlock <;> simp)
      have HNW := Lib.hid fun W => cell_two_new W (.float .f64 x) (.float .f64 y) 34
      clear hb1 hck hck2
      go_wp2_with (at_builtin; refine wpList_append_own _ rfl _ _ 43 rfl w.heap.size 34 i0 (.agg #[.float .f64 0, .float .f64 0]) 2 16 Tryz.underlying43 hi hz0 hz1 hz2 rfl (by decide) _ _ _ rfl (HOW.out _) ⟨_, 0, none⟩ 1 1 [.float .f64 x, .float .f64 y] rfl rfl (HNW.out _) ?c2 ?c3 ?c4 ?c5 ?_)
      case c2 => intro u hu; simp only [List.mem_cons, List.not_mem_nil, or_false] at hu; rcases hu with rfl | rfl <;> rfl
      case c3 => unfold maxLen; omega
      case c4 => omega
      case c5 => exact Nat.le_trans HR1.out.2.size (by simp)
      intro v' U4 hown hgrow _
      rw [← HSU.out] at hown
      have HR2 := Lib.hid hown
      have HB2 := Lib.hid ((HR1.out.2.trans ((Below.alloc_self w1 _).mono HR1.out.2.size)).grown hgrow (Nat.le_trans HR1.out.2.size (by simp)) (fun j hj => (HR1.out.1.lt j hj).1))
      obtain ⟨ao', cap', hv'⟩ := owns_shape2 hown
      rw [hv'] at HR2 ⊢
      clear hown hgrow hv' HNW HOW
      go_wp2
      go_roundw
      case rel => exact ⟨k + 1, by omega, by go_num, Lib.hid ⟨HR2.out, HB2.out⟩⟩
      case measure => simp [intOf]; omega
    · obtain rfl : k = l.length := by omega
      have HT : Hid (l.take l.length = l) := Lib.hid List.take_length
      rw [HT.out] at HR
      go_wp2
      go_ret
      exact ⟨_, rfl, PSl.of_owns HR.out.1 hn HX.out, HR.out.2⟩

end Go.Proofs.YtloohbkceppocaaGreatDoor
end

/- Walk: the dot product of intervals. Printed by wip/gen/iv25.py. -/
section
namespace Go.Proofs.YtloohbkceppocaaGreatDoor
open Go.RowKit
attribute [local go_sem] run_store_f

theorem PSl.cells {f : Nat → Value} {w : World} {ao : Option Addr} {n cap : Nat} {l : List (Nat × Nat)} (h : PSl f w (.slice ao n cap) l) :
    l.length = n ∧ n ≤ cap ∧ n ≤ 1099511627776 ∧ EndsL l ∧ (0 < n → ∃ b off, ao = some ⟨b, off, none⟩ ∧ b < w.heap.size ∧
      ∀ i, i < n → w.cell? ⟨b, off + i * 2, none⟩ = some (f (l.getD i (0, 0)).1) ∧ w.cell? ⟨b, off + i * 2 + 1, none⟩ = some (f (l.getD i (0, 0)).2)) := by
  obtain ⟨ao', cap', hv, h1, h2, h3, h4⟩ := h
  simp only [Value.slice.injEq] at hv
  obtain ⟨rfl, rfl, rfl⟩ := hv
  refine ⟨rfl, h1, h2, h3, fun h0 => ?_⟩
  obtain ⟨b, off, e1, e2, e3⟩ := h4 h0
  refine ⟨b, off, e1, e2, fun i hi => ?_⟩
  have := e3 i hi
  rw [List.getD_eq_getElem?_getD, List.getElem?_eq_getElem hi, Option.getD_some]
  exact this

/-- Two cells of an old block. -/
def Cel2 (W : World) (b o : Nat) (x y : Value) : Prop := b < W.heap.size ∧ W.cell? ⟨b, o, none⟩ = some x ∧ W.cell? ⟨b, o + 1, none⟩ = some y
theorem Cel2.below {W V : World} {b o : Nat} {x y : Value} (h : Cel2 W b o x y) (hb : Below W.heap.size W V) : Cel2 V b o x y :=
  ⟨Nat.lt_of_lt_of_le h.1 hb.size, (hb.cell (p := ⟨b, o, none⟩) h.1).trans h.2.1, (hb.cell (p := ⟨b, o + 1, none⟩) h.1).trans h.2.2⟩

set_option maxRecDepth 100000 in
set_option maxHeartbeats 6400000 in
theorem iDot_any (va vb : Value) (us vs : List (Nat × Nat)) (w : World) (ha : VSl w va us) (hb : VSl w vb vs) (hl : us.length = vs.length) (hT : TabB w) :
    Calls Tryz.prog 15 #[va, vb] w (Gives (.tuple #[.agg #[.float .f64 (ivL (dotK us vs us.length)), .float .f64 (ivH (dotK us vs us.length))], .int .i64 0]) w) := by
  have HMK := Lib.hid fun W => make1_any 0 0 W (by decide) (by decide) (by decide) (by decide)
  rw [show kb (ky 0) = 0 by decide] at HMK
  have ha' := ha
  have hb' := hb
  obtain ⟨a0, ca, rfl, -⟩ := ha'
  obtain ⟨b0, cb, rfl, -⟩ := hb'
  rw [← hl] at hb ⊢
  obtain ⟨-, ha1, ha2, ha3, ha4⟩ := PSl.cells ha
  obtain ⟨-, hb1, hb2, hb3, hb4⟩ := PSl.cells hb
  have HA := Lib.hid ha4
  have HB := Lib.hid hb4
  have HEA := Lib.hid ha3
  have HEB := Lib.hid hb3
  have HT := Lib.hid hT
  have HOK := Lib.hid fun k => dotK_ok ha3 hb3 k
  clear ha hb ha3 hb3 ha4 hb4 hT hl
  generalize us.length = n at *
  have HW := Lib.hid ((Bks.nil w).alloc #[.float .f64 0, .float .f64 0] 34)
  go_enter Tryz.func15, Tryz.ntmps15
  go_wp2_with fail
  refine (HMK.out _).mono ?_
  rintro e1 w1 ⟨rfl, hb1'⟩
  replace HW := Lib.hid (HW.out.later hb1')
  clear hb1' HMK
  have HS0 := Lib.hid (HW.out.alloc #[.float .f64 0, .float .f64 0] 34)
  have HLB : Hid (w.heap.size ≤ w1.heap.size ∧ ∀ q ∈ ([(w.heap.size, 34, #[.float .f64 0, .float .f64 0])] : List (Nat × Nat × Array Value)), q.1 ≠ w1.heap.size) := Lib.hid ⟨HW.out.size, fun q m => by have := HW.out.lt q m; omega⟩
  clear HW
  obtain ⟨s, hs⟩ : ∃ i, w1.heap.size = i := ⟨_, rfl⟩
  rw [hs] at HS0 HLB
  go_wp2
  go_loopw [17] (fun i wr => ∃ k : Nat, k ≤ n ∧ i = .int .i64 k ∧ Hid (Bks w wr [(s, 34, #[.float .f64 (ivL (dotK us vs k)), .float .f64 (ivH (dotK us vs k))]), (w.heap.size, 34, #[.float .f64 0, .float .f64 0])])) (fun i _ => n - (intOf i).toNat)
  case atStart => exact ⟨0, Nat.zero_le _, rfl, HS0⟩
  case round =>
    clear HS0 hs
    obtain ⟨k, hk, rfl, HS⟩ := hrel
    by_cases hlt : k < n
    · obtain ⟨ab, ao, rfl, hab, hac⟩ := HA.out (by omega)
      obtain ⟨bb, bo, rfl, hbb, hbc⟩ := HB.out (by omega)
      have okD := HOK.out k
      have wa := HEA.out.at k
      have wb := HEB.out.at k
      have hnx : dotK us vs (k + 1) = addK (dotK us vs k) (mulK (ivK (us.getD k (0, 0)).1 (us.getD k (0, 0)).2) (ivK (vs.getD k (0, 0)).1 (vs.getD k (0, 0)).2)) := rfl
      have HCA : Hid (Cel2 wr ab (ao + k * 2) (.float .f64 (us.getD k (0, 0)).1) (.float .f64 (us.getD k (0, 0)).2)) := Lib.hid (Cel2.below ⟨hab, hac k hlt⟩ HS.out.2)
      have HCB : Hid (Cel2 wr bb (bo + k * 2) (.float .f64 (vs.getD k (0, 0)).1) (.float .f64 (vs.getD k (0, 0)).2)) := Lib.hid (Cel2.below ⟨hbb, hbc k hlt⟩ HS.out.2)
      clear hac hbc
      obtain ⟨p0, hp0⟩ : ∃ t, (us.getD k (0, 0)).1 = t := ⟨_, rfl⟩
      obtain ⟨p1, hp1⟩ : ∃ t, (us.getD k (0, 0)).2 = t := ⟨_, rfl⟩
      obtain ⟨q0, hq0⟩ : ∃ t, (vs.getD k (0, 0)).1 = t := ⟨_, rfl⟩
      obtain ⟨q1, hq1⟩ : ∃ t, (vs.getD k (0, 0)).2 = t := ⟨_, rfl⟩
      rw [hp0, hp1] at HCA
      rw [hq0, hq1] at HCB
      rw [hp0, hp1, hq0, hq1] at hnx
      rw [hp0, hp1] at wa
      rw [hq0, hq1] at wb
      clear hp0 hp1 hq0 hq1
      have okM := mulK_ok (ivK_ok wa.1 wa.2) (ivK_ok wb.1 wb.2)
      have HMU := Lib.hid fun W ht => mul_iv p0 p1 q0 q1 W wa.1 wa.2 wb.1 wb.2 ht
      generalize mulK (ivK p0 p1) (ivK q0 q1) = M at *
      have HAD := Lib.hid fun W ht => add_iv (ivL (dotK us vs k)) (ivH (dotK us vs k)) (ivL M) (ivH M) W (ivL_lt okD) (ivH_lt okD) (ivL_lt okM) (ivH_lt okM) ht
      rw [ivK_back okD, ivK_back okM, ← hnx] at HAD
      clear hnx okD okM wa wb
      generalize ivL (dotK us vs k) = d0 at *
      generalize ivH (dotK us vs k) = d1 at *
      generalize ivL M = m0 at *
      generalize ivH M = m1 at *
      obtain ⟨n0, hn0⟩ : ∃ t, ivL (dotK us vs (k + 1)) = t := ⟨_, rfl⟩
      obtain ⟨n1, hn1⟩ : ∃ t, ivH (dotK us vs (k + 1)) = t := ⟨_, rfl⟩
      rw [hn0, hn1] at HAD
      have HNX := Lib.hid (And.intro hn0 hn1)
      clear hn0 hn1
      have t9 : decide ((k : Int) < (n : Int)) = true := decide_eq_true (by omega)
      go_upto_region 7 with fail
      refine wp_region_pl (fun w' : World => (w'.cell? ⟨s, 0, none⟩ = some (.float .f64 d0) ∧ w'.cell? ⟨s, 1, none⟩ = some (.float .f64 d1)) ∧ (w'.cell? ⟨ab, ao + k * 2, none⟩ = some (.float .f64 p0) ∧ w'.cell? ⟨ab, ao + k * 2 + 1, none⟩ = some (.float .f64 p1)) ∧ w'.cell? ⟨bb, bo + k * 2, none⟩ = some (.float .f64 q0) ∧ w'.cell? ⟨bb, bo + k * 2 + 1, none⟩ = some (.float .f64 q1)) 11 (.take 0 (.take 1 (.take 2 (.take 3 (.take 4 (.take 5 (.take 6 (.take 7 (.take 8 (.run 9 (.run 10 (.nil)))))))))))) (by kernel_rfl) (by kernel_rfl) ?_
      replace HS := Lib.hid (HS.out.later (drew_below _))
      replace HCA := Lib.hid (HCA.out.below (drew_below _))
      replace HCB := Lib.hid (HCB.out.below (drew_below _))
      generalize World.drew _ = W7 at HS HCA HCB ⊢
      repeat (first | (refine wpPl_takeL (v := ?_) rfl rfl (fun _ _ _ h => h) rfl (fun w' hSw => ?_) (⟨HS.out.two (.head _), HCA.out.2, HCB.out.2⟩) ?_; rotate_left; (focus (go_simp; with_reducible rfl)); simp only [setL]) | (refine wpPl_skipL rfl rfl (fun _ _ _ h => h) rfl (⟨HS.out.two (.head _), HCA.out.2, HCB.out.2⟩) ?_; simp only [setL]))
      refine wpPl_goL rfl rfl fun K' hK => ?_
      go_simp
      refine (HMU.out _ (HT.out.below HS.out.2)).mono ?_
      rintro e1 W7v1 ⟨rfl, hb1⟩
      replace HS := Lib.hid (HS.out.later hb1)
      replace HCA := Lib.hid (HCA.out.below hb1)
      replace HCB := Lib.hid (HCB.out.below hb1)
      refine hK _ _ (⟨HS.out.two (.head _), HCA.out.2, HCB.out.2⟩) ?_
      clear hK K' hb1
      try simp only [Act.put, setL]
      repeat (first | (refine wpPl_takeL (v := ?_) rfl rfl (fun _ _ _ h => h) rfl (fun w' hSw => ?_) (⟨HS.out.two (.head _), HCA.out.2, HCB.out.2⟩) ?_; rotate_left; (focus (go_simp; with_reducible rfl)); simp only [setL]) | (refine wpPl_skipL rfl rfl (fun _ _ _ h => h) rfl (⟨HS.out.two (.head _), HCA.out.2, HCB.out.2⟩) ?_; simp only [setL]))
      refine wpPl_goL rfl rfl fun K' hK => ?_
      go_simp
      refine (HAD.out _ (HT.out.below HS.out.2)).mono ?_
      rintro e1 W7v2 ⟨rfl, hb1⟩
      replace HS := Lib.hid (HS.out.later hb1)
      replace HCA := Lib.hid (HCA.out.below hb1)
      replace HCB := Lib.hid (HCB.out.below hb1)
      refine hK _ _ (⟨HS.out.two (.head _), HCA.out.2, HCB.out.2⟩) ?_
      clear hK K' hb1
      try simp only [Act.put, setL]
      repeat (first | (refine wpPl_takeL (v := ?_) rfl rfl (fun _ _ _ h => h) rfl (fun w' hSw => ?_) (⟨HS.out.two (.head _), HCA.out.2, HCB.out.2⟩) ?_; rotate_left; (focus (go_simp; with_reducible rfl)); simp only [setL]) | (refine wpPl_skipL rfl rfl (fun _ _ _ h => h) rfl (⟨HS.out.two (.head _), HCA.out.2, HCB.out.2⟩) ?_; simp only [setL]))
      refine wpPl_nil ?_
      simp only [List.drop_succ_cons, List.drop_zero]
      obtain ⟨k0, k1, k2, k3⟩ := (HS.out.get (.head _)).cells2
      replace HS := Lib.hid (HS.out.set2 HLB.out.1 HLB.out.2 (.float .f64 n0) (.float .f64 n1))
      clear HCA HCB
      go_wp2
      go_roundw
      case rel => exact ⟨k + 1, by omega, by go_num, Lib.hid (by rw [HNX.out.1, HNX.out.2]; exact HS.out)⟩
      case measure => simp [intOf]; omega
    · obtain rfl : k = n := by omega
      have t9 : decide ((k : Int) < (k : Int)) = false := decide_eq_false (by omega)
      generalize ivL (dotK us vs k) = d0 at *
      generalize ivH (dotK us vs k) = d1 at *
      obtain ⟨c0, c1⟩ := HS.out.two (.head _)
      obtain ⟨q0, q1, q2, q3⟩ := (HS.out.get (.tail _ (.head _))).cells2
      go_wp2
      refine bodyPost_ret (v := .tuple #[.agg #[.float .f64 d0, .float .f64 d1], .int .i64 0]) (by simp [results, Tryz.results15, go_sem, q0, q1]) rfl ⟨rfl, (HS.out.2.setCell (Nat.le_refl _) _).setCell (Nat.le_refl _) _⟩

end Go.Proofs.YtloohbkceppocaaGreatDoor
end
