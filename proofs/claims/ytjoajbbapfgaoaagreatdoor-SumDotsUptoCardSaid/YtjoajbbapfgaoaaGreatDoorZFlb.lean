/- Walks: the references' exact sum, rounded once. Printed by wip/gen/rexact.py. -/
import Derived.Test.YtjoajbbapfgaoaaGreatDoorZFl7
import Derived.Test.YtjoajbbapfgaoaaGreatDoorGR
namespace Go.Proofs.YtjoajbbapfgaoaaGreatDoor
open Go.RowKit

theorem neg_back {y : Nat} (h : y < kSign) : Op.negFloat .f64 (kSign + y) = y := by
  rw [← neg_bits h]
  unfold Op.negFloat
  rw [Nat.xor_assoc, Nat.xor_self, Nat.xor_zero]

theorem inf_pos {x : Nat} (h : x < 18446744073709551616) : (F6.order x 9218868437227405311 == some Ordering.gt) = decide (x = kInf) := by
  have hk := kSign_big
  have hi : kInf = 9218868437227405312 := rfl
  by_cases hn : nanB x = true
  · rw [order_nan hn]
    have : x ≠ kInf := fun e => by rw [e] at hn; exact absurd hn (by decide)
    rw [decide_eq_false this]; rfl
  · have hle : x % kSign ≤ kInf := by unfold nanB at hn; simpa using hn
    rw [order_ky h (by decide) hle (by decide)]
    have h0 : ky 9218868437227405311 = 9218868437227405311 := by unfold ky; rw [if_pos (by decide)]; rfl
    rw [h0]
    unfold ky
    have hks : kSign = 9223372036854775808 := rfl
    by_cases hs : x < kSign
    · rw [if_pos hs]
      rw [Nat.mod_eq_of_lt hs] at hle
      by_cases he : x = kInf
      · rw [decide_eq_true he, he]; decide
      · rw [decide_eq_false he]
        rcases Nat.lt_or_ge x 9218868437227405311 with h1 | h1
        · rw [Int.compare_eq_lt.2 (by omega)]; rfl
        · rw [Int.compare_eq_eq.2 (by omega)]; rfl
    · rw [if_neg hs, decide_eq_false (by omega), Int.compare_eq_lt.2 (by omega)]; rfl

set_option maxRecDepth 100000 in
set_option maxHeartbeats 400000 in
theorem isInf_up (x : Nat) (w : World) (hx : x < 18446744073709551616) :
    Calls Tryz.prog 177 #[.float .f64 x, .int .i64 1] w (Gives (.bool (decide (x = kInf))) w) := by
  have hT := inf_pos hx
  generalize decide (x = kInf) = R at *
  clear hx
  go_enter Tryz.func177, Tryz.ntmps177
  go_wp2
  go_ret
  exact ⟨rfl, Below.refl _ _⟩

set_option maxRecDepth 100000 in
set_option maxHeartbeats 400000 in
theorem isInf_down (x : Nat) (w : World) (hx : x < 18446744073709551616) :
    Calls Tryz.prog 177 #[.float .f64 x, .int .i64 (-1)] w (Gives (.bool (decide (x = kSign + kInf))) w) := by
  obtain ⟨nx, hnx, hn1, hn2⟩ : ∃ nx, Op.negFloat .f64 x = nx ∧ nx < 18446744073709551616 ∧ (nx = kInf ↔ x = kSign + kInf) := by
    have hk := kSign_big
    have hks : kSign = 9223372036854775808 := rfl
    rcases Nat.lt_or_ge x kSign with h | h
    · exact ⟨_, neg_bits h, by omega, by omega⟩
    · obtain ⟨y, rfl⟩ := Nat.exists_eq_add_of_le h
      exact ⟨_, neg_back (by omega), by omega, by omega⟩
  have hT := inf_pos hn1
  rw [show decide (nx = kInf) = decide (x = kSign + kInf) from by rw [decide_eq_decide]; exact hn2] at hT
  have H1 : ∀ w, (Op.unary .neg (.float .f64 x)).run Tryz.prog w = .ok (.float .f64 nx) w := fun w => by rw [← hnx]; rfl
  generalize decide (x = kSign + kInf) = R at *
  clear hx hnx hn2
  go_enter Tryz.func177, Tryz.ntmps177
  go_wp2
  go_ret
  exact ⟨rfl, Below.refl _ _⟩

/-- What the references say to a list with what is no finite number. -/
def upL (l : List Nat) : Bool := l.any (fun x => decide (x = kInf))
def dnL (l : List Nat) : Bool := l.any (fun x => decide (x = kSign + kInf))
def nnL (l : List Nat) : Bool := l.any nanB
def rspcB (l : List Nat) : Nat × Bool := if (nnL l || (upL l && dnL l)) = true then (kNone, true) else if upL l = true then (kInf, true) else if dnL l = true then (kSign + kInf, true) else (0, false)

theorem any_take {p : Nat → Bool} {l : List Nat} {k : Nat} (h : k < l.length) : (l.take (k + 1)).any p = ((l.take k).any p || p l[k]) := by
  rw [List.take_succ_eq_append_getElem h, List.any_append]; simp

theorem rNaN_any (w : World) : Calls Tryz.prog 191 #[] w (Gives (.float .f64 kNone) w) := by
  have h1 : ∀ w, (callFunc 14 #[.int .u64 9221120237041090561]).run Tryz.prog w = .ok (.value (.float .f64 9221120237041090561)) w := ffrom_eq 9221120237041090561
  rw [show kNone = 9221120237041090561 from rfl]
  go_enter Tryz.func191, Tryz.ntmps191
  go_wp2
  go_ret
  exact ⟨rfl, Below.refl _ _⟩

set_option maxRecDepth 100000 in
set_option maxHeartbeats 3200000 in
theorem rSpecial_any (v : Value) (l : List Nat) (w : World) (hl : FSl w v l) :
    Calls Tryz.prog 131 #[v] w (Gives (.tuple #[.float .f64 (rspcB l).1, .bool (rspcB l).2]) w) := by
  obtain ⟨ao, cap, rfl, hcap, hn, hx, hc⟩ := hl
  have HC := Lib.hid hc
  have HX := Lib.hid hx
  have HIU := Lib.hid fun x w h => isInf_up x w h
  have HID := Lib.hid fun x w h => isInf_down x w h
  have HNN := Lib.hid fun w => rNaN_any w
  have HI1 := Lib.hid fun w => inf_any w
  have HI2 := Lib.hid fun w => infNeg_any w
  clear hc hx
  go_enter Tryz.func131, Tryz.ntmps131
  go_wp2
  go_loopw [4, 5, 6, 11] (fun u d n i wr => ∃ (k : Nat) (up dn nn : Bool), k ≤ l.length ∧ i = .int .i64 k ∧ u = .bool up ∧ d = .bool dn ∧ n = .bool nn ∧ Hid (upL (l.take k) = up ∧ dnL (l.take k) = dn ∧ nnL (l.take k) = nn) ∧ Hid (Below w.heap.size w wr)) (fun _ _ _ i _ => l.length - (intOf i).toNat)
  case atStart => exact ⟨0, false, false, false, Nat.zero_le _, rfl, rfl, rfl, rfl, Lib.hid ⟨rfl, rfl, rfl⟩, Lib.hid (Below.refl _ _)⟩
  case round =>
    obtain ⟨k, up, dn, nn, hk, rfl, rfl, rfl, rfl, HR, HB⟩ := hrel
    by_cases hlt : k < l.length
    · obtain ⟨b, off, rfl, hb, hcc⟩ := HC.out (by omega)
      have hck := (HB.out.cell (p := ⟨b, off + k, none⟩) hb).trans (hcc k hlt)
      have HXK := Lib.hid (HX.out _ (List.getElem_mem hlt))
      have HU : Hid (upL (l.take (k + 1)) = (up || decide (l[k] = kInf)) ∧ dnL (l.take (k + 1)) = (dn || decide (l[k] = kSign + kInf)) ∧ nnL (l.take (k + 1)) = (nn || nanB l[k])) := Lib.hid (by
        rw [← HR.out.1, ← HR.out.2.1, ← HR.out.2.2]
        exact ⟨any_take hlt, any_take hlt, any_take hlt⟩)
      clear hcc
      generalize l[k] = x at *
      have hnt := nan_test x
      have HIUx := Lib.hid fun w => HIU.out x w HXK.out
      have HIDx := Lib.hid fun w => HID.out x w HXK.out
      generalize nanB x = nx at *
      generalize decide (x = kInf) = ux at HIUx HU
      generalize decide (x = kSign + kInf) = dx at HIDx HU
      cases up
      · cases dn
        · cases nn
          · skip
            go_wp2_with fail
            refine (HIUx.out _).mono ?_
            rintro e1 w1 ⟨rfl, hb1⟩
            replace HB := Lib.hid (HB.out.trans (hb1.mono HB.out.size))
            clear hb1
            go_wp2_with fail
            refine (HIDx.out _).mono ?_
            rintro e2 w2 ⟨rfl, hb2⟩
            replace HB := Lib.hid (HB.out.trans (hb2.mono HB.out.size))
            clear hb2
            go_wp2
            go_roundw
            case rel => exact ⟨k + 1, _, _, _, by omega, by go_num, rfl, rfl, rfl, Lib.hid (by have := HU.out; simpa using this), HB⟩
            case measure => simp [intOf]; omega
          · skip
            go_wp2_with fail
            refine (HIUx.out _).mono ?_
            rintro e1 w1 ⟨rfl, hb1⟩
            replace HB := Lib.hid (HB.out.trans (hb1.mono HB.out.size))
            clear hb1
            go_wp2_with fail
            refine (HIDx.out _).mono ?_
            rintro e2 w2 ⟨rfl, hb2⟩
            replace HB := Lib.hid (HB.out.trans (hb2.mono HB.out.size))
            clear hb2
            go_wp2
            go_roundw
            case rel => exact ⟨k + 1, _, _, _, by omega, by go_num, rfl, rfl, rfl, Lib.hid (by have := HU.out; simpa using this), HB⟩
            case measure => simp [intOf]; omega
        · cases nn
          · skip
            go_wp2_with fail
            refine (HIUx.out _).mono ?_
            rintro e1 w1 ⟨rfl, hb1⟩
            replace HB := Lib.hid (HB.out.trans (hb1.mono HB.out.size))
            clear hb1
            go_wp2
            go_roundw
            case rel => exact ⟨k + 1, _, _, _, by omega, by go_num, rfl, rfl, rfl, Lib.hid (by have := HU.out; simpa using this), HB⟩
            case measure => simp [intOf]; omega
          · skip
            go_wp2_with fail
            refine (HIUx.out _).mono ?_
            rintro e1 w1 ⟨rfl, hb1⟩
            replace HB := Lib.hid (HB.out.trans (hb1.mono HB.out.size))
            clear hb1
            go_wp2
            go_roundw
            case rel => exact ⟨k + 1, _, _, _, by omega, by go_num, rfl, rfl, rfl, Lib.hid (by have := HU.out; simpa using this), HB⟩
            case measure => simp [intOf]; omega
      · cases dn
        · cases nn
          · skip
            go_wp2_with fail
            refine (HIDx.out _).mono ?_
            rintro e2 w2 ⟨rfl, hb2⟩
            replace HB := Lib.hid (HB.out.trans (hb2.mono HB.out.size))
            clear hb2
            go_wp2
            go_roundw
            case rel => exact ⟨k + 1, _, _, _, by omega, by go_num, rfl, rfl, rfl, Lib.hid (by have := HU.out; simpa using this), HB⟩
            case measure => simp [intOf]; omega
          · skip
            go_wp2_with fail
            refine (HIDx.out _).mono ?_
            rintro e2 w2 ⟨rfl, hb2⟩
            replace HB := Lib.hid (HB.out.trans (hb2.mono HB.out.size))
            clear hb2
            go_wp2
            go_roundw
            case rel => exact ⟨k + 1, _, _, _, by omega, by go_num, rfl, rfl, rfl, Lib.hid (by have := HU.out; simpa using this), HB⟩
            case measure => simp [intOf]; omega
        · cases nn
          · skip
            go_wp2
            go_roundw
            case rel => exact ⟨k + 1, _, _, _, by omega, by go_num, rfl, rfl, rfl, Lib.hid (by have := HU.out; simpa using this), HB⟩
            case measure => simp [intOf]; omega
          · skip
            go_wp2
            go_roundw
            case rel => exact ⟨k + 1, _, _, _, by omega, by go_num, rfl, rfl, rfl, Lib.hid (by have := HU.out; simpa using this), HB⟩
            case measure => simp [intOf]; omega
    · obtain rfl : k = l.length := by omega
      rw [List.take_length] at HR
      have HE : Hid (rspcB l = if (nn || (up && dn)) = true then (kNone, true) else if up = true then (kInf, true) else if dn = true then (kSign + kInf, true) else (0, false)) := Lib.hid (by unfold rspcB; rw [HR.out.1, HR.out.2.1, HR.out.2.2])
      clear HR
      generalize rspcB l = R at *
      obtain ⟨R1, R2⟩ := R
      cases nn
      · cases up
        · cases dn
          · have HV : Hid (R1 = 0 ∧ R2 = false) := Lib.hid (by have := HE.out; simpa using this)
            clear HE
            go_wp2
            go_ret2
            exact ⟨by rw [HV.out.1, HV.out.2]; rfl, HB.out⟩
          · have HV : Hid (R1 = kSign + kInf ∧ R2 = true) := Lib.hid (by have := HE.out; simpa using this)
            clear HE
            go_wp2_with fail
            refine (HI2.out _).mono ?_
            rintro e1 w1 ⟨rfl, hb⟩
            have HB2 := Lib.hid (HB.out.trans (hb.mono HB.out.size))
            clear hb
            go_wp2
            go_ret2
            exact ⟨by rw [HV.out.1, HV.out.2]; rfl, HB2.out⟩
        · cases dn
          · have HV : Hid (R1 = kInf ∧ R2 = true) := Lib.hid (by have := HE.out; simpa using this)
            clear HE
            go_wp2_with fail
            refine (HI1.out _).mono ?_
            rintro e1 w1 ⟨rfl, hb⟩
            have HB2 := Lib.hid (HB.out.trans (hb.mono HB.out.size))
            clear hb
            go_wp2
            go_ret2
            exact ⟨by rw [HV.out.1, HV.out.2]; rfl, HB2.out⟩
          · have HV : Hid (R1 = kNone ∧ R2 = true) := Lib.hid (by have := HE.out; simpa using this)
            clear HE
            go_wp2_with fail
            refine (HNN.out _).mono ?_
            rintro e1 w1 ⟨rfl, hb⟩
            have HB2 := Lib.hid (HB.out.trans (hb.mono HB.out.size))
            clear hb
            go_wp2
            go_ret2
            exact ⟨by rw [HV.out.1, HV.out.2]; rfl, HB2.out⟩
      · cases up
        · cases dn
          · have HV : Hid (R1 = kNone ∧ R2 = true) := Lib.hid (by have := HE.out; simpa using this)
            clear HE
            go_wp2_with fail
            refine (HNN.out _).mono ?_
            rintro e1 w1 ⟨rfl, hb⟩
            have HB2 := Lib.hid (HB.out.trans (hb.mono HB.out.size))
            clear hb
            go_wp2
            go_ret2
            exact ⟨by rw [HV.out.1, HV.out.2]; rfl, HB2.out⟩
          · have HV : Hid (R1 = kNone ∧ R2 = true) := Lib.hid (by have := HE.out; simpa using this)
            clear HE
            go_wp2_with fail
            refine (HNN.out _).mono ?_
            rintro e1 w1 ⟨rfl, hb⟩
            have HB2 := Lib.hid (HB.out.trans (hb.mono HB.out.size))
            clear hb
            go_wp2
            go_ret2
            exact ⟨by rw [HV.out.1, HV.out.2]; rfl, HB2.out⟩
        · cases dn
          · have HV : Hid (R1 = kNone ∧ R2 = true) := Lib.hid (by have := HE.out; simpa using this)
            clear HE
            go_wp2_with fail
            refine (HNN.out _).mono ?_
            rintro e1 w1 ⟨rfl, hb⟩
            have HB2 := Lib.hid (HB.out.trans (hb.mono HB.out.size))
            clear hb
            go_wp2
            go_ret2
            exact ⟨by rw [HV.out.1, HV.out.2]; rfl, HB2.out⟩
          · have HV : Hid (R1 = kNone ∧ R2 = true) := Lib.hid (by have := HE.out; simpa using this)
            clear HE
            go_wp2_with fail
            refine (HNN.out _).mono ?_
            rintro e1 w1 ⟨rfl, hb⟩
            have HB2 := Lib.hid (HB.out.trans (hb.mono HB.out.size))
            clear hb
            go_wp2
            go_ret2
            exact ⟨by rw [HV.out.1, HV.out.2]; rfl, HB2.out⟩

set_option maxRecDepth 100000 in
set_option maxHeartbeats 1600000 in
theorem rMinus_any (v : Value) (l : List Nat) (w : World) (hl : FSl w v l) :
    Calls Tryz.prog 132 #[v] w (Gives (.bool (ngtB l)) w) := by
  obtain ⟨ao, cap, rfl, hcap, hn, hx, hc⟩ := hl
  have HC := Lib.hid hc
  have HX := Lib.hid hx
  have HSB := Lib.hid fun x w h => signbit_any x w h
  clear hc hx
  go_enter Tryz.func132, Tryz.ntmps132
  go_wp2
  go_loopw [7] (fun i wr => ∃ (k : Nat), k ≤ l.length ∧ i = .int .i64 k ∧ Hid ((l.take k).all (fun x => decide (x = kSign)) = true) ∧ Hid (Below w.heap.size w wr)) (fun i _ => l.length - (intOf i).toNat)
  case atStart => exact ⟨0, Nat.zero_le _, rfl, Lib.hid rfl, Lib.hid (Below.refl _ _)⟩
  case round =>
    obtain ⟨k, hk, rfl, HR, HB⟩ := hrel
    by_cases hlt : k < l.length
    · obtain ⟨b, off, rfl, hb, hcc⟩ := HC.out (by omega)
      have hck := (HB.out.cell (p := ⟨b, off + k, none⟩) hb).trans (hcc k hlt)
      have HXK := Lib.hid (HX.out _ (List.getElem_mem hlt))
      have HNO : Hid (l[k] ≠ kSign → ngtB l = false) := Lib.hid fun h => by
        unfold ngtB
        rw [show l.all (fun x => decide (x = kSign)) = false from by
          rw [List.all_eq_false]; exact ⟨_, List.getElem_mem hlt, by simpa using h⟩, Bool.false_and]
      have HYES : Hid (l[k] = kSign → (l.take (k + 1)).all (fun x => decide (x = kSign)) = true) := Lib.hid fun h => by
        rw [List.take_succ_eq_append_getElem hlt, List.all_append, HR.out, h]; simp
      clear hcc
      generalize l[k] = x at *
      have HT := Lib.hid (ngt_test HXK.out)
      cases ho : (F6.order x 0 != some Ordering.eq)
      · have h2 := HT.out.2 ho
        go_wp2_with fail
        refine (HSB.out x _ HXK.out).mono ?_
        rintro e1 w1 ⟨rfl, hb1⟩
        have HB1 := Lib.hid (HB.out.trans (hb1.mono HB.out.size))
        clear hb1
        by_cases hxk : x = kSign
        · have h3 : (!sgnB x) = false := by rw [h2, decide_eq_true hxk]; rfl
          have HA := Lib.hid (HYES.out hxk)
          clear h2 hxk HT HNO HYES
          go_wp2
          go_roundw
          case rel => exact ⟨k + 1, by omega, by go_num, HA, HB1⟩
          case measure => simp [intOf]; omega
        · have h3 : (!sgnB x) = true := by rw [h2, decide_eq_false hxk]; rfl
          have HA := Lib.hid (HNO.out hxk)
          clear h2 hxk HT HNO HYES
          go_wp2
          go_ret
          exact ⟨by rw [HA.out]; rfl, HB1.out⟩
      · have HA := Lib.hid (HNO.out (HT.out.1 ho))
        clear HT HNO HYES
        go_wp2
        go_ret
        exact ⟨by rw [HA.out]; rfl, HB.out⟩
    · obtain rfl : k = l.length := by omega
      rw [List.take_length] at HR
      have HA : Hid (ngtB l = decide (0 < l.length)) := Lib.hid (by unfold ngtB; rw [HR.out, Bool.true_and])
      go_wp2
      go_ret
      exact ⟨by rw [HA.out]; rfl, HB.out⟩


/-- Both say the same. -/
theorem spc_same (l : List Nat) (hx : ∀ x ∈ l, x < 18446744073709551616) : (rspcB l).2 = (spcF l).2 ∧ ((spcF l).2 = true → (rspcB l).1 = cO (spcF l).1) := by
  have key : ∀ k, k ≤ l.length → (spcF (l.take k)).1 = (if (nnL (l.take k) || (upL (l.take k) && dnL (l.take k))) = true then none else if upL (l.take k) = true then some kInf else if dnL (l.take k) = true then some (kSign + kInf) else some 0) ∧
      (spcF (l.take k)).2 = (nnL (l.take k) || (upL (l.take k) || dnL (l.take k))) := by
    intro k
    induction k with
    | zero => intro _; exact ⟨rfl, rfl⟩
    | succ k ih =>
      intro hk
      have hlt : k < l.length := hk
      obtain ⟨i1, i2⟩ := ih (by omega)
      rw [spcF_take hlt]
      have e1 : nnL (l.take (k + 1)) = (nnL (l.take k) || nanB l[k]) := any_take hlt
      have e2 : upL (l.take (k + 1)) = (upL (l.take k) || decide (l[k] = kInf)) := any_take hlt
      have e3 : dnL (l.take (k + 1)) = (dnL (l.take k) || decide (l[k] = kSign + kInf)) := any_take hlt
      rw [e1, e2, e3]
      have hxl := hx _ (List.getElem_mem hlt)
      generalize l[k] = x at *
      generalize nnL (l.take k) = n at *
      generalize upL (l.take k) = u at *
      generalize dnL (l.take k) = d at *
      generalize spcF (l.take k) = s at *
      obtain ⟨s1, s2⟩ := s
      simp only at i1 i2
      have hks : kSign = 9223372036854775808 := rfl
      have hkb := kSign_big
      by_cases hn : nanB x = true
      · have h1 : spcB x = true := by unfold spcB; rw [hn]; rfl
        rw [h1, hn, if_pos rfl]
        refine ⟨?_, by simp⟩
        rw [Bool.or_true, Bool.true_or, if_pos rfl]
        cases s1 with
        | none => rfl
        | some y => exact bits_nan (op := .add) (u := y) (.inr hn)
      · have hn2 : nanB x = false := by simpa using hn
        rw [hn2, Bool.or_false]
        have hm : x % kSign = kInf ↔ (x = kInf ∨ x = kSign + kInf) := by
          constructor
          · intro h
            rcases Nat.lt_or_ge x kSign with h2 | h2
            · rw [Nat.mod_eq_of_lt h2] at h; exact .inl h
            · obtain ⟨y, rfl⟩ := Nat.exists_eq_add_of_le h2
              rw [Nat.add_mod_left, Nat.mod_eq_of_lt (by omega)] at h; exact .inr (by rw [h])
          · rintro (h | h)
            · rw [h]; exact Nat.mod_eq_of_lt hkb
            · rw [h, Nat.add_mod_left]; exact Nat.mod_eq_of_lt hkb
        by_cases hu : x = kInf
        · have h1 : spcB x = true := by unfold spcB; rw [decide_eq_true (hm.2 (.inl hu)), Bool.or_true]
          have h2 : ¬ x = kSign + kInf := by rw [hu]; omega
          rw [h1, if_pos rfl, decide_eq_true hu, decide_eq_false h2, i1, hu]
          cases n <;> cases u <;> cases d <;> refine ⟨?_, by simp⟩ <;> dsimp only <;> decide +kernel
        · by_cases hd : x = kSign + kInf
          · have h1 : spcB x = true := by unfold spcB; rw [decide_eq_true (hm.2 (.inr hd)), Bool.or_true]
            rw [h1, if_pos rfl, decide_eq_true hd, decide_eq_false hu, i1, hd]
            cases n <;> cases u <;> cases d <;> refine ⟨?_, by simp⟩ <;> dsimp only <;> decide +kernel
          · have h1 : spcB x = false := by unfold spcB; rw [hn2, decide_eq_false (fun h => (hm.1 h).elim hu hd)]; rfl
            rw [h1, decide_eq_false hu, decide_eq_false hd, Bool.or_false, Bool.or_false]
            exact ⟨i1, i2⟩
  obtain ⟨k1, k2⟩ := key l.length (Nat.le_refl _)
  rw [List.take_length] at k1 k2
  unfold rspcB
  rw [k2, k1]
  generalize nnL l = n at *
  generalize upL l = u at *
  generalize dnL l = d at *
  cases n <;> cases u <;> cases d <;> exact ⟨by simp, fun h => by first | decide | (exact absurd h (by decide))⟩

set_option maxRecDepth 100000 in
set_option maxHeartbeats 800000 in
theorem rExact_long (v : Value) (l : List Nat) (w : World) (hl : FSl w v l) (hlen : 4096 < l.length) :
    Calls Tryz.prog 57 #[v] w (Gives (.tuple #[.float .f64 0, .int .i64 2]) w) := by
  obtain ⟨ao, cap, rfl, hcap, hn, hx, hc⟩ := hl
  have hci : decide ((4096 : Int) < (l.length : Int)) = true := by simp; omega
  clear hc hx
  go_enter Tryz.func57, Tryz.ntmps57
  go_wp2
  go_ret2
  exact ⟨rfl, Below.refl _ _⟩

set_option maxRecDepth 100000 in
set_option maxHeartbeats 1600000 in
theorem rExact_ok (v : Value) (l : List Nat) (w : World) (hl : FSl w v l) (hlen : l.length ≤ 4096) (hT : Tab32 w) (hTs : 2 < w.heap.size) :
    Calls Tryz.prog 57 #[v] w (Gives (.tuple #[.float .f64 (exB l), .int .i64 0]) w) := by
  have HL := Lib.hid hl
  have HT := Lib.hid (And.intro hT hTs)
  have hx : ∀ x ∈ l, x < 18446744073709551616 := by obtain ⟨_, _, _, _, _, h, _⟩ := hl; exact h
  obtain ⟨sp1, sp2⟩ := spc_same l hx
  have HSP := Lib.hid fun W (h : FSl W v l) => rSpecial_any v l W h
  rw [sp1] at HSP
  have HNG := Lib.hid fun W (h : FSl W v l) => rMinus_any v l W h
  have HSM : Hid ((spcF l).2 = false → ∀ W, FSl W v l → Calls Tryz.prog 40 #[v] W (RxAny (foldS (prs l)).1 (foldS (prs l)).2 W)) :=
    Lib.hid fun h W h1 => rSum_any v l W h1 (spc_fin.1 h)
  have HBD : Hid ((spcF l).2 = false → ∀ b W, RInt W b (foldS (prs l)).1 → Tab32 W → 2 < W.heap.size → Calls Tryz.prog 33 #[ExV b (foldS (prs l)).2, .int .i64 0] W (Gives (.float .f64 (rndX (foldS (prs l)).1 (foldS (prs l)).2 0)) W)) := Lib.hid fun h b W hi ht hts => by
    have h1 := prs_small (l := l) (by omega) (spc_fin.1 h) l.length (Nat.le_refl _)
    rw [show (prs l).take l.length = prs l from List.take_of_length_le (by unfold prs; simp)] at h1
    exact rRound_any b _ _ 0 W hi (by omega) (by omega) (by omega) (by decide) (by decide) ht hts
  have HE1 : Hid ((spcF l).2 = true → exB l = (rspcB l).1) := Lib.hid fun h => by rw [exB_spc h, sp2 h]
  have HE2 := Lib.hid (exB_ngt (l := l))
  have HE3 := Lib.hid (exB_fin (l := l))
  have hci : decide ((4096 : Int) < (l.length : Int)) = false := by simp; omega
  obtain ⟨ao, cap, rfl, -⟩ := hl
  generalize rndX (foldS (prs l)).1 (foldS (prs l)).2 0 = RX at *
  generalize exB l = R at *
  generalize (rspcB l).1 = C at *
  generalize (spcF l).2 = fd at *
  generalize ngtB l = ng at *
  generalize (foldS (prs l)).1 = Z at *
  generalize (foldS (prs l)).2 = E at *
  clear hT hTs hlen hx sp1 sp2
  go_enter Tryz.func57, Tryz.ntmps57
  go_wp2_with fail
  refine (HSP.out _ HL.out).mono ?_
  rintro e1 w1 ⟨rfl, hb1⟩
  have HB1 := Lib.hid hb1
  clear hb1
  cases fd
  · go_wp2_with fail
    refine (HNG.out _ (HL.out.below HB1.out)).mono ?_
    rintro e2 w2 ⟨rfl, hb2⟩
    have HB2 := Lib.hid (HB1.out.trans (hb2.mono HB1.out.size))
    clear hb2
    cases ng
    · obtain rfl : R = RX := HE3.out (by simp) (by simp)
      go_wp2_with fail
      refine (HSM.out (by simp) _ (HL.out.below HB2.out)).mono ?_
      rintro e3 w3 ⟨q, rfl, hi3, hb3⟩
      have HB3 := Lib.hid (HB2.out.trans (hb3.mono HB2.out.size))
      have HI3 := Lib.hid hi3
      clear hi3 hb3
      unfold ExV at *
      go_wp2_with fail
      refine (HBD.out (by simp) q _ HI3.out (HT.out.1.below HT.out.2 HB3.out) (Nat.lt_of_lt_of_le HT.out.2 HB3.out.size)).mono ?_
      rintro e4 w4 ⟨rfl, hb4⟩
      have HB4 := Lib.hid (HB3.out.trans (hb4.mono HB3.out.size))
      clear hb4
      go_wp2
      go_ret2
      exact ⟨rfl, HB4.out⟩
    · obtain rfl : R = kSign := HE2.out (by simp) (by simp)
      have HCP : Hid (cpB (sgnB 13830554455654793216) 0 = kSign) := Lib.hid (by decide)
      go_wp2_with fail
      refine (copysign_any 0 13830554455654793216 _ (by decide) (by decide)).mono ?_
      rintro e3 w3 ⟨rfl, hb3⟩
      rw [HCP.out]
      have HB3 := Lib.hid (HB2.out.trans (hb3.mono HB2.out.size))
      clear hb3
      go_wp2
      go_ret2
      exact ⟨rfl, HB3.out⟩
  · obtain rfl : R = C := HE1.out (by simp)
    go_wp2
    go_ret2
    exact ⟨rfl, HB1.out⟩

end Go.Proofs.YtjoajbbapfgaoaaGreatDoor
