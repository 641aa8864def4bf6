/- Walk: the references' number. -/
import Derived.Test.YtjoajbbapfgaoaaGreatDoorZRn4
namespace Go.Proofs.YtjoajbbapfgaoaaGreatDoor
open Go.RowKit

theorem num_facts {n k : Int} (hz : n ≠ 0) (hb : bl n.natAbs ≤ 53) (he : -1074 ≤ k) (hu : k + bl n.natAbs ≤ 1024) :
    (rndB n k 0 < 18446744073709551616 ∧ rndB n k 0 % kSign ≤ kInf) ∧ decide (rndB n k 0 % kSign = kInf) = false := by
  obtain ⟨h1, h2, h3, -⟩ := rnd_fin hz hb he hu
  obtain ⟨g1, -, -⟩ := rnd_exact (M := 1074) (by omega) hz hb he hu
  exact ⟨⟨h1, by omega⟩, decide_eq_false (by omega)⟩

set_option maxRecDepth 100000 in
set_option maxHeartbeats 800000 in
theorem rnumber_zero (p : Nat) (e : Int) (w : World) (hx : RInt w p 0) :
    Calls Tryz.prog 113 #[.pointer (some ⟨p, 0, none⟩), .int .i64 e] w (Gives (.float .f64 0) w) := by
  have HX := Lib.hid hx
  have h0 : floatOfInt .f64 0 = 0 := by decide
  have h1 : (F6.order 0 0 == some Ordering.eq) = true := by decide
  clear hx
  go_enter Tryz.func113, Tryz.ntmps113
  go_wp2_with fail
  refine (rInt64_any p 0 0 _ HX.out (by decide)).mono ?_
  rintro e1 w1 ⟨rfl, hb⟩
  have HB := Lib.hid hb
  clear hb
  go_wp2
  go_loopw [1, 5] (fun i x wr => i = .int .i64 e ∧ x = .float .f64 0 ∧ wr = w1) (fun _ _ _ => 0)
  case atStart => exact ⟨rfl, rfl, rfl⟩
  case round =>
    obtain ⟨rfl, rfl, rfl⟩ := hrel
    have fin : ∀ (P : Prop), (decide (0 < e) = true ∨ decide (0 < e) = false → P) → P := fun P h => h (by cases decide (0 < e) <;> simp)
    apply fin; clear fin
    rintro (hd | hd)
    · go_wp2
      go_loopw [1, 5] (fun i x w' => i = .int .i64 e ∧ x = .float .f64 0 ∧ w' = wr) (fun _ _ _ => 0)
      case atStart => exact ⟨rfl, rfl, rfl⟩
      case round =>
        obtain ⟨rfl, rfl, rfl⟩ := hrel
        by_cases hn : e < 0
        · have hm : decide (e < 0) = true := decide_eq_true hn
          clear hn
          go_wp2
          go_ret
          exact ⟨rfl, HB.out⟩
        · have hm : decide (e < 0) = false := decide_eq_false hn
          clear hn
          go_wp2
          go_ret
          exact ⟨rfl, HB.out⟩
    · go_wp2
      go_loopw [1, 5] (fun i x w' => i = .int .i64 e ∧ x = .float .f64 0 ∧ w' = wr) (fun _ _ _ => 0)
      case atStart => exact ⟨rfl, rfl, rfl⟩
      case round =>
        obtain ⟨rfl, rfl, rfl⟩ := hrel
        by_cases hn : e < 0
        · have hm : decide (e < 0) = true := decide_eq_true hn
          clear hn
          go_wp2
          go_ret
          exact ⟨rfl, HB.out⟩
        · have hm : decide (e < 0) = false := decide_eq_false hn
          clear hn
          go_wp2
          go_ret
          exact ⟨rfl, HB.out⟩

set_option maxRecDepth 100000 in
set_option maxHeartbeats 1600000 in
theorem rnumber_ne (p : Nat) (n e : Int) (w : World) (hx : RInt w p n) (h0 : n ≠ 0) (hb : bl n.natAbs ≤ 53) (he : -1074 ≤ e) (hu : e + bl n.natAbs ≤ 1024) :
    Calls Tryz.prog 113 #[.pointer (some ⟨p, 0, none⟩), .int .i64 e] w (Gives (.float .f64 (rndB n e 0)) w) := by
  have HX := Lib.hid hx
  have hi : floatOfInt .f64 n = rndB n 0 0 := ofInt_fin h0
  have HL : Hid (n.natAbs < 9223372036854775808) := Lib.hid (Nat.lt_of_lt_of_le (lt_of_bl hb) (by decide))
  have HNF : Hid (∀ k : Int, (0 ≤ k → k ≤ e → (rndB n k 0 < 18446744073709551616 ∧ rndB n k 0 % kSign ≤ kInf) ∧ decide (rndB n k 0 % kSign = kInf) = false ∧ (F6.order (rndB n k 0) 0 != some Ordering.eq) = true ∧ F6.mul (rndB n k 0) 4611686018427387904 = some (rndB n (k + 1) 0)) ∧
      (k ≤ 0 → e ≤ k → (F6.order (rndB n k 0) 0 != some Ordering.eq) = true ∧ F6.div (rndB n k 0) 4611686018427387904 = some (rndB n (k - 1) 0))) := by
    refine Lib.hid fun k => ⟨fun h1 h2 => ?_, fun h1 h2 => ?_⟩
    · obtain ⟨g1, g2⟩ := num_facts (k := k) h0 hb (by omega) (by omega)
      exact ⟨g1, g2, by rw [bne, rnd_ne0 h0 hb (by omega) (by omega)]; rfl, dbl_fin h0 hb (by omega) (by omega)⟩
    · exact ⟨by rw [bne, rnd_ne0 h0 hb (by omega) (by omega)]; rfl, half_fin h0 hb (by omega) (by omega)⟩
  have he2 : e ≤ 1024 := by omega
  clear hx hb h0 hu
  go_enter Tryz.func113, Tryz.ntmps113
  go_wp2_with fail
  refine (rInt64_any p 0 n _ HX.out HL.out).mono ?_
  rintro e1 w1 ⟨rfl, hb⟩
  have HB := Lib.hid hb
  clear hb
  go_wp2
  go_loopw [1, 5] (fun i x wr => ∃ f : Int, i = .int .i64 f ∧ x = .float .f64 (rndB n (e - f) 0) ∧ Hid (f ≤ e ∧ (0 ≤ f ∨ f = e)) ∧ Hid (Below w.heap.size w wr)) (fun i _ _ => (intOf i).toNat)
  case atStart => exact ⟨e, rfl, by rw [Int.sub_self], Lib.hid ⟨Int.le_refl _, .inr rfl⟩, HB⟩
  case round =>
    obtain ⟨f, rfl, rfl, HF, HB1⟩ := hrel
    by_cases hp : 0 < f
    · have hd : decide (0 < f) = true := decide_eq_true hp
      have hf1 : f ≤ 1024 := by have := HF.out; omega
      have hw : IntKind.i64.wrap (f - 1) = f - 1 := IntWalk.i64_in _ (by omega)
      have HP := Lib.hid hp
      have hk0 : 0 ≤ e - f := by have := HF.out; omega
      have hk1 : e - f ≤ e := by omega
      obtain ⟨HI, HII, ho, hmm⟩ := (HNF.out (e - f)).1 hk0 hk1
      have hmul : ∀ t w, (binOp .mul t (.float .f64 (rndB n (e - f) 0)) (.float .f64 4611686018427387904)).run Tryz.prog w = .ok (.float .f64 (rndB n (e - f + 1) 0)) w := fun t w => run_float_arith w .mul t .f64 _ _ _ hmm
      have HN : Hid (rndB n (e - f + 1) 0 = rndB n (e - (f - 1)) 0) := Lib.hid (by congr 1; omega)
      rw [HN.out] at hmul
      replace HI := Lib.hid HI
      replace HII := Lib.hid HII
      clear hmm hp hk0 hk1
      generalize rndB n (e - (f - 1)) 0 = Y at *
      generalize rndB n (e - f) 0 = X at *
      go_wp2_with fail
      refine (isInf_any X _ HI.out.1 HI.out.2).mono ?_
      rintro e2 w2 ⟨rfl, hb2⟩
      rw [HII.out]
      have HB2 := Lib.hid (HB1.out.trans (hb2.mono HB1.out.size))
      clear hb2
      go_wp2
      go_roundw
      case rel => exact ⟨f - 1, rfl, by rw [← HN.out, show e - f + 1 = e - (f - 1) by omega], Lib.hid (by have := HF.out; have := HP.out; omega), HB2⟩
      case measure => have := HP.out; simp [intOf]; omega
    · have hd : decide (0 < f) = false := decide_eq_false hp
      have HG : Hid ((0 ≤ e ∧ f = 0) ∨ (e < 0 ∧ e ≤ f ∧ f ≤ 0)) := Lib.hid (by have := HF.out; omega)
      clear hp
      go_wp2
      go_loopw [1, 5] (fun i x wr => ∃ g : Int, i = .int .i64 g ∧ x = .float .f64 (rndB n (e - g) 0) ∧ Hid ((0 ≤ e ∧ g = 0) ∨ (e < 0 ∧ e ≤ g ∧ g ≤ 0)) ∧ Hid (Below w.heap.size w wr)) (fun i _ _ => (- intOf i).toNat)
      case atStart => exact ⟨f, rfl, rfl, HG, HB1⟩
      case round =>
        obtain ⟨g, rfl, rfl, HG1, HB2⟩ := hrel
        by_cases hn : g < 0
        · have hm : decide (g < 0) = true := decide_eq_true hn
          have hw : IntKind.i64.wrap (g + 1) = g + 1 := IntWalk.i64_in _ (by have := HG1.out; omega)
          have HP := Lib.hid hn
          obtain ⟨ho, hmm⟩ := (HNF.out (e - g)).2 (by have := HG1.out; omega) (by omega)
          have hdiv : ∀ t w, (binOp .quo t (.float .f64 (rndB n (e - g) 0)) (.float .f64 4611686018427387904)).run Tryz.prog w = .ok (.float .f64 (rndB n (e - g - 1) 0)) w := fun t w => run_float_arith w .quo t .f64 _ _ _ hmm
          have HN : Hid (rndB n (e - g - 1) 0 = rndB n (e - (g + 1)) 0) := Lib.hid (by congr 1; omega)
          rw [HN.out] at hdiv
          clear hmm hn
          go_wp2
          go_roundw
          case rel => exact ⟨g + 1, rfl, rfl, Lib.hid (by have := HG1.out; have := HP.out; omega), HB2⟩
          case measure => have := HP.out; simp [intOf]; omega
        · have hm : decide (g < 0) = false := decide_eq_false hn
          obtain rfl : g = 0 := by have := HG1.out; omega
          clear hn
          go_wp2
          go_ret
          exact ⟨rfl, HB2.out⟩

theorem rnumber_any (p : Nat) (n e : Int) (w : World) (hx : RInt w p n) (hb : bl n.natAbs ≤ 53) (he : -1074 ≤ e) (hu : e + bl n.natAbs ≤ 1024) :
    Calls Tryz.prog 113 #[.pointer (some ⟨p, 0, none⟩), .int .i64 e] w (Gives (.float .f64 (numB n e)) w) := by
  unfold numB
  by_cases h0 : n = 0
  · subst h0; rw [if_pos rfl]; exact rnumber_zero p e w hx
  · rw [if_neg h0]; exact rnumber_ne p n e w hx h0 hb he hu

end Go.Proofs.YtjoajbbapfgaoaaGreatDoor
