/- Walks: the sum by halves (program, references). Printed by wip/gen/pairs.py. -/
import Derived.Test.YtjoajbbapfgaoaaGreatDoorZFl2
import Derived.Test.YtjoajbbapfgaoaaGreatDoorGC
namespace Go.Proofs.YtjoajbbapfgaoaaGreatDoor
open Go.RowKit

/-- The greatest power of 2 below n. -/
def hfN (n : Nat) : Nat := 2 ^ (bl (n - 1) - 1)

theorem hfN_at {n j : Nat} (h1 : 2 ^ j < n) (h2 : n ≤ 2 * 2 ^ j) : hfN n = 2 ^ j := by
  unfold hfN
  have h3 : bl (n - 1) ≤ j + 1 := bl_le_of_lt (by rw [Nat.pow_succ]; omega)
  have h4 : ¬ bl (n - 1) ≤ j := fun h => by have := (bl_le_iff (N := n - 1) (k := j)).1 h; omega
  congr 1; omega

/-- The sum by halves. -/
def prB : Nat → List Nat → Nat
  | 0, _ => 0
  | _ + 1, [] => 0
  | _ + 1, [x] => canonB x
  | f + 1, l => cO (oA .add (some (prB f (l.take (hfN l.length)))) (some (prB f (l.drop (hfN l.length)))))

theorem prB_two {f : Nat} {l : List Nat} (h : 2 ≤ l.length) : prB (f + 1) l = cO (oA .add (some (prB f (l.take (hfN l.length)))) (some (prB f (l.drop (hfN l.length))))) := by
  match l, h with
  | [], h => simp at h
  | [_], h => simp at h
  | _ :: _ :: _, _ => rfl

theorem cO_lt {op : BinOp} {a b : Option Nat} : cO (oA op a b) < 18446744073709551616 := by
  cases h : oA op a b with
  | none => decide
  | some x =>
    have hx : x < 18446744073709551616 := by
      cases a with
      | none => simp [oA] at h
      | some u =>
        cases b with
        | none => simp [oA] at h
        | some v => exact bits_lt h
    show canonB x < _
    unfold canonB
    split
    · decide
    · exact hx

theorem prB_lt {f : Nat} {l : List Nat} (hx : ∀ x ∈ l, x < 18446744073709551616) : prB f l < 18446744073709551616 := by
  cases f with
  | zero => show (0 : Nat) < _; decide
  | succ f =>
    match l, hx with
    | [], _ => show (0 : Nat) < _; decide
    | [x], hx =>
      show canonB x < _
      unfold canonB
      split
      · decide
      · exact hx x (by simp)
    | a :: b :: l, _ =>
      rw [prB_two (by simp)]
      exact cO_lt

theorem FSl.takeS {W : World} {ao : Option Addr} {cap k : Nat} {l : List Nat} (h : FSl W (.slice ao l.length cap) l) (hk : k ≤ l.length) : FSl W (.slice ao k cap) (l.take k) := by
  obtain ⟨ao2, cap2, he, h1, h2, h3, h4⟩ := h
  obtain ⟨rfl, -, rfl⟩ : ao = ao2 ∧ l.length = l.length ∧ cap = cap2 := by simpa using he
  have hl : (l.take k).length = k := by rw [List.length_take]; omega
  refine ⟨ao, cap, by rw [hl], by omega, by omega, fun x hx => h3 x (List.mem_of_mem_take hx), fun h0 => ?_⟩
  obtain ⟨b, off, e, hb, hc⟩ := h4 (by omega)
  exact ⟨b, off, e, hb, fun i hi => by rw [hc i (by omega)]; simp⟩

theorem FSl.dropS {W : World} {b off cap k : Nat} {l : List Nat} (h : FSl W (.slice (some ⟨b, off, none⟩) l.length cap) l) (hk : k < l.length) : FSl W (.slice (some ⟨b, off + k, none⟩) (l.length - k) (cap - k)) (l.drop k) := by
  obtain ⟨ao2, cap2, he, h1, h2, h3, h4⟩ := h
  obtain ⟨rfl, -, rfl⟩ : some (⟨b, off, none⟩ : Addr) = ao2 ∧ l.length = l.length ∧ cap = cap2 := by simpa using he
  have hl : (l.drop k).length = l.length - k := List.length_drop
  refine ⟨_, _, by rw [hl], by omega, by omega, fun x hx => h3 x (List.mem_of_mem_drop hx), fun h0 => ?_⟩
  obtain ⟨b', off', e, hb, hc⟩ := h4 (by omega)
  simp only [Option.some.injEq, Addr.mk.injEq, and_true] at e
  obtain ⟨rfl, rfl⟩ := e
  exact ⟨b, off + k, rfl, hb, fun i hi => by rw [Nat.add_assoc, hc (k + i) (by omega)]; simp⟩

set_option maxRecDepth 100000 in
set_option maxHeartbeats 1600000 in
theorem pairs_any (f : Nat) : ∀ (v : Value) (l : List Nat) (w : World), l.length ≤ f → FSl w v l →
    Calls Tryz.prog 63 #[v] w (Gives (.float .f64 (prB f l)) w) := by
  induction f with
  | zero =>
    intro v l w hf hl
    obtain ⟨ao, cap, rfl, hcap, hn, hx, hc⟩ := hl
    have h0 : l.length = 0 := by omega
    rw [h0]
    clear hc hx hcap hn
    go_enter Tryz.func63, Tryz.ntmps63
    go_wp2
    go_ret
    exact ⟨rfl, Below.refl _ _⟩
  | succ f ih =>
    intro v l w hf hl
    have HL := Lib.hid hl
    obtain ⟨ao, cap, rfl, hcap, hn, hx, hc⟩ := hl
    by_cases h2 : l.length < 2
    · match l, h2 with
      | [], _ =>
        clear hc hx hcap hn ih hf
        go_enter Tryz.func63, Tryz.ntmps63
        go_wp2
        go_ret
        exact ⟨rfl, Below.refl _ _⟩
      | [x], _ =>
        obtain ⟨b, off, rfl, hb, hcc⟩ := hc (by simp)
        have hck := hcc 0 (by simp)
        rw [Nat.add_zero] at hck
        have HXK := Lib.hid (hx x (by simp))
        clear hc hx hcap hn ih hf hcc
        simp only [List.length_cons, List.length_nil, List.getElem_cons_zero] at *
        go_enter Tryz.func63, Tryz.ntmps63
        go_wp2_with fail
        refine (aCanon_any x _ HXK.out).mono ?_
        rintro e1 w1 ⟨rfl, hb1⟩
        have HBE := Lib.hid hb1
        clear hb1
        go_wp2
        go_ret
        exact ⟨rfl, HBE.out⟩
      | _ :: _ :: l, h => exact absurd h (by simp)
    have h2' : 2 ≤ l.length := by omega
    obtain ⟨b, off, rfl, hb, -⟩ := hc (by omega)
    rw [prB_two h2']
    have hx1 : ∀ x ∈ l.take (hfN l.length), x < 18446744073709551616 := fun x h => hx x (List.mem_of_mem_take h)
    have hx2 : ∀ x ∈ l.drop (hfN l.length), x < 18446744073709551616 := fun x h => hx x (List.mem_of_mem_drop h)
    have HR1 := Lib.hid (Rep.of (prB_lt (f := f) hx1))
    have HR2 := Lib.hid (Rep.of (prB_lt (f := f) hx2))
    have hadd : ∀ t u v w, (binOp .add t (.float .f64 u) (.float .f64 v)).run Tryz.prog w = .ok (.float .f64 (fV .add u v w)) (fN .add u v w) := fun t u v w => run_float_any .add (.inl rfl) t u v w
    have HRS := Lib.hid fun w => HR1.out.op (op := .add) HR2.out w
    have HCN := Lib.hid fun w => (HRS.out w).canon
    have HH : Hid (∀ j, 2 ^ j < l.length → l.length ≤ 2 * 2 ^ j → hfN l.length = 2 ^ j) := Lib.hid fun j h1 h2 => hfN_at h1 h2
    have HIH := Lib.hid ih
    have d0 : ((l.length : Int) == 0) = false := beq_eq_false_iff_ne.2 (by omega)
    have d1 : ((l.length : Int) == 1) = false := beq_eq_false_iff_ne.2 (by omega)
    have HB := Lib.hid (Below.refl w.heap.size w)
    have hlen : l.length ≤ 1099511627776 := hn
    have HLF := Lib.hid hf
    clear hc hx hx1 hx2 h2 ih hf hn
    go_enter Tryz.func63, Tryz.ntmps63
    go_wp2
    go_loopw [3] (fun h wr => ∃ j : Nat, 2 ^ j < l.length ∧ h = .int .i64 ((2 ^ j : Nat) : Int) ∧ wr = w) (fun h _ => l.length - (intOf h).toNat)
    case atStart => exact ⟨0, h2', rfl, rfl⟩
    case round =>
    obtain ⟨j, hj, rfl, rfl⟩ := hrel
    by_cases hlt : 2 * 2 ^ j < l.length
    · have hp : 2 ^ (j + 1) = 2 * 2 ^ j := by rw [Nat.pow_succ]; omega
      have HP := Lib.hid (And.intro hp (And.intro hlt (Nat.two_pow_pos j)))
      generalize 2 ^ j = h at *
      have hd : decide (2 * (h : Int) < (l.length : Int)) = true := by simp; omega
      have hw1 : IntKind.i64.wrap (2 * (h : Int)) = 2 * h := IntWalk.i64_in _ (by omega)
      have hw2 : IntKind.i64.wrap ((h : Int) * 2) = h * 2 := IntWalk.i64_in _ (by omega)
      clear hp
      go_wp2
      go_roundw
      case rel => exact ⟨j + 1, by rw [HP.out.1]; exact HP.out.2.1, by rw [HP.out.1]; go_num, by simp⟩
      case measure => have := HP.out.2; simp [intOf]; omega
    · have HE := HH.out j hj (by omega)
      rw [HE] at HRS HCN HR1 HR2
      have hpos := Nat.two_pow_pos j
      have HF1 := Lib.hid (HL.out.takeS (k := 2 ^ j) (by omega))
      have HF2 := Lib.hid (HL.out.dropS (k := 2 ^ j) hj)
      have HI1 := Lib.hid fun v W h => HIH.out v (l.take (2 ^ j)) W (by rw [List.length_take]; have := HLF.out; omega) h
      have HI2 := Lib.hid fun v W h => HIH.out v (l.drop (2 ^ j)) W (by rw [List.length_drop]; have := HLF.out; omega) h
      have HCE : Hid (cO (oA .add (some (prB f (l.take (hfN l.length)))) (some (prB f (l.drop (hfN l.length))))) = cO (oA .add (some (prB f (l.take (2 ^ j)))) (some (prB f (l.drop (2 ^ j)))))) := Lib.hid (by rw [HE])
      generalize cO (oA .add (some (prB f (l.take (hfN l.length)))) (some (prB f (l.drop (hfN l.length))))) = R at *
      generalize cO (oA .add (some (prB f (l.take (2 ^ j)))) (some (prB f (l.drop (2 ^ j))))) = R2 at *
      generalize prB f (l.take (2 ^ j)) = u at *
      generalize prB f (l.drop (2 ^ j)) = v at *
      generalize hh : 2 ^ j = h at *
      have hd : decide (2 * (h : Int) < (l.length : Int)) = false := by simp; omega
      have hw1 : IntKind.i64.wrap (2 * (h : Int)) = 2 * h := IntWalk.i64_in _ (by omega)
      have hb1 : (h : Int) ≤ (l.length : Int) := by omega
      have hb2 : (h : Int) ≤ (cap : Int) := by omega
      have hb3 : (l.length : Int) ≤ (cap : Int) := by omega
      clear hh HE HH HIH
      go_wp2
      refine wp_region_pl (fun w' : World => True) 7 (.take 0 (.take 1 (.take 2 (.take 4 (.take 5 (.take 6 (.run 3 .nil))))))) (by kernel_rfl) (by kernel_rfl) ?_
      replace HB := Lib.hid (HB.out.trans ((drew_below _).mono HB.out.size))
      generalize World.drew _ = W1 at HB ⊢
      have hS : (fun w' : World => True) W1 := trivial
      repeat (refine wpPl_takeL (v := ?_) rfl rfl (fun _ _ _ h => h) rfl (fun w' hSw => ?_) hS ?_; rotate_left; (focus (go_simp; with_reducible rfl)); simp only [List.setIfInBounds_toArray, List.set_cons_zero, List.set_cons_succ])
      clear hS
      refine wpPl_goL rfl rfl fun K' hK => ?_
      go_simp
      refine (HI1.out _ _ (HF1.out.below HB.out)).mono ?_
      rintro e1 V1 ⟨rfl, hb1⟩
      replace HB := Lib.hid (HB.out.trans (hb1.mono HB.out.size))
      refine hK _ _ trivial ?_
      clear hK K' hb1
      refine wpPl_nil ?_
      simp only [List.drop_succ_cons, List.drop_zero]
      skip
      go_wp2_with fail
      refine (HI2.out _ _ (HF2.out.below HB.out)).mono ?_
      rintro e1 w1 ⟨rfl, hb1⟩
      replace HB := Lib.hid (HB.out.trans (hb1.mono HB.out.size))
      clear hb1
      go_wp2_with fail
      refine (aCanon_any _ _ (HRS.out _).1).mono ?_
      rintro e2 w2 ⟨rfl, hb2⟩
      rw [HCN.out]
      have HBE := Lib.hid (HB.out.trans (((fN_below .add u v w1).trans (hb2.mono (fN_below .add u v w1).size)).mono HB.out.size))
      clear hb2
      go_wp2
      go_ret
      exact ⟨by rw [HCE.out]; rfl, HBE.out⟩

set_option maxRecDepth 100000 in
set_option maxHeartbeats 1600000 in
theorem rPairs_any (f : Nat) : ∀ (v : Value) (l : List Nat) (w : World), l.length ≤ f → FSl w v l →
    Calls Tryz.prog 64 #[v] w (Gives (.float .f64 (prB f l)) w) := by
  induction f with
  | zero =>
    intro v l w hf hl
    obtain ⟨ao, cap, rfl, hcap, hn, hx, hc⟩ := hl
    have h0 : l.length = 0 := by omega
    rw [h0]
    clear hc hx hcap hn
    go_enter Tryz.func64, Tryz.ntmps64
    go_wp2
    go_ret
    exact ⟨rfl, Below.refl _ _⟩
  | succ f ih =>
    intro v l w hf hl
    have HL := Lib.hid hl
    obtain ⟨ao, cap, rfl, hcap, hn, hx, hc⟩ := hl
    by_cases h2 : l.length < 2
    · match l, h2 with
      | [], _ =>
        clear hc hx hcap hn ih hf
        go_enter Tryz.func64, Tryz.ntmps64
        go_wp2
        go_ret
        exact ⟨rfl, Below.refl _ _⟩
      | [x], _ =>
        obtain ⟨b, off, rfl, hb, hcc⟩ := hc (by simp)
        have hck := hcc 0 (by simp)
        rw [Nat.add_zero] at hck
        have HXK := Lib.hid (hx x (by simp))
        clear hc hx hcap hn ih hf hcc
        simp only [List.length_cons, List.length_nil, List.getElem_cons_zero] at *
        go_enter Tryz.func64, Tryz.ntmps64
        go_wp2_with fail
        refine (rCanon_any x _).mono ?_
        rintro e1 w1 ⟨rfl, hb1⟩
        have HBE := Lib.hid hb1
        clear hb1
        go_wp2
        go_ret
        exact ⟨rfl, HBE.out⟩
      | _ :: _ :: l, h => exact absurd h (by simp)
    have h2' : 2 ≤ l.length := by omega
    obtain ⟨b, off, rfl, hb, -⟩ := hc (by omega)
    rw [prB_two h2']
    have hx1 : ∀ x ∈ l.take (hfN l.length), x < 18446744073709551616 := fun x h => hx x (List.mem_of_mem_take h)
    have hx2 : ∀ x ∈ l.drop (hfN l.length), x < 18446744073709551616 := fun x h => hx x (List.mem_of_mem_drop h)
    have HR1 := Lib.hid (Rep.of (prB_lt (f := f) hx1))
    have HR2 := Lib.hid (Rep.of (prB_lt (f := f) hx2))
    have hadd : ∀ t u v w, (binOp .add t (.float .f64 u) (.float .f64 v)).run Tryz.prog w = .ok (.float .f64 (fV .add u v w)) (fN .add u v w) := fun t u v w => run_float_any .add (.inl rfl) t u v w
    have HRS := Lib.hid fun w => HR1.out.op (op := .add) HR2.out w
    have HCN := Lib.hid fun w => (HRS.out w).canon
    have HH : Hid (∀ j, 2 ^ j < l.length → l.length ≤ 2 * 2 ^ j → hfN l.length = 2 ^ j) := Lib.hid fun j h1 h2 => hfN_at h1 h2
    have HIH := Lib.hid ih
    have d0 : ((l.length : Int) == 0) = false := beq_eq_false_iff_ne.2 (by omega)
    have d1 : ((l.length : Int) == 1) = false := beq_eq_false_iff_ne.2 (by omega)
    have HB := Lib.hid (Below.refl w.heap.size w)
    have hlen : l.length ≤ 1099511627776 := hn
    have HLF := Lib.hid hf
    clear hc hx hx1 hx2 h2 ih hf hn
    go_enter Tryz.func64, Tryz.ntmps64
    go_wp2
    go_loopw [3] (fun h wr => ∃ j : Nat, 2 ^ j < l.length ∧ h = .int .i64 ((2 ^ j : Nat) : Int) ∧ wr = w) (fun h _ => l.length - (intOf h).toNat)
    case atStart => exact ⟨0, h2', rfl, rfl⟩
    case round =>
    obtain ⟨j, hj, rfl, rfl⟩ := hrel
    by_cases hlt : 2 * 2 ^ j < l.length
    · have hp : 2 ^ (j + 1) = 2 * 2 ^ j := by rw [Nat.pow_succ]; omega
      have HP := Lib.hid (And.intro hp (And.intro hlt (Nat.two_pow_pos j)))
      generalize 2 ^ j = h at *
      have hd : decide (2 * (h : Int) < (l.length : Int)) = true := by simp; omega
      have hw1 : IntKind.i64.wrap (2 * (h : Int)) = 2 * h := IntWalk.i64_in _ (by omega)
      have hw2 : IntKind.i64.wrap ((h : Int) * 2) = h * 2 := IntWalk.i64_in _ (by omega)
      clear hp
      go_wp2
      go_roundw
      case rel => exact ⟨j + 1, by rw [HP.out.1]; exact HP.out.2.1, by rw [HP.out.1]; go_num, by simp⟩
      case measure => have := HP.out.2; simp [intOf]; omega
    · have HE := HH.out j hj (by omega)
      rw [HE] at HRS HCN HR1 HR2
      have hpos := Nat.two_pow_pos j
      have HF1 := Lib.hid (HL.out.takeS (k := 2 ^ j) (by omega))
      have HF2 := Lib.hid (HL.out.dropS (k := 2 ^ j) hj)
      have HI1 := Lib.hid fun v W h => HIH.out v (l.take (2 ^ j)) W (by rw [List.length_take]; have := HLF.out; omega) h
      have HI2 := Lib.hid fun v W h => HIH.out v (l.drop (2 ^ j)) W (by rw [List.length_drop]; have := HLF.out; omega) h
      have HCE : Hid (cO (oA .add (some (prB f (l.take (hfN l.length)))) (some (prB f (l.drop (hfN l.length))))) = cO (oA .add (some (prB f (l.take (2 ^ j)))) (some (prB f (l.drop (2 ^ j)))))) := Lib.hid (by rw [HE])
      generalize cO (oA .add (some (prB f (l.take (hfN l.length)))) (some (prB f (l.drop (hfN l.length))))) = R at *
      generalize cO (oA .add (some (prB f (l.take (2 ^ j)))) (some (prB f (l.drop (2 ^ j))))) = R2 at *
      generalize prB f (l.take (2 ^ j)) = u at *
      generalize prB f (l.drop (2 ^ j)) = v at *
      generalize hh : 2 ^ j = h at *
      have hd : decide (2 * (h : Int) < (l.length : Int)) = false := by simp; omega
      have hw1 : IntKind.i64.wrap (2 * (h : Int)) = 2 * h := IntWalk.i64_in _ (by omega)
      have hb1 : (h : Int) ≤ (l.length : Int) := by omega
      have hb2 : (h : Int) ≤ (cap : Int) := by omega
      have hb3 : (l.length : Int) ≤ (cap : Int) := by omega
      clear hh HE HH HIH
      go_wp2
      refine wp_region_pl (fun w' : World => True) 7 (.take 0 (.take 1 (.take 2 (.take 4 (.take 5 (.take 6 (.run 3 .nil))))))) (by kernel_rfl) (by kernel_rfl) ?_
      replace HB := Lib.hid (HB.out.trans ((drew_below _).mono HB.out.size))
      generalize World.drew _ = W1 at HB ⊢
      have hS : (fun w' : World => True) W1 := trivial
      repeat (refine wpPl_takeL (v := ?_) rfl rfl (fun _ _ _ h => h) rfl (fun w' hSw => ?_) hS ?_; rotate_left; (focus (go_simp; with_reducible rfl)); simp only [List.setIfInBounds_toArray, List.set_cons_zero, List.set_cons_succ])
      clear hS
      refine wpPl_goL rfl rfl fun K' hK => ?_
      go_simp
      refine (HI1.out _ _ (HF1.out.below HB.out)).mono ?_
      rintro e1 V1 ⟨rfl, hb1⟩
      replace HB := Lib.hid (HB.out.trans (hb1.mono HB.out.size))
      refine hK _ _ trivial ?_
      clear hK K' hb1
      refine wpPl_nil ?_
      simp only [List.drop_succ_cons, List.drop_zero]
      skip
      go_wp2_with fail
      refine (HI2.out _ _ (HF2.out.below HB.out)).mono ?_
      rintro e1 w1 ⟨rfl, hb1⟩
      replace HB := Lib.hid (HB.out.trans (hb1.mono HB.out.size))
      clear hb1
      go_wp2_with fail
      refine (rCanon_any _ _).mono ?_
      rintro e2 w2 ⟨rfl, hb2⟩
      rw [HCN.out]
      have HBE := Lib.hid (HB.out.trans (((fN_below .add u v w1).trans (hb2.mono (fN_below .add u v w1).size)).mono HB.out.size))
      clear hb2
      go_wp2
      go_ret
      exact ⟨by rw [HCE.out]; rfl, HBE.out⟩

end Go.Proofs.YtjoajbbapfgaoaaGreatDoor
