/- Walks: math.Ldexp(1, 100); that the package of sums is awake. -/
import Derived.Test.YtjoajbbapfgaoaaGreatDoorGW
import Derived.Test.YtjoajbbapfgaoaaGreatDoorGV
import Derived.Test.YtjoajbbapfgaoaaGreatDoorGC
section
namespace Go.Proofs.YtjoajbbapfgaoaaGreatDoor
open Go.RowKit

set_option maxRecDepth 100000 in
set_option maxHeartbeats 400000 in
theorem isNaN_any (x : Nat) (w : World) : Calls Tryz.prog 223 #[.float .f64 x] w (Gives (.bool (nanB x)) w) := by
  have hnt := nan_test x
  generalize nanB x = R at *
  go_enter Tryz.func223, Tryz.ntmps223
  go_wp2
  go_ret
  exact ⟨rfl, Below.refl _ _⟩

set_option maxRecDepth 100000 in
set_option maxHeartbeats 400000 in
theorem normalize_one (w : World) : Calls Tryz.prog 224 #[.float .f64 4607182418800017408] w (Gives (.tuple #[.float .f64 4607182418800017408, .int .i64 0]) w) := by
  have HA := Lib.hid fun w => abs_any 4607182418800017408 w (by decide)
  rw [show 4607182418800017408 % kSign = 4607182418800017408 by decide] at HA
  have hlt : (F6.order 4607182418800017408 4503599627370496 == some Ordering.lt) = false := by decide
  go_enter Tryz.func224, Tryz.ntmps224
  go_wp2_with fail
  refine (HA.out _).mono ?_
  rintro e1 w1 ⟨rfl, hb⟩
  have HB := Lib.hid hb
  clear hb
  go_wp2
  go_ret2
  exact ⟨rfl, HB.out⟩

set_option maxRecDepth 100000 in
set_option maxHeartbeats 800000 in
theorem ldexp_one (w : World) : Calls Tryz.prog 189 #[.float .f64 4607182418800017408, .int .i64 100] w (Gives (.float .f64 5057542381537067008) w) := by
  have h0 : (F6.order 4607182418800017408 0 == some Ordering.eq) = false := by decide
  have HI := Lib.hid fun w => isInf_all 4607182418800017408 w (by decide)
  rw [show decide (4607182418800017408 % kSign = kInf) = false by decide] at HI
  have HN := Lib.hid fun w => isNaN_any 4607182418800017408 w
  rw [show nanB 4607182418800017408 = false by decide] at HN
  have HZ := Lib.hid fun w => normalize_one w
  have h1 := fbits_eq 4607182418800017408
  have h2 : bits .and .i64 1023 2047 = 1023 := by decide
  have h7 : wrap64 100 = 100 := by unfold wrap64; decide
  have h8 : wrap64 0 = 0 := by unfold wrap64; decide
  have h3 : bits .andNot .u64 4607182418800017408 9218868437227405312 = 0 := by decide
  have h4 : bits .or .u64 0 5057542381537067008 = 5057542381537067008 := by decide
  have h5 : ∀ w, (callFunc 14 #[.int .u64 5057542381537067008]).run Tryz.prog w = .ok (.value (.float .f64 5057542381537067008)) w := ffrom_eq 5057542381537067008
  have h6 : ∀ t w, (binOp .mul t (.float .f64 4607182418800017408) (.float .f64 5057542381537067008)).run Tryz.prog w = .ok (.float .f64 5057542381537067008) w := fun t w => run_float_arith w .mul t .f64 _ _ _ (by decide)
  go_enter Tryz.func189, Tryz.ntmps189
  go_wp2_with fail
  refine (HI.out _).mono ?_
  rintro e1 w1 ⟨rfl, hb1⟩
  have HB1 := Lib.hid hb1
  clear hb1
  go_wp2_with fail
  refine (HN.out _).mono ?_
  rintro e2 w2 ⟨rfl, hb2⟩
  have HB2 := Lib.hid (HB1.out.trans (hb2.mono HB1.out.size))
  clear hb2
  go_wp2_with fail
  refine (HZ.out _).mono ?_
  rintro e3 w3 ⟨rfl, hb3⟩
  have HB3 := Lib.hid (HB2.out.trans (hb3.mono HB2.out.size))
  clear hb3
  go_wp2
  go_ret
  exact ⟨rfl, HB3.out⟩

set_option maxRecDepth 100000 in
set_option maxHeartbeats 400000 in
theorem Ldexp_one (w : World) : Calls Tryz.prog 127 #[.float .f64 4607182418800017408, .int .i64 100] w (Gives (.float .f64 5057542381537067008) w) := by
  have HL := Lib.hid fun w => ldexp_one w
  go_enter Tryz.func127, Tryz.ntmps127
  go_wp2_with fail
  refine (HL.out _).mono ?_
  rintro e1 w1 ⟨rfl, hb1⟩
  have HB1 := Lib.hid hb1
  clear hb1
  go_wp2
  go_ret
  exact ⟨rfl, HB1.out⟩

theorem ex_awake : exB [4607182418800017408, 5057542381537067008, 4607182418800017408, 14280914418391842816] = 4611686018427387904 := by decide +kernel
theorem left_awake : cO (leftO [4607182418800017408, 4611686018427387904]) = 4613937818241073152 := by decide +kernel
theorem neu_awake : cO (oA .add (neuF [4607182418800017408, 5057542381537067008, 4607182418800017408, 14280914418391842816]).1 (neuF [4607182418800017408, 5057542381537067008, 4607182418800017408, 14280914418391842816]).2) = 4611686018427387904 := by decide +kernel

/-- A row of floats just made. -/
theorem FSl.made {W : World} {b : Nat} {l : List Nat} (h : BlkT W b 26 (l.map (fun x => Value.float .f64 x)).toArray) (hl : l.length ≤ 1099511627776) (hx : ∀ x ∈ l, x < 18446744073709551616) : FSl W (.slice (some ⟨b, 0, none⟩) l.length l.length) l := by
  refine ⟨_, _, rfl, Nat.le_refl _, hl, hx, fun _ => ⟨b, 0, rfl, h.lt, fun i hi => ?_⟩⟩
  rw [Nat.zero_add, h.cell i]
  simp [hi]

set_option maxRecDepth 100000 in
set_option maxHeartbeats 1600000 in
theorem awake5_any (w : World) (hT : Tab64 w) (hTs : 1 < w.heap.size) :
    Calls Tryz.prog 53 #[] w (Gives (.bool true) w) := by
  have HT := Lib.hid (And.intro hT hTs)
  have HLD := Lib.hid fun w => Ldexp_one w
  have HEX := Lib.hid fun v W h ht hts => exact_ok v [4607182418800017408, 5057542381537067008, 4607182418800017408, 14280914418391842816] W h (by decide) ht hts
  have HLF := Lib.hid fun v W h => sumLeft_any v [4607182418800017408, 4611686018427387904] W h
  have HNE := Lib.hid fun v W h => neumaier_any v [4607182418800017408, 5057542381537067008, 4607182418800017408, 14280914418391842816] W h
  rw [ex_awake] at HEX
  rw [left_awake] at HLF
  rw [neu_awake] at HNE
  have hng : Op.negFloat .f64 5057542381537067008 = 14280914418391842816 := by decide
  have H1 : ∀ w, (Op.unary .neg (.float .f64 5057542381537067008)).run Tryz.prog w = .ok (.float .f64 14280914418391842816) w := fun w => by rw [← hng]; rfl
  clear hng
  have ho1 : (F6.order 4611686018427387904 4611686018427387904 == some Ordering.eq) = true := by decide
  have ho2 : (F6.order 4613937818241073152 4613937818241073152 == some Ordering.eq) = true := by decide
  clear hT hTs
  go_enter Tryz.func53, Tryz.ntmps53
  go_wp2_with fail
  refine (HLD.out _).mono ?_
  rintro e1 w1 ⟨rfl, hb1⟩
  have HB1 := Lib.hid hb1
  clear hb1
  go_wp2_with fail
  refine (HEX.out _ _ (FSl.made (l := [4607182418800017408, 5057542381537067008, 4607182418800017408, 14280914418391842816]) (BlkT.new w1 _ _) (by decide) (by decide)) (HT.out.1.below HT.out.2 (HB1.out.alloc HB1.out.size _)) (Nat.lt_of_lt_of_le HT.out.2 (HB1.out.alloc HB1.out.size (.cells #[.float .f64 4607182418800017408, .float .f64 5057542381537067008, .float .f64 4607182418800017408, .float .f64 14280914418391842816] 26)).size)).mono ?_
  rintro e2 w2 ⟨rfl, hb2⟩
  have HB2 := Lib.hid ((HB1.out.alloc HB1.out.size _).trans (hb2.mono (HB1.out.alloc HB1.out.size _).size))
  clear hb2
  go_wp2_with fail
  refine (HLF.out _ _ (FSl.made (l := [4607182418800017408, 4611686018427387904]) (BlkT.new w2 _ _) (by decide) (by decide))).mono ?_
  rintro e3 w3 ⟨rfl, hb3⟩
  have HB3 := Lib.hid ((HB2.out.alloc HB2.out.size _).trans (hb3.mono (HB2.out.alloc HB2.out.size _).size))
  clear hb3
  go_wp2_with fail
  refine (HNE.out _ _ (FSl.made (l := [4607182418800017408, 5057542381537067008, 4607182418800017408, 14280914418391842816]) (BlkT.new w3 _ _) (by decide) (by decide))).mono ?_
  rintro e4 w4 ⟨rfl, hb4⟩
  have HB4 := Lib.hid ((HB3.out.alloc HB3.out.size _).trans (hb4.mono (HB3.out.alloc HB3.out.size _).size))
  clear hb4
  go_wp2
  go_ret
  exact ⟨rfl, HB4.out⟩

end Go.Proofs.YtjoajbbapfgaoaaGreatDoor
end

/- Walks: Kahan's sum, the references' Kahan and Neumaier. Printed by wip/gen/kah.py. -/
section
namespace Go.Proofs.YtjoajbbapfgaoaaGreatDoor
open Go.RowKit

/-- One number more, by Kahan. -/
def kahS (sc : Option Nat × Option Nat) (x : Nat) : Option Nat × Option Nat :=
  (oA .add sc.1 (oA .sub (some x) sc.2), oA .sub (oA .sub (oA .add sc.1 (oA .sub (some x) sc.2)) sc.1) (oA .sub (some x) sc.2))
def kahF (l : List Nat) : Option Nat × Option Nat := l.foldl kahS (some 0, some 0)

theorem kahF_take {l : List Nat} {k : Nat} (h : k < l.length) : kahF (l.take (k + 1)) = kahS (kahF (l.take k)) l[k] := by
  unfold kahF
  rw [List.take_succ_eq_append_getElem h, List.foldl_append]; rfl

set_option maxRecDepth 100000 in
set_option maxHeartbeats 1600000 in
theorem kahan_any (v : Value) (l : List Nat) (w : World) (hl : FSl w v l) :
    Calls Tryz.prog 65 #[v] w (Gives (.float .f64 (cO (kahF l).1)) w) := by
  obtain ⟨ao, cap, rfl, hcap, hn, hx, hc⟩ := hl
  have HC := Lib.hid hc
  have HX := Lib.hid hx
  have hadd : ∀ t u v w, (binOp .add t (.float .f64 u) (.float .f64 v)).run Tryz.prog w = .ok (.float .f64 (fV .add u v w)) (fN .add u v w) := fun t u v w => run_float_any .add (.inl rfl) t u v w
  have hsub : ∀ t u v w, (binOp .sub t (.float .f64 u) (.float .f64 v)).run Tryz.prog w = .ok (.float .f64 (fV .sub u v w)) (fN .sub u v w) := fun t u v w => run_float_any .sub (.inr (.inl rfl)) t u v w
  clear hc hx
  go_enter Tryz.func65, Tryz.ntmps65
  go_wp2
  go_loopw [3, 4, 11] (fun s c i wr => ∃ (k u v : Nat), k ≤ l.length ∧ i = .int .i64 k ∧ s = .float .f64 u ∧ c = .float .f64 v ∧ Hid (Rep (kahF (l.take k)).1 u ∧ Rep (kahF (l.take k)).2 v) ∧ Hid (Below w.heap.size w wr)) (fun _ _ i _ => l.length - (intOf i).toNat)
  case atStart => exact ⟨0, 0, 0, Nat.zero_le _, rfl, rfl, rfl, Lib.hid ⟨⟨by decide, rfl⟩, ⟨by decide, rfl⟩⟩, Lib.hid (Below.refl _ _)⟩
  case round =>
    obtain ⟨k, u, v, hk, rfl, rfl, rfl, HR, HB⟩ := hrel
    by_cases hlt : k < l.length
    · obtain ⟨b, off, rfl, hb, hcc⟩ := HC.out (by omega)
      have hck := (HB.out.cell (p := ⟨b, off + k, none⟩) hb).trans (hcc k hlt)
      have HXK := Lib.hid (HX.out _ (List.getElem_mem hlt))
      have HNK := Lib.hid (kahF_take hlt)
      clear hcc
      generalize l[k] = x at *
      generalize hS1 : kahF (l.take (k + 1)) = S1 at *
      have HS1 := Lib.hid hS1
      clear hS1
      generalize kahF (l.take k) = S0 at *
      obtain ⟨t1, c1⟩ := S1
      obtain ⟨s0, c0⟩ := S0
      have HN1 : Hid (t1 = oA .add s0 (oA .sub (some x) c0) ∧ c1 = oA .sub (oA .sub (oA .add s0 (oA .sub (some x) c0)) s0) (oA .sub (some x) c0)) := Lib.hid (by have := HNK.out; unfold kahS at this; simp only [Prod.mk.injEq] at this; exact this)
      clear HNK
      go_wp2
      go_roundw
      case rel =>
        refine ⟨k + 1, _, _, by omega, by go_num, rfl, rfl, Lib.hid ?_, Lib.hid ?_⟩
        · rw [HS1.out]
          have hy := (Rep.of HXK.out).op (op := .sub) HR.out.2 wr
          have ht := HR.out.1.op (op := .add) hy (fN .sub x v wr)
          refine ⟨?_, ?_⟩
          · show Rep t1 _
            rw [HN1.out.1]; exact ht
          · show Rep c1 _
            rw [HN1.out.2]; exact (ht.op HR.out.1 _).op hy _
        · refine HB.out.trans (Below.mono ?_ HB.out.size)
          have b1 := fN_below .sub x v wr
          exact b1.trans (Below.mono ((fN_below _ _ _ _).trans (((fN_below _ _ _ _).trans ((fN_below _ _ _ _).mono (fN_below _ _ _ _).size)).mono (fN_below _ _ _ _).size)) b1.size)
      case measure => simp [intOf]; omega
    · obtain rfl : k = l.length := by omega
      rw [List.take_length] at HR
      have HCN := Lib.hid HR.out.1.canon
      go_wp2_with fail
      refine (aCanon_any _ _ HR.out.1.1).mono ?_
      rintro e1 w1 ⟨rfl, hb⟩
      rw [HCN.out]
      have HB2 := Lib.hid (HB.out.trans (hb.mono HB.out.size))
      clear hb
      go_wp2
      go_ret
      exact ⟨rfl, HB2.out⟩

end Go.Proofs.YtjoajbbapfgaoaaGreatDoor
end

/- Walks: the sum by halves (program, references). Printed by wip/gen/pairs.py. -/
section
namespace Go.Proofs.YtjoajbbapfgaoaaGreatDoor
open Go.RowKit

/-- The greatest power of 2 below n. -/
def hfN (n : Nat) : Nat := 2 ^ (bl (n - 1) - 1)

theorem hfN_at {n j : Nat} (h1 : 2 ^ j < n) (h2 : n ≤ 2 * 2 ^ j) : hfN n = 2 ^ j := by
  unfold hfN
  have h3 : bl (n - 1) ≤ j + 1 := bl_le_of_lt (by rw [Nat.pow_succ]; omega)
  have h4 : ¬ bl (n - 1) ≤ j := fun h => by have := (bl_le_iff (N := n - 1) (k := j)).1 h; omega
  congr 1; omega

/-- The sum by halves. -/
def prB : Nat → List Nat → Nat
  | 0, _ => 0
  | _ + 1, [] => 0
  | _ + 1, [x] => canonB x
  | f + 1, l => cO (oA .add (some (prB f (l.take (hfN l.length)))) (some (prB f (l.drop (hfN l.length)))))

theorem prB_two {f : Nat} {l : List Nat} (h : 2 ≤ l.length) : prB (f + 1) l = cO (oA .add (some (prB f (l.take (hfN l.length)))) (some (prB f (l.drop (hfN l.length))))) := by
  match l, h with
  | [], h => simp at h
  | [_], h => simp at h
  | _ :: _ :: _, _ => rfl

theorem cO_lt {op : BinOp} {a b : Option Nat} : cO (oA op a b) < 18446744073709551616 := by
  cases h : oA op a b with
  | none => decide
  | some x =>
    have hx : x < 18446744073709551616 := by
      cases a with
      | none => simp [oA] at h
      | some u =>
        cases b with
        | none => simp [oA] at h
        | some v => exact bits_lt h
    show canonB x < _
    unfold canonB
    split
    · decide
    · exact hx

theorem prB_lt {f : Nat} {l : List Nat} (hx : ∀ x ∈ l, x < 18446744073709551616) : prB f l < 18446744073709551616 := by
  cases f with
  | zero => show (0 : Nat) < _; decide
  | succ f =>
    match l, hx with
    | [], _ => show (0 : Nat) < _; decide
    | [x], hx =>
      show canonB x < _
      unfold canonB
      split
      · decide
      · exact hx x (by simp)
    | a :: b :: l, _ =>
      rw [prB_two (by simp)]
      exact cO_lt

theorem FSl.takeS {W : World} {ao : Option Addr} {cap k : Nat} {l : List Nat} (h : FSl W (.slice ao l.length cap) l) (hk : k ≤ l.length) : FSl W (.slice ao k cap) (l.take k) := by
  obtain ⟨ao2, cap2, he, h1, h2, h3, h4⟩ := h
  obtain ⟨rfl, -, rfl⟩ : ao = ao2 ∧ l.length = l.length ∧ cap = cap2 := by simpa using he
  have hl : (l.take k).length = k := by rw [List.length_take]; omega
  refine ⟨ao, cap, by rw [hl], by omega, by omega, fun x hx => h3 x (List.mem_of_mem_take hx), fun h0 => ?_⟩
  obtain ⟨b, off, e, hb, hc⟩ := h4 (by omega)
  exact ⟨b, off, e, hb, fun i hi => by rw [hc i (by omega)]; simp⟩

theorem FSl.dropS {W : World} {b off cap k : Nat} {l : List Nat} (h : FSl W (.slice (some ⟨b, off, none⟩) l.length cap) l) (hk : k < l.length) : FSl W (.slice (some ⟨b, off + k, none⟩) (l.length - k) (cap - k)) (l.drop k) := by
  obtain ⟨ao2, cap2, he, h1, h2, h3, h4⟩ := h
  obtain ⟨rfl, -, rfl⟩ : some (⟨b, off, none⟩ : Addr) = ao2 ∧ l.length = l.length ∧ cap = cap2 := by simpa using he
  have hl : (l.drop k).length = l.length - k := List.length_drop
  refine ⟨_, _, by rw [hl], by omega, by omega, fun x hx => h3 x (List.mem_of_mem_drop hx), fun h0 => ?_⟩
  obtain ⟨b', off', e, hb, hc⟩ := h4 (by omega)
  simp only [Option.some.injEq, Addr.mk.injEq, and_true] at e
  obtain ⟨rfl, rfl⟩ := e
  exact ⟨b, off + k, rfl, hb, fun i hi => by rw [Nat.add_assoc, hc (k + i) (by omega)]; simp⟩

set_option maxRecDepth 100000 in
set_option maxHeartbeats 1600000 in
theorem pairs_any (f : Nat) : ∀ (v : Value) (l : List Nat) (w : World), l.length ≤ f → FSl w v l →
    Calls Tryz.prog 63 #[v] w (Gives (.float .f64 (prB f l)) w) := by
  induction f with
  | zero =>
    intro v l w hf hl
    obtain ⟨ao, cap, rfl, hcap, hn, hx, hc⟩ := hl
    have h0 : l.length = 0 := by omega
    rw [h0]
    clear hc hx hcap hn
    go_enter Tryz.func63, Tryz.ntmps63
    go_wp2
    go_ret
    exact ⟨rfl, Below.refl _ _⟩
  | succ f ih =>
    intro v l w hf hl
    have HL := Lib.hid hl
    obtain ⟨ao, cap, rfl, hcap, hn, hx, hc⟩ := hl
    by_cases h2 : l.length < 2
    · match l, h2 with
      | [], _ =>
        clear hc hx hcap hn ih hf
        go_enter Tryz.func63, Tryz.ntmps63
        go_wp2
        go_ret
        exact ⟨rfl, Below.refl _ _⟩
      | [x], _ =>
        obtain ⟨b, off, rfl, hb, hcc⟩ := hc (by simp)
        have hck := hcc 0 (by simp)
        rw [Nat.add_zero] at hck
        have HXK := Lib.hid (hx x (by simp))
        clear hc hx hcap hn ih hf hcc
        simp only [List.length_cons, List.length_nil, List.getElem_cons_zero] at *
        go_enter Tryz.func63, Tryz.ntmps63
        go_wp2_with fail
        refine (aCanon_any x _ HXK.out).mono ?_
        rintro e1 w1 ⟨rfl, hb1⟩
        have HBE := Lib.hid hb1
        clear hb1
        go_wp2
        go_ret
        exact ⟨rfl, HBE.out⟩
      | _ :: _ :: l, h => exact absurd h (by simp)
    have h2' : 2 ≤ l.length := by omega
    obtain ⟨b, off, rfl, hb, -⟩ := hc (by omega)
    rw [prB_two h2']
    have hx1 : ∀ x ∈ l.take (hfN l.length), x < 18446744073709551616 := fun x h => hx x (List.mem_of_mem_take h)
    have hx2 : ∀ x ∈ l.drop (hfN l.length), x < 18446744073709551616 := fun x h => hx x (List.mem_of_mem_drop h)
    have HR1 := Lib.hid (Rep.of (prB_lt (f := f) hx1))
    have HR2 := Lib.hid (Rep.of (prB_lt (f := f) hx2))
    have hadd : ∀ t u v w, (binOp .add t (.float .f64 u) (.float .f64 v)).run Tryz.prog w = .ok (.float .f64 (fV .add u v w)) (fN .add u v w) := fun t u v w => run_float_any .add (.inl rfl) t u v w
    have HRS := Lib.hid fun w => HR1.out.op (op := .add) HR2.out w
    have HCN := Lib.hid fun w => (HRS.out w).canon
    have HH : Hid (∀ j, 2 ^ j < l.length → l.length ≤ 2 * 2 ^ j → hfN l.length = 2 ^ j) := Lib.hid fun j h1 h2 => hfN_at h1 h2
    have HIH := Lib.hid ih
    have d0 : ((l.length : Int) == 0) = false := beq_eq_false_iff_ne.2 (by omega)
    have d1 : ((l.length : Int) == 1) = false := beq_eq_false_iff_ne.2 (by omega)
    have HB := Lib.hid (Below.refl w.heap.size w)
    have hlen : l.length ≤ 1099511627776 := hn
    have HLF := Lib.hid hf
    clear hc hx hx1 hx2 h2 ih hf hn
    go_enter Tryz.func63, Tryz.ntmps63
    go_wp2
    go_loopw [3] (fun h wr => ∃ j : Nat, 2 ^ j < l.length ∧ h = .int .i64 ((2 ^ j : Nat) : Int) ∧ wr = w) (fun h _ => l.length - (intOf h).toNat)
    case atStart => exact ⟨0, h2', rfl, rfl⟩
    case round =>
    obtain ⟨j, hj, rfl, rfl⟩ := hrel
    by_cases hlt : 2 * 2 ^ j < l.length
    · have hp : 2 ^ (j + 1) = 2 * 2 ^ j := by rw [Nat.pow_succ]; omega
      have HP := Lib.hid (And.intro hp (And.intro hlt (Nat.two_pow_pos j)))
      generalize 2 ^ j = h at *
      have hd : decide (2 * (h : Int) < (l.length : Int)) = true := by simp; omega
      have hw1 : IntKind.i64.wrap (2 * (h : Int)) = 2 * h := IntWalk.i64_in _ (by omega)
      have hw2 : IntKind.i64.wrap ((h : Int) * 2) = h * 2 := IntWalk.i64_in _ (by omega)
      clear hp
      go_wp2
      go_roundw
      case rel => exact ⟨j + 1, by rw [HP.out.1]; exact HP.out.2.1, by rw [HP.out.1]; go_num, by simp⟩
      case measure => have := HP.out.2; simp [intOf]; omega
    · have HE := HH.out j hj (by omega)
      rw [HE] at HRS HCN HR1 HR2
      have hpos := Nat.two_pow_pos j
      have HF1 := Lib.hid (HL.out.takeS (k := 2 ^ j) (by omega))
      have HF2 := Lib.hid (HL.out.dropS (k := 2 ^ j) hj)
      have HI1 := Lib.hid fun v W h => HIH.out v (l.take (2 ^ j)) W (by rw [List.length_take]; have := HLF.out; omega) h
      have HI2 := Lib.hid fun v W h => HIH.out v (l.drop (2 ^ j)) W (by rw [List.length_drop]; have := HLF.out; omega) h
      have HCE : Hid (cO (oA .add (some (prB f (l.take (hfN l.length)))) (some (prB f (l.drop (hfN l.length))))) = cO (oA .add (some (prB f (l.take (2 ^ j)))) (some (prB f (l.drop (2 ^ j)))))) := Lib.hid (by rw [HE])
      generalize cO (oA .add (some (prB f (l.take (hfN l.length)))) (some (prB f (l.drop (hfN l.length))))) = R at *
      generalize cO (oA .add (some (prB f (l.take (2 ^ j)))) (some (prB f (l.drop (2 ^ j))))) = R2 at *
      generalize prB f (l.take (2 ^ j)) = u at *
      generalize prB f (l.drop (2 ^ j)) = v at *
      generalize hh : 2 ^ j = h at *
      have hd : decide (2 * (h : Int) < (l.length : Int)) = false := by simp; omega
      have hw1 : IntKind.i64.wrap (2 * (h : Int)) = 2 * h := IntWalk.i64_in _ (by omega)
      have hb1 : (h : Int) ≤ (l.length : Int) := by omega
      have hb2 : (h : Int) ≤ (cap : Int) := by omega
      have hb3 : (l.length : Int) ≤ (cap : Int) := by omega
      clear hh HE HH HIH
      go_wp2
      refine wp_region_pl (fun w' : World => True) 7 (.take 0 (.take 1 (.take 2 (.take 4 (.take 5 (.take 6 (.run 3 .nil))))))) (by kernel_rfl) (by kernel_rfl) ?_
      replace HB := Lib.hid (HB.out.trans ((drew_below _).mono HB.out.size))
      generalize World.drew _ = W1 at HB ⊢
      have hS : (fun w' : World => True) W1 := trivial
      repeat (refine wpPl_takeL (v := ?_) rfl rfl (fun _ _ _ h => h) rfl (fun w' hSw => ?_) hS ?_; rotate_left; (focus (go_simp; with_reducible rfl)); simp only [List.setIfInBounds_toArray, List.set_cons_zero, List.set_cons_succ])
      clear hS
      refine wpPl_goL rfl rfl fun K' hK => ?_
      go_simp
      refine (HI1.out _ _ (HF1.out.below HB.out)).mono ?_
      rintro e1 V1 ⟨rfl, hb1⟩
      replace HB := Lib.hid (HB.out.trans (hb1.mono HB.out.size))
      refine hK _ _ trivial ?_
      clear hK K' hb1
      refine wpPl_nil ?_
      simp only [List.drop_succ_cons, List.drop_zero]
      skip
      go_wp2_with fail
      refine (HI2.out _ _ (HF2.out.below HB.out)).mono ?_
      rintro e1 w1 ⟨rfl, hb1⟩
      replace HB := Lib.hid (HB.out.trans (hb1.mono HB.out.size))
      clear hb1
      go_wp2_with fail
      refine (aCanon_any _ _ (HRS.out _).1).mono ?_
      rintro e2 w2 ⟨rfl, hb2⟩
      rw [HCN.out]
      have HBE := Lib.hid (HB.out.trans (((fN_below .add u v w1).trans (hb2.mono (fN_below .add u v w1).size)).mono HB.out.size))
      clear hb2
      go_wp2
      go_ret
      exact ⟨by rw [HCE.out]; rfl, HBE.out⟩

end Go.Proofs.YtjoajbbapfgaoaaGreatDoor
end
