/- Walks: the exact sum, rounded once. -/
import Derived.Test.YtjoajbbapfgaoaaGreatDoorZFl2
import Derived.Test.YtjoajbbapfgaoaaGreatDoorGN
import Derived.Test.YtjoajbbapfgaoaaGreatDoorZRn7
namespace Go.Proofs.YtjoajbbapfgaoaaGreatDoor
open Go.RowKit

/-- Neither NaN nor infinity stands aside: whether it does. -/
def spcB (x : Nat) : Bool := nanB x || decide (x % kSign = kInf)
/-- The sum of those that are no finite numbers; whether there are any. -/
def spcF (l : List Nat) : Option Nat × Bool := l.foldl (fun s x => if spcB x then (oA .add s.1 (some x), true) else s) (some 0, false)

theorem spcF_take {l : List Nat} {k : Nat} (h : k < l.length) : spcF (l.take (k + 1)) = if spcB l[k] then (oA .add (spcF (l.take k)).1 (some l[k]), true) else spcF (l.take k) := by
  unfold spcF
  rw [List.take_succ_eq_append_getElem h, List.foldl_append]; rfl

/-- There are numbers, and all are -0. -/
def ngtB (l : List Nat) : Bool := l.all (fun x => decide (x = kSign)) && decide (0 < l.length)

theorem nan_test (x : Nat) : (F6.order x x != some Ordering.eq) = nanB x := by rw [bne, order_self, Bool.not_not]

theorem valZ_word {x : Nat} (h : x < 18446744073709551616) (hf : finB x = true) : (F6.order x 0 != some Ordering.eq) = !decide (x % kSign = 0) := by
  rw [bne, order_zero h hf]
  congr 1
  rw [decide_eq_decide, valZ_zero]
  have h1 := wv_mant h hf
  constructor
  · intro h2
    rw [h2, Nat.zero_mul] at h1
    rcases Nat.eq_zero_or_pos (x % kSign) with h3 | h3
    · exact h3
    · have := wv_pos.2 h3; omega
  · intro h2
    rw [h2, wv_zero] at h1
    have := Nat.two_pow_pos (expB x + 1074).toNat
    rcases Nat.eq_zero_or_pos (mantB x) with h3 | h3
    · exact h3
    · have := Nat.mul_pos h3 this; omega

/-- The test for -0. -/
theorem ngt_test {x : Nat} (h : x < 18446744073709551616) : ((F6.order x 0 != some Ordering.eq) = true → x ≠ kSign) ∧ ((F6.order x 0 != some Ordering.eq) = false → ((!sgnB x) = !decide (x = kSign))) := by
  by_cases hf : finB x = true
  · rw [valZ_word h hf]
    have hk : kSign = 9223372036854775808 := rfl
    constructor
    · intro h1 h2
      subst h2
      rw [Nat.mod_self] at h1; simp at h1
    · intro h1
      have h2 : x % kSign = 0 := by simpa using h1
      congr 1
      unfold sgnB
      rw [decide_eq_decide]
      rw [hk] at h2 ⊢
      omega
  · have hne : x ≠ kSign := fun h2 => hf (by rw [h2]; decide)
    refine ⟨fun _ => hne, fun h1 => ?_⟩
    exfalso
    by_cases hn : nanB x = true
    · rw [order_nan hn] at h1; simp at h1
    · have hle : x % kSign ≤ kInf := by unfold nanB at hn; simpa using hn
      rcases fin_word hle with h3 | h3
      · exact hf h3.1
      · rw [order_ky h (by decide) hle (by decide)] at h1
        have h0 : ky 0 = 0 := by decide
        have h4 : ky x ≠ 0 := by
          rw [ky_cases h]
          have : kInf ≠ 0 := by decide
          split <;> omega
        rw [h0] at h1
        rcases Int.lt_trichotomy (ky x) 0 with h5 | h5 | h5
        · rw [Int.compare_eq_lt.2 h5] at h1; simp at h1
        · exact h4 h5
        · rw [Int.compare_eq_gt.2 h5] at h1; simp at h1

set_option maxRecDepth 100000 in
set_option maxHeartbeats 1600000 in
theorem special_any (v : Value) (l : List Nat) (w : World) (hl : FSl w v l) :
    Calls Tryz.prog 128 #[v] w (Gives (.tuple #[.float .f64 (cO (spcF l).1), .bool (spcF l).2]) w) := by
  obtain ⟨ao, cap, rfl, hcap, hn, hx, hc⟩ := hl
  have HC := Lib.hid hc
  have HX := Lib.hid hx
  have hadd : ∀ t u v w, (binOp .add t (.float .f64 u) (.float .f64 v)).run Tryz.prog w = .ok (.float .f64 (fV .add u v w)) (fN .add u v w) := fun t u v w => run_float_any .add (.inl rfl) t u v w
  have HIF := Lib.hid fun x w h => isInf_all x w h
  clear hc hx
  go_enter Tryz.func128, Tryz.ntmps128
  go_wp2
  go_loopw [4, 5, 10] (fun s f i wr => ∃ (k u : Nat) (fd : Bool), k ≤ l.length ∧ i = .int .i64 k ∧ s = .float .f64 u ∧ f = .bool fd ∧ Hid (Rep (spcF (l.take k)).1 u ∧ (spcF (l.take k)).2 = fd) ∧ Hid (Below w.heap.size w wr)) (fun _ _ i _ => l.length - (intOf i).toNat)
  case atStart => exact ⟨0, 0, false, Nat.zero_le _, rfl, rfl, rfl, Lib.hid ⟨⟨by decide, rfl⟩, rfl⟩, Lib.hid (Below.refl _ _)⟩
  case round =>
    obtain ⟨k, u, fd, hk, rfl, rfl, rfl, HR, HB⟩ := hrel
    by_cases hlt : k < l.length
    · obtain ⟨b, off, rfl, hb, hcc⟩ := HC.out (by omega)
      have hck := (HB.out.cell (p := ⟨b, off + k, none⟩) hb).trans (hcc k hlt)
      have HXK := Lib.hid (HX.out _ (List.getElem_mem hlt))
      have HNK := Lib.hid (spcF_take hlt)
      clear hcc
      generalize l[k] = x at *
      have hnt := nan_test x
      cases hnn : nanB x
      · rw [hnn] at hnt
        go_wp2_with fail
        refine (HIF.out x _ HXK.out).mono ?_
        rintro e1 w1 ⟨rfl, hb1⟩
        have HB1 := Lib.hid (HB.out.trans (hb1.mono HB.out.size))
        clear hb1
        cases hin : decide (x % kSign = kInf)
        · have HS : Hid (spcF (l.take (k + 1)) = spcF (l.take k)) := Lib.hid (by rw [HNK.out]; unfold spcB; rw [hnn, hin]; rfl)
          clear hnn hin HNK hnt
          go_wp2
          go_roundw
          case rel => exact ⟨k + 1, _, _, by omega, by go_num, rfl, rfl, Lib.hid (by rw [HS.out]; exact HR.out), HB1⟩
          case measure => simp [intOf]; omega
        · have HS : Hid (spcF (l.take (k + 1)) = (oA .add (spcF (l.take k)).1 (some x), true)) := Lib.hid (by rw [HNK.out]; unfold spcB; rw [hnn, hin]; rfl)
          clear hnn hin HNK hnt
          go_wp2
          go_roundw
          case rel => exact ⟨k + 1, _, _, by omega, by go_num, rfl, rfl, Lib.hid (by rw [HS.out]; exact ⟨HR.out.1.op (Rep.of HXK.out) _, rfl⟩), Lib.hid (HB1.out.trans ((fN_below _ _ _ _).mono HB1.out.size))⟩
          case measure => simp [intOf]; omega
      · rw [hnn] at hnt
        have HS : Hid (spcF (l.take (k + 1)) = (oA .add (spcF (l.take k)).1 (some x), true)) := Lib.hid (by rw [HNK.out]; unfold spcB; rw [hnn]; rfl)
        clear hnn HNK
        go_wp2
        go_roundw
        case rel => exact ⟨k + 1, _, _, by omega, by go_num, rfl, rfl, Lib.hid (by rw [HS.out]; exact ⟨HR.out.1.op (Rep.of HXK.out) _, rfl⟩), Lib.hid (HB.out.trans ((fN_below _ _ _ _).mono HB.out.size))⟩
        case measure => simp [intOf]; omega
    · obtain rfl : k = l.length := by omega
      rw [List.take_length] at HR
      have HCN := Lib.hid HR.out.1.canon
      go_wp2_with fail
      refine (aCanon_any _ _ HR.out.1.1).mono ?_
      rintro e1 w1 ⟨rfl, hb⟩
      rw [HCN.out]
      have HB2 := Lib.hid (HB.out.trans (hb.mono HB.out.size))
      clear hb
      go_wp2
      go_ret2
      exact ⟨by rw [HR.out.2]; rfl, HB2.out⟩

set_option maxRecDepth 100000 in
set_option maxHeartbeats 1600000 in
theorem noughts_any (v : Value) (l : List Nat) (w : World) (hl : FSl w v l) :
    Calls Tryz.prog 129 #[v] w (Gives (.bool (ngtB l)) w) := by
  obtain ⟨ao, cap, rfl, hcap, hn, hx, hc⟩ := hl
  have HC := Lib.hid hc
  have HX := Lib.hid hx
  have HSB := Lib.hid fun x w h => signbit_any x w h
  clear hc hx
  go_enter Tryz.func129, Tryz.ntmps129
  go_wp2
  go_loopw [7] (fun i wr => ∃ (k : Nat), k ≤ l.length ∧ i = .int .i64 k ∧ Hid ((l.take k).all (fun x => decide (x = kSign)) = true) ∧ Hid (Below w.heap.size w wr)) (fun i _ => l.length - (intOf i).toNat)
  case atStart => exact ⟨0, Nat.zero_le _, rfl, Lib.hid rfl, Lib.hid (Below.refl _ _)⟩
  case round =>
    obtain ⟨k, hk, rfl, HR, HB⟩ := hrel
    by_cases hlt : k < l.length
    · obtain ⟨b, off, rfl, hb, hcc⟩ := HC.out (by omega)
      have hck := (HB.out.cell (p := ⟨b, off + k, none⟩) hb).trans (hcc k hlt)
      have HXK := Lib.hid (HX.out _ (List.getElem_mem hlt))
      have HNO : Hid (l[k] ≠ kSign → ngtB l = false) := Lib.hid fun h => by
        unfold ngtB
        rw [show l.all (fun x => decide (x = kSign)) = false from by
          rw [List.all_eq_false]; exact ⟨_, List.getElem_mem hlt, by simpa using h⟩, Bool.false_and]
      have HYES : Hid (l[k] = kSign → (l.take (k + 1)).all (fun x => decide (x = kSign)) = true) := Lib.hid fun h => by
        rw [List.take_succ_eq_append_getElem hlt, List.all_append, HR.out, h]; simp
      clear hcc
      generalize l[k] = x at *
      have HT := Lib.hid (ngt_test HXK.out)
      cases ho : (F6.order x 0 != some Ordering.eq)
      · have h2 := HT.out.2 ho
        go_wp2_with fail
        refine (HSB.out x _ HXK.out).mono ?_
        rintro e1 w1 ⟨rfl, hb1⟩
        have HB1 := Lib.hid (HB.out.trans (hb1.mono HB.out.size))
        clear hb1
        by_cases hxk : x = kSign
        · have h3 : (!sgnB x) = false := by rw [h2, decide_eq_true hxk]; rfl
          have HA := Lib.hid (HYES.out hxk)
          clear h2 hxk HT HNO HYES
          go_wp2
          go_roundw
          case rel => exact ⟨k + 1, by omega, by go_num, HA, HB1⟩
          case measure => simp [intOf]; omega
        · have h3 : (!sgnB x) = true := by rw [h2, decide_eq_false hxk]; rfl
          have HA := Lib.hid (HNO.out hxk)
          clear h2 hxk HT HNO HYES
          go_wp2
          go_ret
          exact ⟨by rw [HA.out]; rfl, HB1.out⟩
      · have HA := Lib.hid (HNO.out (HT.out.1 ho))
        clear HT HNO HYES
        go_wp2
        go_ret
        exact ⟨by rw [HA.out]; rfl, HB.out⟩
    · obtain rfl : k = l.length := by omega
      rw [List.take_length] at HR
      have HA : Hid (ngtB l = decide (0 < l.length)) := Lib.hid (by unfold ngtB; rw [HR.out, Bool.true_and])
      go_wp2
      go_ret
      exact ⟨by rw [HA.out]; rfl, HB.out⟩

end Go.Proofs.YtjoajbbapfgaoaaGreatDoor
