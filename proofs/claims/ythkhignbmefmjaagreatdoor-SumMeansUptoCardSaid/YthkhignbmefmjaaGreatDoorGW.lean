/- Walks: the sums in order of all beginnings, as an iterator. -/
import Derived.RangeFuncNested
import Derived.RangeFuncBound
import Derived.RangeFuncCalls
import Derived.RangeFuncLeaves
import Derived.Shelf.Abstract
import Derived.Shelf.RegionOpen
import Derived.WalkKit
import Derived.OwnWalkIn
import Derived.TacticsInMore
import Derived.LoopNIn
import Derived.LoopIn
import Derived.Test.YthkhignbmefmjaaGreatDoorGV
import Derived.Test.YthkhignbmefmjaaGreatDoorGI
import Derived.RangeFuncFrom
import Derived.RangeFuncBox
import Derived.Test.YthkhignbmefmjaaGreatDoorGN
import Derived.Test.YthkhignbmefmjaaGreatDoorGT
namespace Go.Proofs.YthkhignbmefmjaaGreatDoor
section
open Go.RowKit Go.Shelf
attribute [local go_sem] Oper.semAt_some
def uptoF {α : Type} (f : Nat → α) (k : Nat) : List α := (List.range k).map f
theorem uptoF_succ {α : Type} (f : Nat → α) (k : Nat) : uptoF f (k + 1) = uptoF f k ++ [f k] := by simp [uptoF, List.range_succ]
theorem uptoF_length {α : Type} (f : Nat → α) (k : Nat) : (uptoF f k).length = k := by simp [uptoF]
theorem uptoF_prefix {α : Type} (f : Nat → α) {k n : Nat} (h : k ≤ n) : uptoF f k <+: uptoF f n := by
 obtain ⟨d, rfl⟩ := Nat.exists_eq_add_of_le h
 unfold uptoF
 rw [List.range_add, List.map_append]
 exact List.prefix_append _ _
def runB (xs : List Nat) (k : Nat) : Nat := cO (leftO (xs.take (k + 1)))
set_option maxRecDepth 100000 in
set_option maxHeartbeats 2000000 in
theorem run1_in (n : Nat) (hn : 1 ≤ n) (l Bs n₀ : Nat) (v : Value) (xs : List Nat) (J Jx : List Nat → World → Prop) (W : World)
  (hJ : AbidesFrom W.heap.size J)
  (hY : ∀ pre x W, J pre W → pre.length < xs.length → YieldAt Fence.wide (n - 1) Tryz.prog l #[.float .f64 x] W fun e W' =>
   (e = .returned (.bool true) ∧ J (pre ++ [x]) W' ∧ Below n₀ W W') ∨ (e = .returned (.bool false) ∧ Jx (pre ++ [x]) W'))
  (hBs : W.cell? ⟨Bs, 0, none⟩ = some v) (hl : FSl W v xs) (hn0 : n₀ ≤ W.heap.size) (hv : 0 < xs.length → ∀ b off n c, v = .slice (some ⟨b, off, none⟩) n c → b < n₀) (h0 : J [] W) :
  CallsIn Fence.wide n Tryz.prog 128 #[.func (.yield l) #[] #[], .pointer (some ⟨Bs, 0, none⟩)] W fun e W' => (∃ v, e = .returned v) ∧
   ((∃ ys, ys = uptoF (runB xs) xs.length ∧ J ys W') ∨ (∃ pre, pre <+: uptoF (runB xs) xs.length ∧ Jx pre W')) := by
 obtain ⟨ao, cap, rfl, hcap, hnl, hx, hc⟩ := hl
 have HC := Lib.hid hc
 have HX := Lib.hid hx
 have hadd : ∀ t u v w, (binOp .add t (.float .f64 u) (.float .f64 v)).run Tryz.prog w = .ok (.float .f64 (fV .add u v w)) (fN .add u v w) := fun t u v w => run_float_any .add (.inl rfl) t u v w
 clear hc hx
 refine callsIn_of_wp Tryz.func128 rfl trivial ?_ rfl
 simp only [Tryz.ntmps128, List.size_toArray, List.length_cons, List.length_nil, Nat.reduceAdd, Nat.reduceSub, Array.replicate_succ, Array.replicate_zero, List.push_toArray, List.append_toArray, List.nil_append, List.cons_append]
 gi_wp2
 gi_loopw [3, 8] (fun s i wr => ∃ (k u : Nat), k ≤ xs.length ∧ i = .int .i64 k ∧ s = .float .f64 u ∧ Hid (Rep (leftO (xs.take k)) u) ∧ J (uptoF (runB xs) k) wr ∧ Below n₀ W wr)
  (fun _ i _ => xs.length - (intOf i).toNat)
 case atStart => exact ⟨0, 0, Nat.zero_le _, rfl, rfl, Lib.hid ⟨by decide, rfl⟩, h0, Below.refl _ _⟩
 case round =>
  obtain ⟨k, u, hk, rfl, rfl, HR, hJs, hnx⟩ := hrel
  by_cases hlt : k < xs.length
  ·obtain ⟨b, off, rfl, hb, hcc⟩ := HC.out (by omega)
   have hck := (hnx.cell (p := ⟨b, off + k, none⟩) (hv (by omega) _ _ _ _ rfl)).trans (hcc k hlt)
   have HXK := Lib.hid (HX.out _ (List.getElem_mem hlt))
   have HR2 := Lib.hid fun w => by have := HR.out.op (op := .add) (Rep.of HXK.out) w; rw [← leftO_take hlt] at this; exact this
   have HCN := Lib.hid fun w => (HR2.out w).canon
   have HBD := Lib.hid fun w => (HR2.out w).1
   clear hcc
   generalize xs[k] = x at *
   have HF := Lib.hid (fN_below .add u x wr)
   have HCR : Hid (∀ w, canonB (fV .add u x w) = runB xs k) := Lib.hid fun w => HCN.out w
   have HNX : Hid (∀ w2, Below (fN .add u x wr).heap.size (fN .add u x wr) w2 → Below n₀ W w2) := Lib.hid fun w2 hb2 => hnx.trans ((HF.out.trans (hb2.mono HF.out.size)).mono (Nat.le_trans hn0 hnx.size))
   have HJ2 : Hid (∀ w2, Below (fN .add u x wr).heap.size (fN .add u x wr) w2 → J (uptoF (runB xs) k) w2) := Lib.hid fun w2 hb2 => hJ _ _ _ none (hJ _ _ _ none hJs (grown_of_below HF.out) (fun r e => by cases e)) (grown_of_below hb2) (fun r e => by cases e)
   gi_wp2_with (refine ⟨trivial, ?_⟩; gi_at_call 87; refine (callsIn_wide.2 (aCanon_any _ _ (HBD.out _))).mono ?_; rintro e w2 ⟨rfl, hb2⟩; rw [HCR.out]; have hnx2 := HNX.out w2 hb2; obtain ⟨fn, tmps, assign, body, hy, hR⟩ := hY _ (runB xs k) w2 (HJ2.out w2 hb2) (by rw [uptoF_length]; exact hlt); clear hb2)
   refine hR.mono ?_
   rintro e W3 (⟨rfl, hJ3, hk3⟩ | ⟨rfl, hJx3⟩)
   ·gi_wp2
    go_roundw
    case rel => exact ⟨k + 1, _, by omega, by go_num, rfl, Lib.hid (HR2.out _), by rw [uptoF_succ]; exact hJ3, hnx2.trans hk3⟩
    case measure => simp [intOf]; omega
   ·gi_wp2
    refine bodyPost_ret (results_none rfl _ _ _) rfl ?_
    exact ⟨⟨_, rfl⟩, .inr ⟨_, by rw [← uptoF_succ]; exact uptoF_prefix _ (by omega), hJx3⟩⟩
  ·obtain rfl : k = xs.length := by omega
   gi_wp2
   go_end0
   exact ⟨⟨_, rfl⟩, .inl ⟨_, rfl, hJs⟩⟩
end
section
open Go.RowKit Go.Shelf
attribute [local go_sem] Oper.semAt_some
set_option maxRecDepth 100000 in
set_option maxHeartbeats 1000000 in
theorem running_any (a : Option Addr) (len cap : Nat) (w : World) :
  Calls Tryz.prog 86 #[.slice a len cap] w fun e w' => e = .returned (.func (.func 128) #[] #[.pointer (some ⟨w.heap.size, 0, none⟩)]) ∧ w' = w.alloc (.cells #[.slice a len cap] 23) := by
 go_enter Tryz.func86, Tryz.ntmps86
 go_wp2
 go_ret
 exact ⟨rfl, rfl⟩
theorem run_stops (n : Nat) (hn : 1 ≤ n) (Bs n₀ : Nat) (v : Value) (xs : List Nat) (w : World) (hBs : Bs < w.heap.size) (hn₀ : n₀ ≤ w.heap.size)
  (hc : w.cell? ⟨Bs, 0, none⟩ = some v) (hI : FSl w v xs) (hv : 0 < xs.length → ∀ b off n c, v = .slice (some ⟨b, off, none⟩) n c → b < n₀) :
  SeqStopsK Fence.wide n Tryz.prog 128 #[.pointer (some ⟨Bs, 0, none⟩)] (fun x : Nat => #[Value.float .f64 x]) (Below n₀) (fun ys => ys = uptoF (runB xs) xs.length) (fun pre => pre <+: uptoF (runB xs) xs.length) xs.length w :=
 fun l J Jx W hW hJ _ hY h0 => run1_in n hn l Bs n₀ v xs J Jx W hJ hY ((hW.cell (p := ⟨Bs, 0, none⟩) hBs).trans hc) (hI.below hW) (Nat.le_trans hn₀ hW.size) hv h0
theorem last_run (xs : List Nat) : (uptoF (runB xs) xs.length).getLastD 0 = cO (leftO xs) := by
 cases h : xs.length with
 | zero =>
  have : xs = [] := List.length_eq_zero_iff.1 h
  subst this; decide
 | succ k =>
  rw [uptoF_succ, List.getLastD_concat]
  unfold runB
  rw [← h, List.take_length]
set_option maxRecDepth 100000 in
set_option maxHeartbeats 2000000 in
theorem sumLeft_any (v : Value) (xs : List Nat) (w : World) (hl : FSl w v xs) :
  Calls Tryz.prog 34 #[v] w (Gives (.float .f64 (cO (leftO xs))) w) := by
 have HL := Lib.hid hl
 obtain ⟨ao, cap, rfl, -, -, -, hc⟩ := hl
 have HV : Hid (0 < xs.length → ∀ b off n c, Value.slice ao xs.length cap = .slice (some ⟨b, off, none⟩) n c → b < w.heap.size) := Lib.hid fun h0 b off n c h => by
  obtain ⟨b', off', e, hb, -⟩ := hc h0
  simp only [Value.slice.injEq, e, Option.some.injEq, Addr.mk.injEq] at h
  omega
 clear hc
 refine (callsIn_wide (n := 4)).1 ?_
 refine callsIn_of_wp_marks Tryz.func34 rfl trivial ?_ rfl
 simp only [Tryz.ntmps34, List.size_toArray, List.length_cons, List.length_nil, Nat.reduceAdd, Nat.reduceSub, Array.replicate_succ, Array.replicate_zero, List.push_toArray, List.append_toArray, List.nil_append, List.cons_append]
 have hstf : ∀ (a : Addr) (b : Nat) (w : World), (store a (.float .f64 b)).run Tryz.prog w = stored Tryz.prog w a (.float .f64 b) _ := fun a b w => run_store Tryz.prog w a _ _ rfl
 have HB0 := Lib.hid (Boxed.new w 25 (.float .f64 0))
 have hs0 := HB0.out.cell
 have hf0 := HB0.out.frozen
 gi_wp2_with (refine ⟨trivial, ?_⟩; gi_at_call 86; refine (callsIn_wide.2 (running_any _ _ _ _)).mono ?_; rintro e w' ⟨rfl, rfl⟩)
 have HBB : Hid (Below w.heap.size w ((w.alloc (.cells #[.float .f64 0] 25)).alloc (.cells #[.slice ao xs.length cap] 23))) := Lib.hid (below2 _ _ _)
 refine wpIn_rangeFunc_ownF rfl (by omega) (gf := 128) (lb := #[.pointer (some ⟨w.heap.size + 1, 0, none⟩)]) rfl trivial (enters_of Tryz.func128 (by kernel_rfl) rfl)
  (run_stops 3 (by omega) (w.heap.size + 1) w.heap.size (.slice ao xs.length cap) xs _ (by simp) (by simp; omega) ((BlkT.new1 w (.cells #[.float .f64 0] 25) #[.slice ao xs.length cap] 23).cell 0) (HL.out.below HBB.out) HV.out) belowK_t (belowK_b (by simp; omega)) (Below.refl _ _) (fun _ => rfl)
  (fun pre W => Boxed W w.heap.size 25 (.float .f64 (pre.getLastD 0)) ∧ Below w.heap.size w W)
  (fun _ _ _ => False)
  (OwnFrom.and (Own.from (boxed_own _ _ _) _) (ownFrom_below (Nat.le_refl _) (by simp; omega)))
  (fun _ _ _ _ _ hs _ _ => hs)
  ⟨HB0.out.alloc _, HBB.out⟩
  (fun x => { tmps := #[.slice ao xs.length cap, undef, .float .f64 0, .pointer (some ⟨w.heap.size, 0, none⟩), .float .f64 x, .slice ao xs.length cap, .func (.func 128) #[] #[.pointer (some ⟨w.heap.size + 1, 0, none⟩)], .float .f64 x, undef, undef], defers := [] }) ?assign ?body ?done ?stop
 case assign =>
  intro l x W K hK
  gi_wp2
  exact hK
 case body =>
  rintro l pre x W ⟨hbx, hB⟩ _
  have hc := hbx.cell
  have hf := hbx.frozen
  gi_wp2
  exact ⟨KeepsOthers.setCell _ _ _, (Below.refl w.heap.size W).setCell (p := ⟨w.heap.size, 0, none⟩) (Nat.le_refl _) _, by rw [List.getLastD_concat]; exact hbx.set _, hB.setCell (p := ⟨w.heap.size, 0, none⟩) (Nat.le_refl _) _⟩
 case done =>
  rintro D ys W hD rfl ⟨hbx, hB⟩ hK
  rw [last_run] at hbx
  have hc := hbx.cell
  gi_wp2
  refine ⟨by simp, .inl ⟨_, _, rfl, run_takeDeferred hK, ?_⟩⟩
  exact ⟨_, results_tmp rfl _ _ _, rfl, hB.trans (belowK_b (w := w) (Nat.le_refl _) W D _ _ (by simp at hD; omega) hK rfl rfl)⟩
 case stop =>
  rintro D c pre W _ _ h _
  exact h.elim
end
section
open Go.RowKit
def spcB (x : Nat) : Bool := nanB x || decide (x % kSign = kInf)
def spcF (l : List Nat) : Option Nat × Bool := l.foldl (fun s x => if spcB x then (oA .add s.1 (some x), true) else s) (some 0, false)
theorem spcF_take {l : List Nat} {k : Nat} (h : k < l.length) : spcF (l.take (k + 1)) = if spcB l[k] then (oA .add (spcF (l.take k)).1 (some l[k]), true) else spcF (l.take k) := by
 unfold spcF
 rw [List.take_succ_eq_append_getElem h, List.foldl_append]; rfl
def ngtB (l : List Nat) : Bool := l.all (fun x => decide (x = kSign)) && decide (0 < l.length)
theorem nan_test (x : Nat) : (F6.order x x != some Ordering.eq) = nanB x := by rw [bne, order_self, Bool.not_not]
theorem valZ_word {x : Nat} (h : x < 18446744073709551616) (hf : finB x = true) : (F6.order x 0 != some Ordering.eq) = !decide (x % kSign = 0) := by
 rw [bne, order_zero h hf]
 congr 1
 rw [decide_eq_decide, valZ_zero]
 have h1 := wv_mant h hf
 constructor
 ·intro h2
  rw [h2, Nat.zero_mul] at h1
  rcases Nat.eq_zero_or_pos (x % kSign) with h3 | h3
  ·exact h3
  ·have := wv_pos.2 h3; omega
 ·intro h2
  rw [h2, wv_zero] at h1
  have := Nat.two_pow_pos (expB x + 1074).toNat
  rcases Nat.eq_zero_or_pos (mantB x) with h3 | h3
  ·exact h3
  ·have := Nat.mul_pos h3 this; omega
theorem ngt_test {x : Nat} (h : x < 18446744073709551616) : ((F6.order x 0 != some Ordering.eq) = true → x ≠ kSign) ∧ ((F6.order x 0 != some Ordering.eq) = false → ((!sgnB x) = !decide (x = kSign))) := by
 by_cases hf : finB x = true
 ·rw [valZ_word h hf]
  have hk : kSign = 9223372036854775808 := rfl
  constructor
  ·intro h1 h2
   subst h2
   rw [Nat.mod_self] at h1; simp at h1
  ·intro h1
   have h2 : x % kSign = 0 := by simpa using h1
   congr 1
   unfold sgnB
   rw [decide_eq_decide]
   rw [hk] at h2 ⊢
   omega
 ·have hne : x ≠ kSign := fun h2 => hf (by rw [h2]; decide)
  refine ⟨fun _ => hne, fun h1 => ?_⟩
  exfalso
  by_cases hn : nanB x = true
  ·rw [order_nan hn] at h1; simp at h1
  ·have hle : x % kSign ≤ kInf := by unfold nanB at hn; simpa using hn
   rcases fin_word hle with h3 | h3
   ·exact hf h3.1
   ·rw [order_ky h (by decide) hle (by decide)] at h1
    have h0 : ky 0 = 0 := by decide
    have h4 : ky x ≠ 0 := by
     rw [ky_cases h]
     have : kInf ≠ 0 := by decide
     split <;> omega
    rw [h0] at h1
    rcases Int.lt_trichotomy (ky x) 0 with h5 | h5 | h5
    ·rw [Int.compare_eq_lt.2 h5] at h1; simp at h1
    ·exact h4 h5
    ·rw [Int.compare_eq_gt.2 h5] at h1; simp at h1
set_option maxRecDepth 100000 in
set_option maxHeartbeats 1600000 in
theorem special_any (v : Value) (l : List Nat) (w : World) (hl : FSl w v l) :
  Calls Tryz.prog 85 #[v] w (Gives (.tuple #[.float .f64 (cO (spcF l).1), .bool (spcF l).2]) w) := by
 obtain ⟨ao, cap, rfl, hcap, hn, hx, hc⟩ := hl
 have HC := Lib.hid hc
 have HX := Lib.hid hx
 have hadd : ∀ t u v w, (binOp .add t (.float .f64 u) (.float .f64 v)).run Tryz.prog w = .ok (.float .f64 (fV .add u v w)) (fN .add u v w) := fun t u v w => run_float_any .add (.inl rfl) t u v w
 have HIF := Lib.hid fun x w h => isInf_all x w h
 clear hc hx
 go_enter Tryz.func85, Tryz.ntmps85
 go_wp2
 go_loopw [4, 5, 10] (fun s f i wr => ∃ (k u : Nat) (fd : Bool), k ≤ l.length ∧ i = .int .i64 k ∧ s = .float .f64 u ∧ f = .bool fd ∧ Hid (Rep (spcF (l.take k)).1 u ∧ (spcF (l.take k)).2 = fd) ∧ Hid (Below w.heap.size w wr)) (fun _ _ i _ => l.length - (intOf i).toNat)
 case atStart => exact ⟨0, 0, false, Nat.zero_le _, rfl, rfl, rfl, Lib.hid ⟨⟨by decide, rfl⟩, rfl⟩, Lib.hid (Below.refl _ _)⟩
 case round =>
  obtain ⟨k, u, fd, hk, rfl, rfl, rfl, HR, HB⟩ := hrel
  by_cases hlt : k < l.length
  ·obtain ⟨b, off, rfl, hb, hcc⟩ := HC.out (by omega)
   have hck := (HB.out.cell (p := ⟨b, off + k, none⟩) hb).trans (hcc k hlt)
   have HXK := Lib.hid (HX.out _ (List.getElem_mem hlt))
   have HNK := Lib.hid (spcF_take hlt)
   clear hcc
   generalize l[k] = x at *
   have hnt := nan_test x
   cases hnn : nanB x
   ·rw [hnn] at hnt
    go_wp2_with fail
    refine (HIF.out x _ HXK.out).mono ?_
    rintro e1 w1 ⟨rfl, hb1⟩
    have HB1 := Lib.hid (HB.out.trans (hb1.mono HB.out.size))
    clear hb1
    cases hin : decide (x % kSign = kInf)
    ·have HS : Hid (spcF (l.take (k + 1)) = spcF (l.take k)) := Lib.hid (by rw [HNK.out]; unfold spcB; rw [hnn, hin]; rfl)
     clear hnn hin HNK hnt
     go_wp2
     go_roundw
     case rel => exact ⟨k + 1, _, _, by omega, by go_num, rfl, rfl, Lib.hid (by rw [HS.out]; exact HR.out), HB1⟩
     case measure => simp [intOf]; omega
    ·have HS : Hid (spcF (l.take (k + 1)) = (oA .add (spcF (l.take k)).1 (some x), true)) := Lib.hid (by rw [HNK.out]; unfold spcB; rw [hnn, hin]; rfl)
     clear hnn hin HNK hnt
     go_wp2
     go_roundw
     case rel => exact ⟨k + 1, _, _, by omega, by go_num, rfl, rfl, Lib.hid (by rw [HS.out]; exact ⟨HR.out.1.op (Rep.of HXK.out) _, rfl⟩), Lib.hid (HB1.out.trans ((fN_below _ _ _ _).mono HB1.out.size))⟩
     case measure => simp [intOf]; omega
   ·rw [hnn] at hnt
    have HS : Hid (spcF (l.take (k + 1)) = (oA .add (spcF (l.take k)).1 (some x), true)) := Lib.hid (by rw [HNK.out]; unfold spcB; rw [hnn]; rfl)
    clear hnn HNK
    go_wp2
    go_roundw
    case rel => exact ⟨k + 1, _, _, by omega, by go_num, rfl, rfl, Lib.hid (by rw [HS.out]; exact ⟨HR.out.1.op (Rep.of HXK.out) _, rfl⟩), Lib.hid (HB.out.trans ((fN_below _ _ _ _).mono HB.out.size))⟩
    case measure => simp [intOf]; omega
  ·obtain rfl : k = l.length := by omega
   rw [List.take_length] at HR
   have HCN := Lib.hid HR.out.1.canon
   go_wp2_with fail
   refine (aCanon_any _ _ HR.out.1.1).mono ?_
   rintro e1 w1 ⟨rfl, hb⟩
   rw [HCN.out]
   have HB2 := Lib.hid (HB.out.trans (hb.mono HB.out.size))
   clear hb
   go_wp2
   go_ret2
   exact ⟨by rw [HR.out.2]; rfl, HB2.out⟩
set_option maxRecDepth 100000 in
set_option maxHeartbeats 1600000 in
theorem noughts_any (v : Value) (l : List Nat) (w : World) (hl : FSl w v l) :
  Calls Tryz.prog 13 #[v] w (Gives (.bool (ngtB l)) w) := by
 obtain ⟨ao, cap, rfl, hcap, hn, hx, hc⟩ := hl
 have HC := Lib.hid hc
 have HX := Lib.hid hx
 have HSB := Lib.hid fun x w h => signbit_any x w h
 clear hc hx
 go_enter Tryz.func13, Tryz.ntmps13
 go_wp2
 go_loopw [7] (fun i wr => ∃ (k : Nat), k ≤ l.length ∧ i = .int .i64 k ∧ Hid ((l.take k).all (fun x => decide (x = kSign)) = true) ∧ Hid (Below w.heap.size w wr)) (fun i _ => l.length - (intOf i).toNat)
 case atStart => exact ⟨0, Nat.zero_le _, rfl, Lib.hid rfl, Lib.hid (Below.refl _ _)⟩
 case round =>
  obtain ⟨k, hk, rfl, HR, HB⟩ := hrel
  by_cases hlt : k < l.length
  ·obtain ⟨b, off, rfl, hb, hcc⟩ := HC.out (by omega)
   have hck := (HB.out.cell (p := ⟨b, off + k, none⟩) hb).trans (hcc k hlt)
   have HXK := Lib.hid (HX.out _ (List.getElem_mem hlt))
   have HNO : Hid (l[k] ≠ kSign → ngtB l = false) := Lib.hid fun h => by
    unfold ngtB
    rw [show l.all (fun x => decide (x = kSign)) = false from by
     rw [List.all_eq_false]; exact ⟨_, List.getElem_mem hlt, by simpa using h⟩, Bool.false_and]
   have HYES : Hid (l[k] = kSign → (l.take (k + 1)).all (fun x => decide (x = kSign)) = true) := Lib.hid fun h => by
    rw [List.take_succ_eq_append_getElem hlt, List.all_append, HR.out, h]; simp
   clear hcc
   generalize l[k] = x at *
   have HT := Lib.hid (ngt_test HXK.out)
   cases ho : (F6.order x 0 != some Ordering.eq)
   ·have h2 := HT.out.2 ho
    go_wp2_with fail
    refine (HSB.out x _ HXK.out).mono ?_
    rintro e1 w1 ⟨rfl, hb1⟩
    have HB1 := Lib.hid (HB.out.trans (hb1.mono HB.out.size))
    clear hb1
    by_cases hxk : x = kSign
    ·have h3 : (!sgnB x) = false := by rw [h2, decide_eq_true hxk]; rfl
     have HA := Lib.hid (HYES.out hxk)
     clear h2 hxk HT HNO HYES
     go_wp2
     go_roundw
     case rel => exact ⟨k + 1, by omega, by go_num, HA, HB1⟩
     case measure => simp [intOf]; omega
    ·have h3 : (!sgnB x) = true := by rw [h2, decide_eq_false hxk]; rfl
     have HA := Lib.hid (HNO.out hxk)
     clear h2 hxk HT HNO HYES
     go_wp2
     go_ret
     exact ⟨by rw [HA.out]; rfl, HB1.out⟩
   ·have HA := Lib.hid (HNO.out (HT.out.1 ho))
    clear HT HNO HYES
    go_wp2
    go_ret
    exact ⟨by rw [HA.out]; rfl, HB.out⟩
  ·obtain rfl : k = l.length := by omega
   rw [List.take_length] at HR
   have HA : Hid (ngtB l = decide (0 < l.length)) := Lib.hid (by unfold ngtB; rw [HR.out, Bool.true_and])
   go_wp2
   go_ret
   exact ⟨by rw [HA.out]; rfl, HB.out⟩
end
section
open Go.RowKit
def exB (l : List Nat) : Nat := if (spcF l).2 then cO (spcF l).1 else if ngtB l then kSign else rndX (foldS (prs l)).1 (foldS (prs l)).2 0
theorem exB_spc {l : List Nat} (h : (spcF l).2 = true) : exB l = cO (spcF l).1 := if_pos h
theorem exB_ngt {l : List Nat} (h : (spcF l).2 = false) (h2 : ngtB l = true) : exB l = kSign := by unfold exB; rw [h, h2]; rfl
theorem exB_fin {l : List Nat} (h : (spcF l).2 = false) (h2 : ngtB l = false) : exB l = rndX (foldS (prs l)).1 (foldS (prs l)).2 0 := by unfold exB; rw [h, h2]; rfl
theorem spc_any (l : List Nat) : (spcF l).2 = l.any spcB := by
 have key : ∀ (l : List Nat) (s : Option Nat × Bool), (l.foldl (fun s x => if spcB x then (oA .add s.1 (some x), true) else s) s).2 = (s.2 || l.any spcB) := by
  intro l
  induction l with
  | nil => intro s; simp
  | cons x l ih =>
   intro s
   rw [List.foldl_cons, ih, List.any_cons]
   cases h : spcB x
   ·simp
   ·simp
 unfold spcF
 rw [key]; rfl
theorem spcB_fin {x : Nat} : spcB x = !finB x := by
 unfold spcB
 by_cases hn : nanB x = true
 ·rw [hn, Bool.true_or]
  cases hf : finB x
  ·rfl
  ·rw [nan_fin hf] at hn; cases hn
 ·have hn2 : nanB x = false := by simpa using hn
  rw [hn2, Bool.false_or]
  have hle : x % kSign ≤ kInf := by unfold nanB at hn2; simpa using hn2
  rcases fin_word hle with h | h
  ·rw [h.1, decide_eq_false (by omega)]; rfl
  ·rw [h.1, decide_eq_true h.2]; rfl
theorem spc_fin {l : List Nat} : (spcF l).2 = false ↔ l.all finB = true := by
 rw [spc_any, List.any_eq_false, List.all_eq_true]
 constructor
 ·intro h x hx
  have := h x hx
  rw [spcB_fin] at this
  simpa using this
 ·intro h x hx
  rw [spcB_fin, h x hx]; simp
theorem rndX_hv (z e mode : Int) : rndB (hvZ z) (nrE z e) mode = rndX z e mode := by
 unfold rndX
 by_cases h0 : z = 0
 ·subst h0
  rw [if_pos rfl, hvZ_zero, show nrE 0 e = 0 from if_pos rfl, rnd_zero 0 mode rfl]
 ·rw [if_neg h0]
  have h1 : 0 ≤ e + (e.natAbs : Int) := by omega
  rw [rnd_sc (M := (e.natAbs : Int)) (hvZ_ne h0) (nrE_ge (by omega) h1), sc_nr h1, ← rnd_sc h0 h1]
theorem good_hv {z e : Int} (h1 : bl z.natAbs ≤ 60000) (h2 : -30000 ≤ e) (h3 : e ≤ 30000) : GoodD (hvZ z) (nrE z e) := by
 refine ⟨nrm_hv z e, Nat.le_trans (bl_mono hvZ_natAbs_le) (by omega), ?_, ?_⟩
 ·unfold nrE hvE; split <;> omega
 ·have := tzb_le (N := z.natAbs)
  unfold nrE hvE; split <;> omega
set_option maxRecDepth 100000 in
set_option maxHeartbeats 1600000 in
theorem exact_ok (v : Value) (l : List Nat) (w : World) (hl : FSl w v l) (hlen : l.length ≤ 4096) (hT : Tab64 w) (hTs : 1 < w.heap.size) :
  Calls Tryz.prog 33 #[v] w (Gives (.tuple #[.float .f64 (exB l), .int .i64 0]) w) := by
 have HL := Lib.hid hl
 have HT := Lib.hid (And.intro hT hTs)
 have HSP := Lib.hid fun W (h : FSl W v l) => special_any v l W h
 have HNG := Lib.hid fun W (h : FSl W v l) => noughts_any v l W h
 have HSM : Hid ((spcF l).2 = false → ∀ W, FSl W v l → Tab64 W → 1 < W.heap.size → Calls Tryz.prog 15 #[v] W (DyNew (hvZ (foldS (prs l)).1) (nrE (foldS (prs l)).1 (foldS (prs l)).2) W)) :=
  Lib.hid fun h W h1 h2 h3 => Sum_any v l W h1 (spc_fin.1 h) h2 h3
 have HGD : Hid ((spcF l).2 = false → GoodD (hvZ (foldS (prs l)).1) (nrE (foldS (prs l)).1 (foldS (prs l)).2)) := Lib.hid fun h => by
  have h1 := prs_small (l := l) (by omega) (spc_fin.1 h) l.length (Nat.le_refl _)
  rw [show (prs l).take l.length = prs l from List.take_of_length_le (by unfold prs; simp)] at h1
  exact good_hv (by omega) (by omega) (by omega)
 have HE1 := Lib.hid (exB_spc (l := l))
 have HE2 := Lib.hid (exB_ngt (l := l))
 have HE3 : Hid ((spcF l).2 = false → ngtB l = false → exB l = rndB (hvZ (foldS (prs l)).1) (nrE (foldS (prs l)).1 (foldS (prs l)).2) 0) := Lib.hid fun h h2 => by rw [exB_fin h h2, rndX_hv]
 have hci : decide ((4096 : Int) < (l.length : Int)) = false := by simp; omega
 obtain ⟨ao, cap, rfl, -⟩ := hl
 generalize exB l = R at *
 generalize cO (spcF l).1 = C at *
 generalize (spcF l).2 = fd at *
 generalize ngtB l = ng at *
 generalize hvZ (foldS (prs l)).1 = Z at *
 generalize nrE (foldS (prs l)).1 (foldS (prs l)).2 = E at *
 clear hT hTs hlen
 go_enter Tryz.func33, Tryz.ntmps33
 go_wp2_with fail
 refine (HSP.out _ HL.out).mono ?_
 rintro e1 w1 ⟨rfl, hb1⟩
 have HB1 := Lib.hid hb1
 clear hb1
 cases fd
 ·go_wp2_with fail
  refine (HNG.out _ (HL.out.below HB1.out)).mono ?_
  rintro e2 w2 ⟨rfl, hb2⟩
  have HB2 := Lib.hid (HB1.out.trans (hb2.mono HB1.out.size))
  clear hb2
  cases ng
  ·obtain rfl : R = rndB Z E 0 := HE3.out (by simp) (by simp)
   have HG := Lib.hid (HGD.out (by simp))
   go_wp2_with fail
   refine (HSM.out (by simp) _ (HL.out.below HB2.out) (HT.out.1.below HT.out.2 HB2.out) (Nat.lt_of_lt_of_le HT.out.2 HB2.out.size)).mono ?_
   rintro e3 w3 hd
   obtain ⟨da, dc, rfl, hr, -, hb3⟩ := hd.at
   have HB3 := Lib.hid ((HB2.out.trans (hb3.mono HB2.out.size)).alloc (HB2.out.trans (hb3.mono HB2.out.size)).size (.cells #[.bool (decide (Z < 0)), .slice da (ln 32 Z.natAbs) dc, .int .i64 E] 40))
   have HDA : Hid (DyAt (w3.alloc (.cells #[.bool (decide (Z < 0)), .slice da (ln 32 Z.natAbs) dc, .int .i64 E] 40)) (DyV (decide (Z < 0)) (.slice da (ln 32 Z.natAbs) dc) E) Z E) := Lib.hid ⟨_, rfl, hr.below (Below.alloc_self w3 _)⟩
   clear hd hr hb3 HE1 HE2 HE3 HSP HNG HSM HGD HL
   have HRD := Lib.hid fun v W (h : DyAt W v Z E) ht hts => dRound_any v Z E 0 W h HG.out (by decide) (by decide) ht hts
   generalize rndB Z E 0 = R at *
   unfold DyV at HDA
   generalize decide (Z < 0) = na at *
   generalize ln 32 Z.natAbs = la at *
   go_wp2_with fail
   refine (HRD.out _ _ HDA.out (HT.out.1.below HT.out.2 HB3.out) (Nat.lt_of_lt_of_le HT.out.2 HB3.out.size)).mono ?_
   rintro e4 w4 ⟨rfl, hb4⟩
   have HB4 := Lib.hid (HB3.out.trans (hb4.mono HB3.out.size))
   clear hb4
   go_wp2
   go_ret2
   exact ⟨rfl, HB4.out⟩
  ·obtain rfl : R = kSign := HE2.out (by simp) (by simp)
   have HCP : Hid (cpB (sgnB 13830554455654793216) 0 = kSign) := Lib.hid (by decide)
   go_wp2_with fail
   refine (copysign_any 0 13830554455654793216 _ (by decide) (by decide)).mono ?_
   rintro e3 w3 ⟨rfl, hb3⟩
   rw [HCP.out]
   have HB3 := Lib.hid (HB2.out.trans (hb3.mono HB2.out.size))
   clear hb3
   go_wp2
   go_ret2
   exact ⟨rfl, HB3.out⟩
 ·obtain rfl : R = C := HE1.out (by simp)
  go_wp2
  go_ret2
  exact ⟨rfl, HB1.out⟩
end
end Go.Proofs.YthkhignbmefmjaaGreatDoor
