/- Walks: the sums in order of all beginnings, as an iterator. -/
import Derived.RangeFuncNested
import Derived.RangeFuncBound
import Derived.RangeFuncCalls
import Derived.RangeFuncLeaves
import Derived.Shelf.Abstract
import Derived.Shelf.RegionOpen
import Derived.WalkKit
import Derived.OwnWalkIn
import Derived.TacticsInMore
import Derived.LoopNIn
import Derived.LoopIn
import Derived.Test.YtjoajbbapfgaoaaGreatDoorZFl3
import Derived.Test.YtjoajbbapfgaoaaGreatDoorGI
namespace Go.Proofs.YtjoajbbapfgaoaaGreatDoor
open Go.RowKit Go.Shelf

attribute [local go_sem] Oper.semAt_some

/-- What has come when k rounds are over. -/
def uptoF {α : Type} (f : Nat → α) (k : Nat) : List α := (List.range k).map f
theorem uptoF_succ {α : Type} (f : Nat → α) (k : Nat) : uptoF f (k + 1) = uptoF f k ++ [f k] := by simp [uptoF, List.range_succ]
theorem uptoF_length {α : Type} (f : Nat → α) (k : Nat) : (uptoF f k).length = k := by simp [uptoF]
theorem uptoF_prefix {α : Type} (f : Nat → α) {k n : Nat} (h : k ≤ n) : uptoF f k <+: uptoF f n := by
  obtain ⟨d, rfl⟩ := Nat.exists_eq_add_of_le h
  unfold uptoF
  rw [List.range_add, List.map_append]
  exact List.prefix_append _ _

/-- The sum of the first k + 1. -/
def runB (xs : List Nat) (k : Nat) : Nat := cO (leftO (xs.take (k + 1)))

set_option maxRecDepth 100000 in
set_option maxHeartbeats 2000000 in
theorem run1_in (n : Nat) (hn : 1 ≤ n) (l Bs n₀ : Nat) (v : Value) (xs : List Nat) (J Jx : List Nat → World → Prop) (W : World)
    (hJ : AbidesFrom W.heap.size J)
    (hY : ∀ pre x W, J pre W → pre.length < xs.length → YieldAt Fence.wide (n - 1) Tryz.prog l #[.float .f64 x] W fun e W' =>
      (e = .returned (.bool true) ∧ J (pre ++ [x]) W' ∧ Below n₀ W W') ∨ (e = .returned (.bool false) ∧ Jx (pre ++ [x]) W'))
    (hBs : W.cell? ⟨Bs, 0, none⟩ = some v) (hl : FSl W v xs) (hn0 : n₀ ≤ W.heap.size) (hv : 0 < xs.length → ∀ b off n c, v = .slice (some ⟨b, off, none⟩) n c → b < n₀) (h0 : J [] W) :
    CallsIn Fence.wide n Tryz.prog 194 #[.func (.yield l) #[] #[], .pointer (some ⟨Bs, 0, none⟩)] W fun e W' => (∃ v, e = .returned v) ∧
      ((∃ ys, ys = uptoF (runB xs) xs.length ∧ J ys W') ∨ (∃ pre, pre <+: uptoF (runB xs) xs.length ∧ Jx pre W')) := by
  obtain ⟨ao, cap, rfl, hcap, hnl, hx, hc⟩ := hl
  have HC := Lib.hid hc
  have HX := Lib.hid hx
  have hadd : ∀ t u v w, (binOp .add t (.float .f64 u) (.float .f64 v)).run Tryz.prog w = .ok (.float .f64 (fV .add u v w)) (fN .add u v w) := fun t u v w => run_float_any .add (.inl rfl) t u v w
  clear hc hx
  refine callsIn_of_wp Tryz.func194 rfl trivial ?_ rfl
  simp only [Tryz.ntmps194, List.size_toArray, List.length_cons, List.length_nil, Nat.reduceAdd, Nat.reduceSub, Array.replicate_succ, Array.replicate_zero, List.push_toArray, List.append_toArray, List.nil_append, List.cons_append]
  gi_wp2
  gi_loopw [3, 8] (fun s i wr => ∃ (k u : Nat), k ≤ xs.length ∧ i = .int .i64 k ∧ s = .float .f64 u ∧ Hid (Rep (leftO (xs.take k)) u) ∧ J (uptoF (runB xs) k) wr ∧ Below n₀ W wr)
    (fun _ i _ => xs.length - (intOf i).toNat)
  case atStart => exact ⟨0, 0, Nat.zero_le _, rfl, rfl, Lib.hid ⟨by decide, rfl⟩, h0, Below.refl _ _⟩
  case round =>
    obtain ⟨k, u, hk, rfl, rfl, HR, hJs, hnx⟩ := hrel
    by_cases hlt : k < xs.length
    · obtain ⟨b, off, rfl, hb, hcc⟩ := HC.out (by omega)
      have hck := (hnx.cell (p := ⟨b, off + k, none⟩) (hv (by omega) _ _ _ _ rfl)).trans (hcc k hlt)
      have HXK := Lib.hid (HX.out _ (List.getElem_mem hlt))
      have HR2 := Lib.hid fun w => by have := HR.out.op (op := .add) (Rep.of HXK.out) w; rw [← leftO_take hlt] at this; exact this
      have HCN := Lib.hid fun w => (HR2.out w).canon
      have HBD := Lib.hid fun w => (HR2.out w).1
      clear hcc
      generalize xs[k] = x at *
      have HF := Lib.hid (fN_below .add u x wr)
      have HCR : Hid (∀ w, canonB (fV .add u x w) = runB xs k) := Lib.hid fun w => HCN.out w
      have HNX : Hid (∀ w2, Below (fN .add u x wr).heap.size (fN .add u x wr) w2 → Below n₀ W w2) := Lib.hid fun w2 hb2 => hnx.trans ((HF.out.trans (hb2.mono HF.out.size)).mono (Nat.le_trans hn0 hnx.size))
      have HJ2 : Hid (∀ w2, Below (fN .add u x wr).heap.size (fN .add u x wr) w2 → J (uptoF (runB xs) k) w2) := Lib.hid fun w2 hb2 => hJ _ _ _ none (hJ _ _ _ none hJs (grown_of_below HF.out) (fun r e => by cases e)) (grown_of_below hb2) (fun r e => by cases e)
      gi_wp2_with (refine ⟨trivial, ?_⟩; gi_at_call 137; refine (callsIn_wide.2 (aCanon_any _ _ (HBD.out _))).mono ?_; rintro e w2 ⟨rfl, hb2⟩; rw [HCR.out]; have hnx2 := HNX.out w2 hb2; obtain ⟨fn, tmps, assign, body, hy, hR⟩ := hY _ (runB xs k) w2 (HJ2.out w2 hb2) (by rw [uptoF_length]; exact hlt); clear hb2)
      refine hR.mono ?_
      rintro e W3 (⟨rfl, hJ3, hk3⟩ | ⟨rfl, hJx3⟩)
      · gi_wp2
        go_roundw
        case rel => exact ⟨k + 1, _, by omega, by go_num, rfl, Lib.hid (HR2.out _), by rw [uptoF_succ]; exact hJ3, hnx2.trans hk3⟩
        case measure => simp [intOf]; omega
      · gi_wp2
        refine bodyPost_ret (results_none rfl _ _ _) rfl ?_
        exact ⟨⟨_, rfl⟩, .inr ⟨_, by rw [← uptoF_succ]; exact uptoF_prefix _ (by omega), hJx3⟩⟩
    · obtain rfl : k = xs.length := by omega
      gi_wp2
      go_end0
      exact ⟨⟨_, rfl⟩, .inl ⟨_, rfl, hJs⟩⟩

end Go.Proofs.YtjoajbbapfgaoaaGreatDoor
