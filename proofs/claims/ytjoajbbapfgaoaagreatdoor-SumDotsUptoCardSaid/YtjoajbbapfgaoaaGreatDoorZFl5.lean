/- Walk: the sum in order, over the iterator. -/
import Derived.RangeFuncFrom
import Derived.RangeFuncBox
import Derived.Test.YtjoajbbapfgaoaaGreatDoorZFl4
namespace Go.Proofs.YtjoajbbapfgaoaaGreatDoor
open Go.RowKit Go.Shelf

attribute [local go_sem] Oper.semAt_some

set_option maxRecDepth 100000 in
set_option maxHeartbeats 1000000 in
theorem running_any (a : Option Addr) (len cap : Nat) (w : World) :
    Calls Tryz.prog 135 #[.slice a len cap] w fun e w' => e = .returned (.func (.func 194) #[] #[.pointer (some ⟨w.heap.size, 0, none⟩)]) ∧ w' = w.alloc (.cells #[.slice a len cap] 61) := by
  go_enter Tryz.func135, Tryz.ntmps135
  go_wp2
  go_ret
  exact ⟨rfl, rfl⟩

theorem run_stops (n : Nat) (hn : 1 ≤ n) (Bs n₀ : Nat) (v : Value) (xs : List Nat) (w : World) (hBs : Bs < w.heap.size) (hn₀ : n₀ ≤ w.heap.size)
    (hc : w.cell? ⟨Bs, 0, none⟩ = some v) (hI : FSl w v xs) (hv : 0 < xs.length → ∀ b off n c, v = .slice (some ⟨b, off, none⟩) n c → b < n₀) :
    SeqStopsK Fence.wide n Tryz.prog 194 #[.pointer (some ⟨Bs, 0, none⟩)] (fun x : Nat => #[Value.float .f64 x]) (Below n₀) (fun ys => ys = uptoF (runB xs) xs.length) (fun pre => pre <+: uptoF (runB xs) xs.length) xs.length w :=
  fun l J Jx W hW hJ _ hY h0 => run1_in n hn l Bs n₀ v xs J Jx W hJ hY ((hW.cell (p := ⟨Bs, 0, none⟩) hBs).trans hc) (hI.below hW) (Nat.le_trans hn₀ hW.size) hv h0

theorem last_run (xs : List Nat) : (uptoF (runB xs) xs.length).getLastD 0 = cO (leftO xs) := by
  cases h : xs.length with
  | zero =>
    have : xs = [] := List.length_eq_zero_iff.1 h
    subst this; decide
  | succ k =>
    rw [uptoF_succ, List.getLastD_concat]
    unfold runB
    rw [← h, List.take_length]

set_option maxRecDepth 100000 in
set_option maxHeartbeats 2000000 in
theorem sumLeft_any (v : Value) (xs : List Nat) (w : World) (hl : FSl w v xs) :
    Calls Tryz.prog 61 #[v] w (Gives (.float .f64 (cO (leftO xs))) w) := by
  have HL := Lib.hid hl
  obtain ⟨ao, cap, rfl, -, -, -, hc⟩ := hl
  have HV : Hid (0 < xs.length → ∀ b off n c, Value.slice ao xs.length cap = .slice (some ⟨b, off, none⟩) n c → b < w.heap.size) := Lib.hid fun h0 b off n c h => by
    obtain ⟨b', off', e, hb, -⟩ := hc h0
    simp only [Value.slice.injEq, e, Option.some.injEq, Addr.mk.injEq] at h
    omega
  clear hc
  refine (callsIn_wide (n := 4)).1 ?_
  refine callsIn_of_wp_marks Tryz.func61 rfl trivial ?_ rfl
  simp only [Tryz.ntmps61, List.size_toArray, List.length_cons, List.length_nil, Nat.reduceAdd, Nat.reduceSub, Array.replicate_succ, Array.replicate_zero, List.push_toArray, List.append_toArray, List.nil_append, List.cons_append]
  have hstf : ∀ (a : Addr) (b : Nat) (w : World), (store a (.float .f64 b)).run Tryz.prog w = stored Tryz.prog w a (.float .f64 b) _ := fun a b w => run_store Tryz.prog w a _ _ rfl
  have HB0 := Lib.hid (Boxed.new w 26 (.float .f64 0))
  have hs0 := HB0.out.cell
  have hf0 := HB0.out.frozen
  gi_wp2_with (refine ⟨trivial, ?_⟩; gi_at_call 135; refine (callsIn_wide.2 (running_any _ _ _ _)).mono ?_; rintro e w' ⟨rfl, rfl⟩)
  have HBB : Hid (Below w.heap.size w ((w.alloc (.cells #[.float .f64 0] 26)).alloc (.cells #[.slice ao xs.length cap] 61))) := Lib.hid (below2 _ _ _)
  refine wpIn_rangeFunc_ownF rfl (by omega) (gf := 194) (lb := #[.pointer (some ⟨w.heap.size + 1, 0, none⟩)]) rfl trivial (enters_of Tryz.func194 (by kernel_rfl) rfl)
    (run_stops 3 (by omega) (w.heap.size + 1) w.heap.size (.slice ao xs.length cap) xs _ (by simp) (by simp; omega) ((BlkT.new1 w (.cells #[.float .f64 0] 26) #[.slice ao xs.length cap] 61).cell 0) (HL.out.below HBB.out) HV.out) belowK_t (belowK_b (by simp; omega)) (Below.refl _ _) (fun _ => rfl)
    (fun pre W => Boxed W w.heap.size 26 (.float .f64 (pre.getLastD 0)) ∧ Below w.heap.size w W)
    (fun _ _ _ => False)
    (OwnFrom.and (Own.from (boxed_own _ _ _) _) (ownFrom_below (Nat.le_refl _) (by simp; omega)))
    (fun _ _ _ _ _ hs _ _ => hs)
    ⟨HB0.out.alloc _, HBB.out⟩
    (fun x => { tmps := #[.slice ao xs.length cap, undef, .float .f64 0, .pointer (some ⟨w.heap.size, 0, none⟩), .float .f64 x, .slice ao xs.length cap, .func (.func 194) #[] #[.pointer (some ⟨w.heap.size + 1, 0, none⟩)], .float .f64 x, undef, undef], defers := [] }) ?assign ?body ?done ?stop
  case assign =>
    intro l x W K hK
    gi_wp2
    exact hK
  case body =>
    rintro l pre x W ⟨hbx, hB⟩ _
    have hc := hbx.cell
    have hf := hbx.frozen
    gi_wp2
    exact ⟨KeepsOthers.setCell _ _ _, (Below.refl w.heap.size W).setCell (p := ⟨w.heap.size, 0, none⟩) (Nat.le_refl _) _, by rw [List.getLastD_concat]; exact hbx.set _, hB.setCell (p := ⟨w.heap.size, 0, none⟩) (Nat.le_refl _) _⟩
  case done =>
    rintro D ys W hD rfl ⟨hbx, hB⟩ hK
    rw [last_run] at hbx
    have hc := hbx.cell
    gi_wp2
    refine ⟨by simp, .inl ⟨_, _, rfl, run_takeDeferred hK, ?_⟩⟩
    exact ⟨_, results_tmp rfl _ _ _, rfl, hB.trans (belowK_b (w := w) (Nat.le_refl _) W D _ _ (by simp at hD; omega) hK rfl rfl)⟩
  case stop =>
    rintro D c pre W _ _ h _
    exact h.elim

end Go.Proofs.YtjoajbbapfgaoaaGreatDoor
