/- Walks: the sums of all beginnings (program, references). -/
import Derived.RangeFuncFrom
import Derived.RangeFuncBox
import Derived.Test.YtjoajbbapfgaoaaDoorGW
import Derived.Test.YtjoajbbapfgaoaaDoorGX
import Derived.Test.YtjoajbbapfgaoaaDoorGR
namespace Go.Proofs.YtjoajbbapfgaoaaDoor
open Go.RowKit Go.Shelf

attribute [local go_sem] Oper.semAt_some

theorem leftO_rep (l : List Nat) (hx : ∀ x ∈ l, x < 18446744073709551616) : ∃ u, Rep (leftO l) u := by
  have key : ∀ k, k ≤ l.length → ∃ u, Rep (leftO (l.take k)) u := by
    intro k
    induction k with
    | zero => intro _; exact ⟨0, by decide, rfl⟩
    | succ k ih =>
      intro hk
      obtain ⟨u, hu⟩ := ih (by omega)
      rw [leftO_take (by omega)]
      cases h : oA .add (leftO (l.take k)) (some l[k]) with
      | none => exact ⟨9221120237041090561, by decide, by decide⟩
      | some r =>
        have := hu.op (op := .add) (Rep.of (hx _ (List.getElem_mem (by omega : k < l.length)))) (default : World)
        rw [h] at this
        exact ⟨_, this⟩
  have := key l.length (Nat.le_refl _)
  rwa [List.take_length] at this

theorem cO_rep {o : Option Nat} {u : Nat} (h : Rep o u) : cO o < 18446744073709551616 := by
  cases o with
  | none => decide
  | some x =>
    have h1 : u < 18446744073709551616 := h.1
    rw [show u = x from h.2] at h1
    show canonB x < _
    unfold canonB; split
    · decide
    · exact h1

theorem runB_lt {xs : List Nat} (hx : ∀ x ∈ xs, x < 18446744073709551616) (k : Nat) : runB xs k < 18446744073709551616 := by
  obtain ⟨u, hu⟩ := leftO_rep (xs.take (k + 1)) (fun x h => hx x (List.mem_of_mem_take h))
  exact cO_rep hu

/-- The sums of all beginnings. -/
def runL (xs : List Nat) : List Nat := uptoF (runB xs) xs.length
theorem runL_length (xs : List Nat) : (runL xs).length = xs.length := uptoF_length _ _
theorem runL_at {xs : List Nat} {k : Nat} (h : k < (runL xs).length) : (runL xs)[k] = runB xs k := by
  exact (List.getElem_map _).trans (by rw [List.getElem_range])
theorem runL_lt {xs : List Nat} (hx : ∀ x ∈ xs, x < 18446744073709551616) : ∀ x ∈ runL xs, x < 18446744073709551616 := by
  intro x h
  unfold runL uptoF at h
  rw [List.mem_map] at h
  obtain ⟨k, -, rfl⟩ := h
  exact runB_lt hx k

theorem fls_one (us : List Nat) (u : Nat) : fls64 (us ++ [u]) = fls64 us ++ [Value.float .f64 u] := by unfold fls64; rw [List.map_append]; rfl

/-- A new list of numbers. -/
def GivesL (l : List Nat) (w : World) (e : Ending) (w' : World) : Prop := ∃ u, e = .returned u ∧ FSl w' u l ∧ Below w.heap.size w w'

set_option maxRecDepth 100000 in
set_option maxHeartbeats 4000000 in
theorem running5_any (v : Value) (xs : List Nat) (w : World) (hl : FSl w v xs) :
    Calls Tryd.prog 6 #[v] w (GivesL (runL xs) w) := by
  obtain ⟨i0, hi, hz0, hz1, hz2⟩ := info_parts Tryd.info28
  have HL := Lib.hid hl
  obtain ⟨ao, cap, rfl, -, hln, hlx, hc⟩ := hl
  have HV : Hid (0 < xs.length → ∀ b off n c, Value.slice ao xs.length cap = .slice (some ⟨b, off, none⟩) n c → b < w.heap.size) := Lib.hid fun h0 b off n c h => by
    obtain ⟨b', off', e, hb, -⟩ := hc h0
    simp only [Value.slice.injEq, e, Option.some.injEq, Addr.mk.injEq] at h
    omega
  have HX := Lib.hid hlx
  clear hc hlx
  refine (callsIn_wide (n := 4)).1 ?_
  refine callsIn_of_wp_marks Tryd.func6 rfl trivial ?_ rfl
  simp only [Tryd.ntmps6, List.size_toArray, List.length_cons, List.length_nil, Nat.reduceAdd, Nat.reduceSub, Array.replicate_succ, Array.replicate_zero, List.push_toArray, List.append_toArray, List.nil_append, List.cons_append]
  gi_wp2_with (refine ⟨trivial, ?_⟩; gi_at_call 14; refine (callsIn_wide.2 (running_any _ _ _ _)).mono ?_; rintro e w' ⟨rfl, rfl⟩)
  have HB0 := Lib.hid (Boxed.new w 24 (.slice none 0 0))
  have HBB : Hid (Below w.heap.size w ((w.alloc (.cells #[.slice none 0 0] 24)).alloc (.cells #[.slice ao xs.length cap] 24))) := Lib.hid (below2 _ _ _)
  refine wpIn_rangeFunc_ownF rfl (by omega) (gf := 27) (lb := #[.pointer (some ⟨w.heap.size + 1, 0, none⟩)]) rfl trivial (enters_of Tryd.func27 (by kernel_rfl) rfl)
    (run_stops 3 (by omega) (w.heap.size + 1) w.heap.size (.slice ao xs.length cap) xs _ (by simp) (by simp; omega) ((BlkT.new1 w (.cells #[.slice none 0 0] 24) #[.slice ao xs.length cap] 24).cell 0) (HL.out.below HBB.out) HV.out) belowK_t (belowK_b (by simp; omega)) (Below.refl _ _) (fun _ => rfl)
    (fun pre W => (∃ v, Boxed W w.heap.size 24 v ∧ W.ownsRow w.heap.size 28 1 v pre.length (fls64 pre) ∧ True) ∧ Below w.heap.size w W)
    (fun _ _ _ => False)
    (OwnFrom.and (Own.from (holdsRow_own w.heap.size w.heap.size 24 28 1 (fun pre => pre.length) (fun pre => fls64 pre) (fun _ _ => True)) _) (ownFrom_below (Nat.le_refl _) (by simp; omega)))
    (fun _ _ _ _ _ hs _ _ => hs)
    ⟨⟨_, HB0.out.alloc _, World.ownsRow_nil _ _ _ _, trivial⟩, HBB.out⟩
    (fun x => { tmps := #[.slice ao xs.length cap, undef, .slice none 0 0, .pointer (some ⟨w.heap.size, 0, none⟩), .float .f64 x, .slice ao xs.length cap, .func (.func 27) #[] #[.pointer (some ⟨w.heap.size + 1, 0, none⟩)], .float .f64 x, undef, undef, undef, undef, undef], defers := [] }) ?assign ?body ?done ?stop
  case assign =>
    intro l x W K hK
    gi_wp2
    exact hK
  case body =>
    rintro l pre x W ⟨⟨v, hv, hrow, -⟩, hB⟩ hlt
    have hcv := hv.cell
    gi_wp2_with (gi_at_builtin; refine wpListIn_append_own _ rfl _ _ 24 rfl w.heap.size 28 i0 (.float .f64 0) 1 8 Tryd.underlying24 hi hz0 hz1 hz2 rfl (by decide) _ _ _ rfl (hrow.alloc _) ⟨W.heap.size, 0, none⟩ 1 1 [.float .f64 x] rfl rfl (cell_one_new _ _ _) (by simp [Value.oneCell']) (by unfold maxLen; omega) (by omega) (by have := hB.size; simp; omega) ?_; intro v' w1 hown' hgrow _; obtain ⟨g', cap', rfl⟩ := ownsRow_succ hown'; obtain ⟨hv1, hv2, hr2, hk2, hb2⟩ := hv.appended (by decide) hrow hB.size (Nat.le_refl _) hown' hgrow; have hc1 := hv1.cell; have hf1 := hv1.frozen)
    exact ⟨hk2, hb2, ⟨_, hv2, by rw [fls_one]; simpa using hr2, trivial⟩, hB.trans hb2⟩
  case done =>
    rintro D ys W hD rfl ⟨⟨v, hv, hrow, -⟩, hB⟩ hK
    have hcv := hv.cell
    gi_wp2
    refine ⟨by simp, .inl ⟨_, _, rfl, run_takeDeferred hK, ?_⟩⟩
    refine ⟨_, results_tmp rfl _ _ _, v, rfl, ?_, hB.trans (belowK_b (w := w) (Nat.le_refl _) W D _ _ (by simp at hD; omega) hK rfl rfl)⟩
    exact FSl.of_owns (ownsRow_putObj hrow _ hK rfl) (by rw [runL_length]; exact hln) (runL_lt HX.out)
  case stop =>
    rintro D c pre W _ _ h _
    exact h.elim

set_option maxRecDepth 100000 in
set_option maxHeartbeats 2000000 in
theorem rRunning_any (v : Value) (l : List Nat) (w : World) (hl : FSl w v l) :
    Calls Tryd.prog 7 #[v] w (GivesL (runL l) w) := by
  obtain ⟨i0, hi, hz0, hz1, hz2⟩ := info_parts Tryd.info28
  have HL := Lib.hid hl
  obtain ⟨ao, cap, rfl, hcap, hn, hx, hc⟩ := hl
  have HX := Lib.hid hx
  have HC := Lib.hid hc
  clear hc hx
  go_enter Tryd.func7, Tryd.ntmps7
  go_wp2
  go_loopw [3, 7] (fun u i wr => ∃ k : Nat, k ≤ l.length ∧ i = .int .i64 k ∧ Hid (wr.ownsRow w.heap.size 28 1 u k (fls64 (uptoF (runB l) k)) ∧ Below w.heap.size w wr)) (fun _ i _ => l.length - (intOf i).toNat)
  case atStart => exact ⟨0, Nat.zero_le _, rfl, Lib.hid ⟨World.ownsRow_nil _ _ _ _, Below.refl _ _⟩⟩
  case round =>
    obtain ⟨k, hk, rfl, HR⟩ := hrel
    obtain ⟨ao2, cap2, rfl⟩ := owns_shape HR.out.1
    by_cases hlt : k < l.length
    · obtain ⟨b, off, rfl, hb, -⟩ := HC.out (by omega)
      have HTK : Hid (FSl wr (.slice (some ⟨b, off, none⟩) (k + 1) cap) (l.take (k + 1))) := Lib.hid ((HL.out.below HR.out.2).takeS (by omega))
      have HLF : Hid (∀ W, FSl W (.slice (some ⟨b, off, none⟩) (k + 1) cap) (l.take (k + 1)) → Calls Tryd.prog 15 #[.slice (some ⟨b, off, none⟩) (k + 1) cap] W (Gives (.float .f64 (runB l k)) W)) := Lib.hid fun W h => rLeft_any _ _ W h
      have HSU : Hid (fls64 (uptoF (runB l) (k + 1)) = fls64 (uptoF (runB l) k) ++ [Value.float .f64 (runB l k)]) := Lib.hid (by rw [uptoF_succ, fls_one])
      have g1 : (0 : Int) ≤ (k : Int) + 1 := by omega
      have g2 : (k : Int) + 1 ≤ (cap : Int) := by omega
      have g3 : ((k : Int) + 1).toNat = k + 1 := by omega
      generalize runB l k = x at *
      go_wp2_with fail
      refine (HLF.out _ HTK.out).mono ?_
      rintro e1 w1 ⟨rfl, hb1⟩
      replace HR : Hid (w1.ownsRow w.heap.size 28 1 (.slice ao2 k cap2) k (fls64 (uptoF (runB l) k)) ∧ Below w.heap.size w w1) := Lib.hid ⟨HR.out.1.kept (grown_of_below hb1) (by cases (Value.slice ao2 k cap2).ownBlock <;> simp), HR.out.2.trans (hb1.mono HR.out.2.size)⟩
      clear hb1
      have HOW := Lib.hid fun o => HR.out.1.kept (grown_of_below (Below.alloc_self w1 o)) (by cases (Value.slice ao2 k cap2).ownBlock <;> simp)
      have HNW := Lib.hid fun W => cell_one_new W (.float .f64 x) 28
      go_wp2_with (at_builtin; refine wpList_append_own _ rfl _ _ 24 rfl w.heap.size 28 i0 (.float .f64 0) 1 8 Tryd.underlying24 hi hz0 hz1 hz2 rfl (by decide) _ _ _ rfl (HOW.out _) ⟨_, 0, none⟩ 1 1 [.float .f64 x] rfl rfl (HNW.out _) ?c2 ?c3 ?c4 ?c5 ?_)
      case c2 => intro u hu; simp only [List.mem_singleton] at hu; subst hu; rfl
      case c3 => unfold maxLen; omega
      case c4 => omega
      case c5 => exact Nat.le_trans HR.out.2.size (by simp)
      intro v' U4 hown hgrow _
      rw [← HSU.out] at hown
      have HR2 := Lib.hid hown
      have HB2 := Lib.hid ((HR.out.2.trans ((Below.alloc_self w1 _).mono HR.out.2.size)).grown hgrow (Nat.le_trans HR.out.2.size (by simp)) (fun j hj => (HR.out.1.lt j hj).1))
      obtain ⟨ao', cap', hv'⟩ := owns_shape hown
      rw [hv'] at HR2 ⊢
      clear hown hgrow hv' HNW HOW HTK HLF HSU
      go_wp2
      go_roundw
      case rel => exact ⟨k + 1, by omega, by go_num, Lib.hid ⟨HR2.out, HB2.out⟩⟩
      case measure => simp [intOf]; omega
    · obtain rfl : k = l.length := by omega
      go_wp2
      go_ret
      exact ⟨_, rfl, FSl.of_owns (by rw [runL_length]; exact HR.out.1) (by rw [runL_length]; exact hn) (runL_lt HX.out), HR.out.2⟩

end Go.Proofs.YtjoajbbapfgaoaaDoor
