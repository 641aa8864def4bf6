/- Walk: SumRunning. Printed by wip/gen/sr2.py. -/
import Derived.ArgAppend
import Derived.Test.YtjoajbbapfgaoaaDoorZSr0
import Derived.Test.YtjoajbbapfgaoaaDoorZSr1
import Derived.Test.YtjoajbbapfgaoaaDoorGX
import Derived.Test.YtjoajbbapfgaoaaDoorZFw1
import Derived.Test.YtjoajbbapfgaoaaDoorZRi3
import Derived.Test.YtjoajbbapfgaoaaDoorGJ
namespace Go.Proofs.YtjoajbbapfgaoaaDoor
open Go.RowKit

/-- One number behind a list of numbers that has no room. -/
theorem append_one {w : World} {ao : Option Addr} {n : Nat} {l : List Nat} {b x : Nat} (ty : TypeId) (hn : l.length = n) (hl : FSl w (.slice ao n n) l) (h0 : n = 0 ∨ ∃ c off, ao = some ⟨c, off, none⟩) (hx : x < 18446744073709551616) (hnn : n ≤ 4096)
    (hb : BlkT w b 28 #[.float .f64 x]) :
    ∃ v' w', (Builtin.append_ #[24, 24] ty #[.slice ao n n, .slice (some ⟨b, 0, none⟩) 1 1]).run Tryd.prog w = .ok v' w' ∧ FSl w' v' (l ++ [x]) ∧ Below w.heap.size w w' ∧ ∃ a' c', v' = .slice a' (n + 1) c' := by
  obtain ⟨i0, hi, hz0, hz1, hz2⟩ := info_parts Tryd.info28
  have hnew : ∀ j u, [Value.float .f64 x][j]? = some u → w.cell? ((⟨b, 0, none⟩ : Addr).add j) = some u := by
    intro j u hj
    have h1 : j = 0 := by
      rcases Nat.eq_zero_or_pos j with h | h
      · exact h
      · rw [List.getElem?_eq_none (by simp; omega)] at hj; cases hj
    subst h1
    rw [Addr.add_lit]
    exact (hb.cell 0).trans hj
  obtain ⟨ao2, cap2, he, h1, h2, h3, h4⟩ := hl
  obtain ⟨rfl, -, rfl⟩ : ao = ao2 ∧ n = l.length ∧ n = cap2 := by simpa using he
  have hxs : ∀ z ∈ l ++ [x], z < 18446744073709551616 := by
    intro z hz
    rw [List.mem_append, List.mem_singleton] at hz
    rcases hz with hz | rfl
    · exact h3 z hz
    · exact hx
  have fin : ∀ v' w', w'.ownsRow w.heap.size 28 1 v' (l.length + 1) (fls64 l ++ [.float .f64 x]) → w.grownBy w' none → FSl w' v' (l ++ [x]) ∧ Below w.heap.size w w' ∧ ∃ a' c', v' = .slice a' (l.length + 1) c' := by
    intro v' w' r1 r2
    refine ⟨FSl.of_owns (base := w.heap.size) (t := 28) (by rw [fls_one, List.length_append]; exact r1) (by rw [List.length_append]; simp; omega) hxs, (Below.refl _ w).grown r2 (Nat.le_refl _) (fun k h => by cases h), ?_⟩
    obtain ⟨a', c', h⟩ := owns_shape r1
    exact ⟨a', c', h⟩
  subst hn
  cases ao with
  | none =>
    have hl0 : l.length = 0 := by
      rcases h0 with h0 | ⟨c, off, h0⟩
      · exact h0
      · cases h0
    obtain rfl : l = [] := List.length_eq_zero_iff.1 hl0
    obtain ⟨v', w', hrun, r1, r2, -⟩ := run_append_own (P := Tryd.prog) w w.heap.size 24 ty 28 i0 (.float .f64 0) 1 8 Tryd.underlying24 hi hz0 hz1 hz2 rfl (by decide) (.slice none 0 0) 0 [] (World.ownsRow_nil w _ _ _) ⟨b, 0, none⟩ 1 1 [.float .f64 x] rfl hnew (by simp [Value.oneCell']) (by unfold maxLen; omega) (by omega) (Nat.le_refl _)
    exact ⟨v', w', hrun, fin v' w' r1 r2⟩
  | some c =>
    obtain ⟨v', w', hrun, r1, r2⟩ := run_append_arg_grows (P := Tryd.prog) w 24 ty 28 i0 (.float .f64 0) 1 8 Tryd.underlying24 hi hz0 hz1 hz2 rfl (by decide) c l.length l.length (fls64 l) (by unfold fls64; simp) (by
      intro j u hj
      have hjl : j < l.length := by
        rcases Nat.lt_or_ge j l.length with h | h
        · exact h
        · rw [List.getElem?_eq_none (by unfold fls64; simpa using h)] at hj; cases hj
      obtain ⟨b', off, e, -, hc⟩ := h4 (by omega)
      cases e
      rw [Addr.add_lit, hc j hjl]
      unfold fls64 at hj
      rw [List.getElem?_map, List.getElem?_eq_getElem hjl] at hj
      exact hj) ⟨b, 0, none⟩ 1 1 [.float .f64 x] rfl hnew (by omega) (by unfold maxLen; omega) (by omega)
    exact ⟨v', w', hrun, fin v' w' r1 r2⟩

theorem runB_last {l : List Nat} {n : Nat} (h : l.length = n + 1) : runB l n = cO (leftO l) := by
  unfold runB; rw [← h, List.take_length]

set_option maxRecDepth 100000 in
set_option maxHeartbeats 8000000 in
theorem sumRunning_any (v : Value) (l : List Nat) (w : World) (hl : USl w v l) (hT : Tab64 w) (hTs : 1 < w.heap.size) :
    Calls Tryd.prog 3 #[v] w (Gives (.bool true) w) := by
  have HTA : Hid (∀ W, Below w.heap.size w W → Tab64 W ∧ 1 < W.heap.size) := Lib.hid fun W hb => ⟨hT.below hTs hb, Nat.lt_of_lt_of_le hTs hb.size⟩
  have HL := Lib.hid hl
  have hx : ∀ x ∈ l, x < 18446744073709551616 := by obtain ⟨_, _, _, _, _, h, _⟩ := hl; exact h
  have HX := Lib.hid hx
  obtain ⟨ao, cap, rfl, -⟩ := hl
  clear hT hTs hx
  go_enter Tryd.func3, Tryd.ntmps3
  by_cases hlen : 2000 < l.length
  · have hd : decide ((2000 : Int) < (l.length : Int)) = true := by simp; omega
    clear hlen
    go_wp2_with fail
    refine (awake5_any _ (HTA.out _ (Below.refl _ _)).1 (HTA.out _ (Below.refl _ _)).2).mono ?_
    rintro e9 w9 ⟨rfl, hb9⟩
    have HB := Lib.hid hb9
    clear hb9
    go_wp2
    go_ret
    exact ⟨rfl, HB.out⟩
  have hd : decide ((2000 : Int) < (l.length : Int)) = false := by simp; omega
  go_wp2_with fail
  refine (rOf64_any _ l _ HL.out).mono ?_
  rintro e1 w1 ⟨u, rfl, hfl, hb1⟩
  have HF := Lib.hid hfl
  have HB := Lib.hid hb1
  obtain ⟨fa, fc, rfl, hfc, -⟩ := hfl
  clear hb1 HL
  have K1 := Lib.hid fun W (h : FSl W (.slice fa l.length fc) l) => running5_any _ l W h
  have K2 := Lib.hid fun W (h : FSl W (.slice fa l.length fc) l) => rRunning_any _ l W h
  go_wp2_with fail
  refine (K1.out _ HF.out).mono ?_
  rintro e2 w2 ⟨u2, rfl, hf2, hb2⟩
  have HR := Lib.hid hf2
  replace HF := Lib.hid (HF.out.below hb2)
  replace HB := Lib.hid (HB.out.trans (hb2.mono HB.out.size))
  have hrl := runL_length l
  obtain ⟨ra, rc, rfl, -, -, -, hrc⟩ := hf2
  have HRC := Lib.hid hrc
  clear hb2 hrc K1
  go_wp2_with fail
  refine (K2.out _ HF.out).mono ?_
  rintro e3 w3 ⟨u3, rfl, hf3, hb3⟩
  have HS := Lib.hid hf3
  replace HF := Lib.hid (HF.out.below hb3)
  replace HR := Lib.hid (HR.out.below hb3)
  replace HB := Lib.hid (HB.out.trans (hb3.mono HB.out.size))
  obtain ⟨sa, sc, rfl, -⟩ := hf3
  clear hb3 K2 HRC
  have HLE := Lib.hid hrl
  have HAT : Hid (∀ k (h : k < (runL l).length), (runL l)[k] = runB l k) := Lib.hid fun k h => runL_at h
  rw [hrl]
  clear hrl
  have hne : ((l.length : Int) != (l.length : Int)) = false := by simp
  have HRA : Hid (0 < l.length → ∃ b off, ra = some ⟨b, off, none⟩ ∧ ∀ W, FSl W (.slice ra (runL l).length rc) (runL l) → ∀ k, k < l.length → W.cell? ⟨b, off + k, none⟩ = some (.float .f64 (runB l k))) := Lib.hid fun h0 => by
    obtain ⟨a', c', e, -, -, -, hc⟩ := HR.out
    obtain ⟨b, off, e2, -⟩ := hc (by rw [HLE.out]; exact h0)
    obtain ⟨rfl, -⟩ : ra = a' ∧ rc = c' := by simpa using e
    refine ⟨b, off, e2, fun W hW k hk => ?_⟩
    obtain ⟨a3, c3, e3, -, -, -, hc3⟩ := hW
    obtain ⟨b3, off3, e4, -, hc4⟩ := hc3 (by rw [HLE.out]; exact h0)
    obtain ⟨rfl, -⟩ : ra = a3 ∧ rc = c3 := by simpa using e3
    rw [e2] at e4
    obtain ⟨rfl, rfl⟩ : b = b3 ∧ off = off3 := by simpa using e4
    rw [hc4 k (by rw [HLE.out]; exact hk), HAT.out]
  have HSA : Hid (0 < l.length → ∃ b off, sa = some ⟨b, off, none⟩ ∧ ∀ W, FSl W (.slice sa (runL l).length sc) (runL l) → ∀ k, k < l.length → W.cell? ⟨b, off + k, none⟩ = some (.float .f64 (runB l k))) := Lib.hid fun h0 => by
    obtain ⟨a', c', e, -, -, -, hc⟩ := HS.out
    obtain ⟨b, off, e2, -⟩ := hc (by rw [HLE.out]; exact h0)
    obtain ⟨rfl, -⟩ : sa = a' ∧ sc = c' := by simpa using e
    refine ⟨b, off, e2, fun W hW k hk => ?_⟩
    obtain ⟨a3, c3, e3, -, -, -, hc3⟩ := hW
    obtain ⟨b3, off3, e4, -, hc4⟩ := hc3 (by rw [HLE.out]; exact h0)
    obtain ⟨rfl, -⟩ : sa = a3 ∧ sc = c3 := by simpa using e3
    rw [e2] at e4
    obtain ⟨rfl, rfl⟩ : b = b3 ∧ off = off3 := by simpa using e4
    rw [hc4 k (by rw [HLE.out]; exact hk), HAT.out]
  go_wp2
  go_loopw [24] (fun i wr => ∃ k : Nat, k ≤ l.length ∧ i = .int .i64 k ∧ Hid (Below w3.heap.size w3 wr)) (fun i _ => l.length - (intOf i).toNat)
  case atStart => exact ⟨0, Nat.zero_le _, rfl, Lib.hid (Below.refl _ _)⟩
  case round =>
    obtain ⟨k, hk, rfl, HW⟩ := hrel
    by_cases hlt : k < l.length
    · obtain ⟨rb, ro, rfl, hrc⟩ := HRA.out (by omega)
      obtain ⟨sb, so, rfl, hsc⟩ := HSA.out (by omega)
      have HCK : Hid (∀ W, Below w3.heap.size w3 W → W.cell? ⟨rb, ro + k, none⟩ = some (.float .f64 (runB l k)) ∧ W.cell? ⟨sb, so + k, none⟩ = some (.float .f64 (runB l k))) :=
        Lib.hid fun W hb => ⟨hrc W (HR.out.below hb) k hlt, hsc W (HS.out.below hb) k hlt⟩
      have HCN : Hid (canonB (runB l k) = runB l k) := Lib.hid (canon_cO _)
      have hk1 : (0 : Int) ≤ (k : Int) := by omega
      have hk2 : (k : Int) < (l.length : Int) := by omega
      clear hrc hsc
      generalize runB l k = x at *
      go_wp2
      refine wp_region_pl (fun w' : World => w'.cell? ⟨rb, ro + k, none⟩ = some (.float .f64 x) ∧ w'.cell? ⟨sb, so + k, none⟩ = some (.float .f64 x)) 8 (.take 0 (.take 1 (.take 2 (.take 3 (.take 4 (.take 5 (.take 6 (.take 7 .nil)))))))) (by kernel_rfl) (by kernel_rfl) ?_
      replace HW := Lib.hid (HW.out.trans ((drew_below wr).mono HW.out.size))
      generalize wr.drew = W4 at HW ⊢
      have hS : (fun w' : World => w'.cell? ⟨rb, ro + k, none⟩ = some (.float .f64 x) ∧ w'.cell? ⟨sb, so + k, none⟩ = some (.float .f64 x)) W4 := HCK.out _ HW.out
      repeat (refine wpPl_takeL (v := ?_) rfl rfl (fun _ _ _ h => h) rfl (fun w' hSw => ?_) hS ?_; rotate_left; (focus (go_simp; with_reducible rfl)); simp only [List.setIfInBounds_toArray, List.set_cons_zero, List.set_cons_succ])
      clear hS
      refine wpPl_nil ?_
      simp only [List.drop_succ_cons, List.drop_zero]
      go_wp2_with fail
      refine (same5_any x x _).mono ?_
      rintro e5 w5 ⟨rfl, hb5⟩
      rw [HCN.out, decide_eq_true (rfl : x = x)]
      replace HW := Lib.hid (HW.out.trans (hb5.mono HW.out.size))
      clear hb5
      go_wp2
      go_roundw
      case rel => exact ⟨k + 1, by omega, by go_num, HW⟩
      case measure => simp [intOf]; omega
    · obtain rfl : k = l.length := by omega
      have HFW := Lib.hid fun W (hb : Below w3.heap.size w3 W) => HF.out.below hb
      have HCL := Lib.hid (canon_cO (leftO l))
      have KL := Lib.hid fun W (h : FSl W (.slice fa l.length fc) l) => sumLeft_any _ l W h
      have KZ : Hid (∀ v W, FSl W v (l ++ [0]) → Calls Tryd.prog 9 #[v] W (Gives (.float .f64 (cO (leftO l))) W)) := Lib.hid fun v W h => by
        have := sumLeft_any v (l ++ [0]) W h
        rwa [left_zero l HX.out] at this
      have HAP := Lib.hid fun (W : World) (b : Nat) (h : FSl W (.slice fa l.length l.length) l) (h0 : l.length = 0 ∨ ∃ c off, fa = some ⟨c, off, none⟩) (hb : BlkT W b 28 #[.float .f64 0]) => append_one (x := 0) 24 rfl h h0 (by decide) (by omega) hb
      have HNR : Hid (∀ W, Below w3.heap.size w3 W → FSl W (.slice fa l.length l.length) l) := Lib.hid fun W hb => by
        obtain ⟨a', c', e, h1, h2, h3, h4⟩ := HFW.out W hb
        obtain ⟨rfl, -⟩ : fa = a' ∧ fc = c' := by simpa using e
        exact ⟨fa, l.length, rfl, Nat.le_refl _, h2, h3, h4⟩
      have HFA : Hid (0 < l.length → ∃ c off, fa = some ⟨c, off, none⟩) := Lib.hid fun h0 => by
        obtain ⟨a', c', e, h1, h2, h3, h4⟩ := HFW.out _ HW.out
        obtain ⟨rfl, -⟩ : fa = a' ∧ fc = c' := by simpa using e
        obtain ⟨b, off, e2, -⟩ := h4 h0
        exact ⟨b, off, e2⟩
      have HLA : Hid (∀ n, l.length = n + 1 → runB l n = cO (leftO l)) := Lib.hid fun n h => runB_last h
      have g1 : (0 : Int) ≤ (l.length : Int) := by omega
      have g2 : (l.length : Int) ≤ (fc : Int) := by omega
      have g3 : (l.length : Int).toNat = l.length := by omega
      generalize cO (leftO l) = y at *
      by_cases h0 : l.length = 0
      · have z1 : ((l.length : Int) == 0) = true := by rw [h0]; rfl
        have HAP0 := Lib.hid fun W b h hb => HAP.out W b h (.inl h0) hb
        clear h0
        go_wp2
        refine wp_region_pl (fun w' : World => True) 25 (.take 0 (.take 1 (.take 2 (.take 3 (.take 4 (.take 5 (.take 6 (.take 7 (.take 8 (.take 9 (.take 10 (.run 11 (.run 12 (.take 13 (.take 14 (.take 15 (.take 16 (.take 17 (.take 18 (.take 19 (.take 20 (.take 24 (.run 21 (.run 22 (.run 23 .nil))))))))))))))))))))))))) (by kernel_rfl) (by kernel_rfl) ?_
        replace HW := Lib.hid (HW.out.trans ((drew_below wr).mono HW.out.size))
        generalize wr.drew = W4 at HW ⊢
        have hS : (fun w' : World => True) W4 := trivial
        repeat (first | (refine wpPl_takeL (v := ?_) rfl rfl (fun _ _ _ h => h) rfl (fun w' hSw => ?_) hS ?_; rotate_left; (focus (go_simp; with_reducible rfl)); simp only [List.setIfInBounds_toArray, List.set_cons_zero, List.set_cons_succ]) | (refine wpPl_skipL rfl rfl (fun _ _ _ h => h) rfl hS ?_; simp only [List.setIfInBounds_toArray, List.set_cons_zero, List.set_cons_succ]))
        refine wpPl_idleL rfl rfl rfl hS ?_
        simp only [List.setIfInBounds_toArray, List.set_cons_zero, List.set_cons_succ]
        refine wpPl_idleL rfl rfl rfl hS ?_
        simp only [List.setIfInBounds_toArray, List.set_cons_zero, List.set_cons_succ]
        repeat (first | (refine wpPl_takeL (v := ?_) rfl rfl (fun _ _ _ h => h) rfl (fun w' hSw => ?_) hS ?_; rotate_left; (focus (go_simp; with_reducible rfl)); simp only [List.setIfInBounds_toArray, List.set_cons_zero, List.set_cons_succ]) | (refine wpPl_skipL rfl rfl (fun _ _ _ h => h) rfl hS ?_; simp only [List.setIfInBounds_toArray, List.set_cons_zero, List.set_cons_succ]))
        clear hS
        refine wpPl_goL rfl rfl fun K' hK => ?_
        go_simp
        have HBK : Hid (BlkT (W4.alloc (.cells #[.float .f64 0] 28)) W4.heap.size 28 #[.float .f64 0]) := Lib.hid (BlkT.new W4 _ _)
        replace HW := Lib.hid (HW.out.trans ((Below.alloc_self W4 (.cells #[.float .f64 0] 28)).mono HW.out.size))
        refine hK _ _ (trivial) ?_
        clear hK K'
        generalize W4.alloc (.cells #[.float .f64 0] 28) = W5 at HBK HW ⊢
        generalize W4.heap.size = nb at HBK ⊢
        obtain ⟨v', w5, hrun, hf5, hb5, a', c', rfl⟩ := HAP0.out W5 nb (HNR.out W5 HW.out) HBK.out
        refine wpPl_goL rfl rfl fun K' hK => ?_
        refine wp_append_run _ _ 24 rfl _ _ _ _ rfl rfl hrun ?_
        replace HW := Lib.hid (HW.out.trans (hb5.mono HW.out.size))
        have HF5 := Lib.hid hf5
        refine hK _ _ (trivial) ?_
        clear hK K' hrun hf5 hb5 HBK
        refine wpPl_goL rfl rfl fun K' hK => ?_
        go_simp
        refine (KZ.out _ _ HF5.out).mono ?_
        rintro e6 w6 ⟨rfl, hb6⟩
        replace HW := Lib.hid (HW.out.trans (hb6.mono HW.out.size))
        refine hK _ _ (trivial) ?_
        clear hK K' hb6 HF5
        refine wpPl_nil ?_
        simp only [List.drop_succ_cons, List.drop_zero]
        go_wp2_with fail
        refine (KL.out _ (HFW.out _ HW.out)).mono ?_
        rintro e7 w7 ⟨rfl, hb7⟩
        replace HW := Lib.hid (HW.out.trans (hb7.mono HW.out.size))
        clear hb7
        go_wp2_with fail
        refine (same5_any y y _).mono ?_
        rintro e8 w8 ⟨rfl, hb8⟩
        rw [HCL.out, decide_eq_true (rfl : y = y)]
        replace HW := Lib.hid (HW.out.trans (hb8.mono HW.out.size))
        clear hb8
        replace HB := Lib.hid (HB.out.trans (HW.out.mono HB.out.size))
        go_wp2_with fail
        refine (awake5_any _ (HTA.out _ HB.out).1 (HTA.out _ HB.out).2).mono ?_
        rintro e9 w9 ⟨rfl, hb9⟩
        replace HB := Lib.hid (HB.out.trans (hb9.mono HB.out.size))
        clear hb9
        go_wp2
        go_ret
        exact ⟨rfl, HB.out⟩
      · obtain ⟨n, hn⟩ : ∃ n, l.length = n + 1 := ⟨l.length - 1, by omega⟩
        have z1 : ((l.length : Int) == 0) = false := by rw [beq_eq_false_iff_ne]; omega
        have z2 : IntKind.i64.wrap ((l.length : Int) - 1) = (n : Int) := by rw [hn]; rw [IntWalk.i64_in _ (by omega)]; omega
        have z3 : (0 : Int) ≤ (n : Int) := by omega
        have z4 : (n : Int) < (l.length : Int) := by omega
        obtain ⟨rb, ro, rfl, hrc⟩ := HRA.out (by omega)
        have HCK : Hid (∀ W, Below w3.heap.size w3 W → W.cell? ⟨rb, ro + n, none⟩ = some (.float .f64 y)) := Lib.hid fun W hb => by
          rw [← HLA.out n hn]; exact hrc W (HR.out.below hb) n (by omega)
        have HAP0 := Lib.hid fun W b h hb => HAP.out W b h (.inr (HFA.out (by omega))) hb
        clear hrc h0 hn
        go_wp2
        refine wp_region_pl (fun w' : World => w'.cell? ⟨rb, ro + n, none⟩ = some (.float .f64 y)) 25 (.take 0 (.take 1 (.take 2 (.take 3 (.take 4 (.take 5 (.take 6 (.take 7 (.take 8 (.take 9 (.take 10 (.run 11 (.run 12 (.take 13 (.take 14 (.take 15 (.take 16 (.take 17 (.take 18 (.take 19 (.take 20 (.take 24 (.run 21 (.run 22 (.run 23 .nil))))))))))))))))))))))))) (by kernel_rfl) (by kernel_rfl) ?_
        replace HW := Lib.hid (HW.out.trans ((drew_below wr).mono HW.out.size))
        generalize wr.drew = W4 at HW ⊢
        have hS : (fun w' : World => w'.cell? ⟨rb, ro + n, none⟩ = some (.float .f64 y)) W4 := HCK.out _ HW.out
        repeat (refine wpPl_takeL (v := ?_) rfl rfl (fun _ _ _ h => h) rfl (fun w' hSw => ?_) hS ?_; rotate_left; (focus (go_simp; with_reducible rfl)); simp only [List.setIfInBounds_toArray, List.set_cons_zero, List.set_cons_succ])
        clear hS
        refine wpPl_goL rfl rfl fun K' hK => ?_
        go_simp
        refine (KL.out _ (HFW.out _ HW.out)).mono ?_
        rintro e5 V5 ⟨rfl, hb5⟩
        replace HW := Lib.hid (HW.out.trans (hb5.mono HW.out.size))
        refine hK _ _ (HCK.out _ HW.out) ?_
        clear hK K' hb5
        refine wpPl_goL rfl rfl fun K' hK => ?_
        go_simp
        refine (same5_any y y _).mono ?_
        rintro e5 V6 ⟨rfl, hb5⟩
        rw [HCL.out, decide_eq_true (rfl : y = y)]
        replace HW := Lib.hid (HW.out.trans (hb5.mono HW.out.size))
        refine hK _ _ (HCK.out _ HW.out) ?_
        clear hK K' hb5
        have hS : (fun w' : World => w'.cell? ⟨rb, ro + n, none⟩ = some (.float .f64 y)) V6 := HCK.out _ HW.out
        repeat (refine wpPl_takeL (v := ?_) rfl rfl (fun _ _ _ h => h) rfl (fun w' hSw => ?_) hS ?_; rotate_left; (focus (go_simp; with_reducible rfl)); simp only [List.setIfInBounds_toArray, List.set_cons_zero, List.set_cons_succ])
        clear hS
        refine wpPl_goL rfl rfl fun K' hK => ?_
        go_simp
        have HBK : Hid (BlkT (V6.alloc (.cells #[.float .f64 0] 28)) V6.heap.size 28 #[.float .f64 0]) := Lib.hid (BlkT.new V6 _ _)
        replace HW := Lib.hid (HW.out.trans ((Below.alloc_self V6 (.cells #[.float .f64 0] 28)).mono HW.out.size))
        refine hK _ _ (HCK.out _ HW.out) ?_
        clear hK K'
        generalize V6.alloc (.cells #[.float .f64 0] 28) = W5 at HBK HW ⊢
        generalize V6.heap.size = nb at HBK ⊢
        obtain ⟨v', w5, hrun, hf5, hb5, a', c', rfl⟩ := HAP0.out W5 nb (HNR.out W5 HW.out) HBK.out
        refine wpPl_goL rfl rfl fun K' hK => ?_
        refine wp_append_run _ _ 24 rfl _ _ _ _ rfl rfl hrun ?_
        replace HW := Lib.hid (HW.out.trans (hb5.mono HW.out.size))
        have HF5 := Lib.hid hf5
        refine hK _ _ (HCK.out _ HW.out) ?_
        clear hK K' hrun hf5 hb5 HBK
        refine wpPl_goL rfl rfl fun K' hK => ?_
        go_simp
        refine (KZ.out _ _ HF5.out).mono ?_
        rintro e6 w6 ⟨rfl, hb6⟩
        replace HW := Lib.hid (HW.out.trans (hb6.mono HW.out.size))
        refine hK _ _ (HCK.out _ HW.out) ?_
        clear hK K' hb6 HF5
        refine wpPl_nil ?_
        simp only [List.drop_succ_cons, List.drop_zero]
        go_wp2_with fail
        refine (KL.out _ (HFW.out _ HW.out)).mono ?_
        rintro e7 w7 ⟨rfl, hb7⟩
        replace HW := Lib.hid (HW.out.trans (hb7.mono HW.out.size))
        clear hb7
        go_wp2_with fail
        refine (same5_any y y _).mono ?_
        rintro e8 w8 ⟨rfl, hb8⟩
        rw [HCL.out, decide_eq_true (rfl : y = y)]
        replace HW := Lib.hid (HW.out.trans (hb8.mono HW.out.size))
        clear hb8
        replace HB := Lib.hid (HB.out.trans (HW.out.mono HB.out.size))
        go_wp2_with fail
        refine (awake5_any _ (HTA.out _ HB.out).1 (HTA.out _ HB.out).2).mono ?_
        rintro e9 w9 ⟨rfl, hb9⟩
        replace HB := Lib.hid (HB.out.trans (hb9.mono HB.out.size))
        clear hb9
        go_wp2
        go_ret
        exact ⟨rfl, HB.out⟩

end Go.Proofs.YtjoajbbapfgaoaaDoor
