/- Walks: a number's sign, or itself (outer); the program's exact dot product. -/
import Derived.Test.YtphaikdbldfpaaaGreatDoorZFd1
import Derived.Test.YtphaikdbldfpaaaGreatDoorGX
namespace Go.Proofs.YtphaikdbldfpaaaGreatDoor
open Go.RowKit

/-- A finite number's sign; itself, if it is 0 or no finite number. -/
def outB (x : Nat) : Nat := if finB x = true ∧ x % kSign ≠ 0 then cpB (sgnB x) 4607182418800017408 else x

theorem order0 {x : Nat} (h : x < 18446744073709551616) : (F6.order x 0 == some Ordering.eq) = (finB x && decide (x % kSign = 0)) := by
  by_cases hf : finB x = true
  · have := valZ_word h hf
    rw [hf, Bool.true_and]
    rw [bne] at this
    cases ho : (F6.order x 0 == some Ordering.eq) <;> rw [ho] at this <;> cases hd : decide (x % kSign = 0) <;> rw [hd] at this <;> first | rfl | cases this
  · have hf2 : finB x = false := by simpa using hf
    rw [hf2, Bool.false_and]
    by_cases hn : nanB x = true
    · rw [order_nan hn]; rfl
    · have hle : x % kSign ≤ kInf := by unfold nanB at hn; simpa using hn
      rcases fin_word hle with h3 | h3
      · exact absurd h3.1 hf
      · rw [order_ky h (by decide) hle (by decide)]
        have h0 : ky 0 = 0 := by decide
        have h4 : ky x ≠ 0 := by
          rw [ky_cases h]
          have : kInf ≠ 0 := by decide
          split <;> omega
        rw [h0]
        rcases Int.lt_trichotomy (ky x) 0 with h5 | h5 | h5
        · rw [Int.compare_eq_lt.2 h5]; rfl
        · exact absurd h5 h4
        · rw [Int.compare_eq_gt.2 h5]; rfl

theorem outB_lt {x : Nat} (h : x < 18446744073709551616) : outB x < 18446744073709551616 := by
  unfold outB
  split
  · cases sgnB x <;> decide
  · exact h

set_option maxRecDepth 100000 in
set_option maxHeartbeats 800000 in
theorem outer_any (x : Nat) (w : World) (hx : x < 18446744073709551616) :
    Calls Tryz.prog 29 #[.float .f64 x] w (Gives (.float .f64 (outB x)) w) := by
  have HX := Lib.hid hx
  have ho := order0 hx
  have HS := Lib.hid (FSl.one w x 29 hx)
  have HFN := Lib.hid fun v W (h : FSl W v [x]) => Finite_any v [x] W h
  rw [show [x].all finB = finB x by simp] at HFN
  have HO : Hid (outB x = if finB x = true ∧ x % kSign ≠ 0 then cpB (sgnB x) 4607182418800017408 else x) := Lib.hid rfl
  generalize outB x = R at *
  clear hx
  by_cases h0 : finB x = true ∧ x % kSign = 0
  · rw [h0.1, decide_eq_true h0.2, Bool.true_and] at ho
    obtain rfl : R = x := by rw [HO.out, if_neg (fun h => h.2 h0.2)]
    clear h0
    go_enter Tryz.func29, Tryz.ntmps29
    go_wp2
    go_ret
    exact ⟨rfl, Below.refl _ _⟩
  · have ho2 : (F6.order x 0 == some Ordering.eq) = false := by
      rw [ho]
      cases hf : finB x
      · rfl
      · rw [Bool.true_and]; exact decide_eq_false (fun h => h0 ⟨hf, h⟩)
    clear ho
    cases hf : finB x
    · obtain rfl : R = x := by rw [HO.out, if_neg (fun h => by rw [hf] at h; cases h.1)]
      have HF := Lib.hid hf
      clear h0 hf
      go_enter Tryz.func29, Tryz.ntmps29
      go_wp2_with fail
      refine (HFN.out _ _ HS.out).mono ?_
      rintro e1 w1 ⟨rfl, hb⟩
      rw [HF.out]
      have HB := Lib.hid ((Below.alloc_self w _).trans (hb.mono (Below.alloc_self w _).size))
      clear hb
      go_wp2
      go_ret
      exact ⟨rfl, HB.out⟩
    · have hz : x % kSign ≠ 0 := fun h => h0 ⟨hf, h⟩
      have HR : Hid (R = cpB (sgnB x) 4607182418800017408) := Lib.hid (by rw [HO.out, if_pos ⟨hf, hz⟩])
      have HF := Lib.hid hf
      have HCP := Lib.hid fun w => copysign_any 4607182418800017408 x w (by decide) HX.out
      rw [← HR.out] at HCP
      clear h0 hf hz
      go_enter Tryz.func29, Tryz.ntmps29
      go_wp2_with fail
      refine (HFN.out _ _ HS.out).mono ?_
      rintro e1 w1 ⟨rfl, hb⟩
      rw [HF.out]
      have HB := Lib.hid ((Below.alloc_self w _).trans (hb.mono (Below.alloc_self w _).size))
      clear hb
      go_wp2_with fail
      refine (HCP.out _).mono ?_
      rintro e2 w2 ⟨rfl, hb⟩
      have HB2 := Lib.hid (HB.out.trans (hb.mono HB.out.size))
      clear hb
      go_wp2
      go_ret
      exact ⟨rfl, HB2.out⟩

/-- What is not finite among the first k products; whether anything is. -/
def dspU (l m : List Nat) : Nat → Option Nat × Bool
  | 0 => (some 0, false)
  | k + 1 => if finB (l.getD k 0) && finB (m.getD k 0) then dspU l m k else (oA .add (dspU l m k).1 (oA .mul (some (outB (l.getD k 0))) (some (outB (m.getD k 0)))), true)

theorem dspU_fin {l m : List Nat} {k : Nat} (h : k < l.length) (h2 : k < m.length) (hf : (finB l[k] && finB m[k]) = true) : dspU l m (k + 1) = dspU l m k := by
  show (if finB (l.getD k 0) && finB (m.getD k 0) then _ else _) = _
  rw [getD_at h, getD_at h2, if_pos hf]

theorem dspU_inf {l m : List Nat} {k : Nat} (h : k < l.length) (h2 : k < m.length) (hf : (finB l[k] && finB m[k]) = false) : dspU l m (k + 1) = (oA .add (dspU l m k).1 (oA .mul (some (outB l[k])) (some (outB m[k]))), true) := by
  show (if finB (l.getD k 0) && finB (m.getD k 0) then _ else _) = _
  rw [getD_at h, getD_at h2, if_neg (by rw [hf]; decide)]

theorem dspU_all {l m : List Nat} (hlm : l.length = m.length) : (dspU l m l.length).2 = false → l.all finB = true ∧ m.all finB = true := by
  have key : ∀ k, k ≤ l.length → (dspU l m k).2 = false → (l.take k).all finB = true ∧ (m.take k).all finB = true := by
    intro k
    induction k with
    | zero => intro _ _; simp
    | succ k ih =>
      intro hk h
      by_cases hf : (finB l[k] && finB (m[k]'(by omega))) = true
      · rw [dspU_fin (by omega) (by omega) hf] at h
        obtain ⟨h1, h2⟩ := ih (by omega) h
        rw [Bool.and_eq_true] at hf
        exact ⟨all_take_succ (by omega) h1 hf.1, all_take_succ (by omega) h2 hf.2⟩
      · rw [dspU_inf (by omega) (by omega) (by simpa using hf)] at h
        cases h
  intro h
  have := key l.length (Nat.le_refl _) h
  rw [List.take_length, hlm, List.take_length] at this
  exact this

/-- The exact dot product, rounded once. -/
def dexB (l m : List Nat) : Nat := if (dspU l m l.length).2 then cO (dspU l m l.length).1 else rndX (foldS (dts l m)).1 (foldS (dts l m)).2 0
theorem dexB_spc {l m : List Nat} (h : (dspU l m l.length).2 = true) : dexB l m = cO (dspU l m l.length).1 := if_pos h
theorem dexB_fin {l m : List Nat} (h : (dspU l m l.length).2 = false) : dexB l m = rndX (foldS (dts l m)).1 (foldS (dts l m)).2 0 := by unfold dexB; rw [h]; rfl

set_option maxRecDepth 100000 in
set_option maxHeartbeats 400000 in
theorem dotX_bad (va vb : Value) (l m : List Nat) (w : World) (hl : FSl w va l) (hm : FSl w vb m) (hlm : l.length ≠ m.length) :
    Calls Tryz.prog 11 #[va, vb] w (Gives (.tuple #[.float .f64 0, .int .i64 3]) w) := by
  obtain ⟨ao, cap, rfl, -⟩ := hl
  obtain ⟨bo, dap, rfl, -⟩ := hm
  have hne : ((l.length : Int) != (m.length : Int)) = true := by simp; omega
  clear hlm
  go_enter Tryz.func11, Tryz.ntmps11
  go_wp2
  go_ret2
  exact ⟨rfl, Below.refl _ _⟩

set_option maxRecDepth 100000 in
set_option maxHeartbeats 400000 in
theorem dotX_long (va vb : Value) (l m : List Nat) (w : World) (hl : FSl w va l) (hm : FSl w vb m) (hlm : l.length = m.length) (hlen : 4096 < l.length) :
    Calls Tryz.prog 11 #[va, vb] w (Gives (.tuple #[.float .f64 0, .int .i64 2]) w) := by
  obtain ⟨ao, cap, rfl, -⟩ := hl
  obtain ⟨bo, dap, rfl, -⟩ := hm
  have hne : ((l.length : Int) != (m.length : Int)) = false := by simp; omega
  have hci : decide ((4096 : Int) < (l.length : Int)) = true := by simp; omega
  clear hlm hlen
  go_enter Tryz.func11, Tryz.ntmps11
  go_wp2
  go_ret2
  exact ⟨rfl, Below.refl _ _⟩

set_option maxRecDepth 100000 in
set_option maxHeartbeats 4000000 in
theorem dotX_ok (va vb : Value) (l m : List Nat) (w : World) (hl : FSl w va l) (hm : FSl w vb m) (hlm : l.length = m.length) (hlen : l.length ≤ 4096) (hT : Tab64 w) (hTs : 1 < w.heap.size) :
    Calls Tryz.prog 11 #[va, vb] w (Gives (.tuple #[.float .f64 (dexB l m), .int .i64 0]) w) := by
  have HL := Lib.hid hl
  have HM := Lib.hid hm
  have HT := Lib.hid (And.intro hT hTs)
  have HALL := Lib.hid (dspU_all hlm)
  have HDT : Hid ((dspU l m l.length).2 = false → ∀ va vb W, FSl W va l → FSl W vb m → Tab64 W → 1 < W.heap.size → Calls Tryz.prog 31 #[va, vb] W (DyNew (hvZ (foldS (dts l m)).1) (nrE (foldS (dts l m)).1 (foldS (dts l m)).2) W)) :=
    Lib.hid fun h va vb W h1 h2 h3 h4 => Dot_any va vb l m W h1 h2 hlm (HALL.out h).1 (HALL.out h).2 h3 h4
  have HGD : Hid ((dspU l m l.length).2 = false → GoodD (hvZ (foldS (dts l m)).1) (nrE (foldS (dts l m)).1 (foldS (dts l m)).2)) := Lib.hid fun h => by
    have h1 := dts_small hlm (by omega) (HALL.out h).1 (HALL.out h).2 l.length (Nat.le_refl _)
    rw [List.take_of_length_le (by rw [dts_length hlm]; exact Nat.le_refl _)] at h1
    exact good_hv (by omega) (by omega) (by omega)
  have HE1 := Lib.hid (dexB_spc (l := l) (m := m))
  have HE3 : Hid ((dspU l m l.length).2 = false → dexB l m = rndB (hvZ (foldS (dts l m)).1) (nrE (foldS (dts l m)).1 (foldS (dts l m)).2) 0) := Lib.hid fun h => by rw [dexB_fin h, rndX_hv]
  obtain ⟨ao, cap, rfl, hcap, hn, hx, hc⟩ := hl
  obtain ⟨bo, dap, rfl, hdap, hn2, hx2, hc2⟩ := hm
  have hne : ((l.length : Int) != (m.length : Int)) = false := by simp; omega
  have hci : decide ((4096 : Int) < (l.length : Int)) = false := by simp; omega
  have HC := Lib.hid hc
  have HX := Lib.hid hx
  have HC2 := Lib.hid hc2
  have HX2 := Lib.hid hx2
  have hadd : ∀ t u v w, (binOp .add t (.float .f64 u) (.float .f64 v)).run Tryz.prog w = .ok (.float .f64 (fV .add u v w)) (fN .add u v w) := fun t u v w => run_float_any .add (.inl rfl) t u v w
  have hmul : ∀ t u v w, (binOp .mul t (.float .f64 u) (.float .f64 v)).run Tryz.prog w = .ok (.float .f64 (fV .mul u v w)) (fN .mul u v w) := fun t u v w => run_float_any .mul (.inr (.inr (.inl rfl))) t u v w
  have hml : l.length ≤ m.length := by omega
  generalize dexB l m = R at *
  generalize hvZ (foldS (dts l m)).1 = Z at *
  generalize nrE (foldS (dts l m)).1 (foldS (dts l m)).2 = E at *
  clear hc hx hc2 hx2 hlm hT hTs hlen
  go_enter Tryz.func11, Tryz.ntmps11
  go_wp2
  go_loopw [6, 7, 24] (fun s f i wr => ∃ (k u : Nat) (fd : Bool), k ≤ l.length ∧ i = .int .i64 k ∧ s = .float .f64 u ∧ f = .bool fd ∧ Hid (Rep (dspU l m k).1 u ∧ (dspU l m k).2 = fd) ∧ Hid (Below w.heap.size w wr)) (fun _ _ i _ => l.length - (intOf i).toNat)
  case atStart => exact ⟨0, 0, false, Nat.zero_le _, rfl, rfl, rfl, Lib.hid ⟨⟨by decide, rfl⟩, rfl⟩, Lib.hid (Below.refl _ _)⟩
  case round =>
    obtain ⟨k, u, fd, hk, rfl, rfl, rfl, HR, HB⟩ := hrel
    by_cases hlt : k < l.length
    · have hlt2 : k < m.length := by omega
      obtain ⟨b, off, rfl, hb, hcc⟩ := HC.out (by omega)
      obtain ⟨b2, off2, rfl, hb2, hcc2⟩ := HC2.out (by omega)
      have HCK : Hid (∀ W, Below w.heap.size w W → W.cell? ⟨b2, off2 + k, none⟩ = some (.float .f64 m[k])) :=
        Lib.hid fun W hW => (hW.cell (p := ⟨b2, off2 + k, none⟩) hb2).trans (hcc2 k hlt2)
      have hck := (HB.out.cell (p := ⟨b, off + k, none⟩) hb).trans (hcc k hlt)
      have hck2 := HCK.out wr HB.out
      have HXK := Lib.hid (And.intro (HX.out _ (List.getElem_mem hlt)) (HX2.out _ (List.getElem_mem hlt2)))
      have HU1 := Lib.hid (dspU_fin hlt hlt2)
      have HU2 := Lib.hid (dspU_inf hlt hlt2)
      have HFN := Lib.hid fun v W (h : FSl W v [l[k], m[k]]) => Finite_any v [l[k], m[k]] W h
      rw [show [l[k], m[k]].all finB = (finB l[k] && finB m[k]) by simp] at HFN
      have hk1 : (0 : Int) ≤ (k : Int) := by omega
      have hk3 : (k : Int) < (m.length : Int) := by omega
      clear hcc hcc2
      generalize l[k] = x at *
      generalize m[k] = y at *
      have HMD : Hid (FSl (wr.alloc (.cells #[.float .f64 x, .float .f64 y] 29)) (.slice (some ⟨wr.heap.size, 0, none⟩) 2 2) [x, y]) :=
        Lib.hid (FSl.made (l := [x, y]) (BlkT.new wr _ _) (by show 2 ≤ _; decide) (by simp; exact HXK.out))
      generalize hff : (finB x && finB y) = ff at *
      have HFF := Lib.hid hff
      clear hff
      go_wp2_with fail
      refine (HFN.out _ _ HMD.out).mono ?_
      rintro e1 w1 ⟨rfl, hb1⟩
      replace HB := Lib.hid ((HB.out.alloc HB.out.size (.cells #[.float .f64 x, .float .f64 y] 29)).trans (hb1.mono (HB.out.alloc HB.out.size (.cells #[.float .f64 x, .float .f64 y] 29)).size))
      clear hb1 hck hck2 HMD HFN
      cases ff
      · have HS : Hid (∀ W V, Rep (dspU l m (k + 1)).1 (fV .add u (fV .mul (outB x) (outB y) W) V) ∧ (dspU l m (k + 1)).2 = true) := Lib.hid fun W V => by
          rw [HU2.out (by first | rfl | trivial)]
          exact ⟨HR.out.1.op ((Rep.of (outB_lt HXK.out.1)).op (Rep.of (outB_lt HXK.out.2)) W) V, rfl⟩
        have HO1 := Lib.hid fun w => outer_any x w HXK.out.1
        have HO2 := Lib.hid fun w => outer_any y w HXK.out.2
        clear HU1 HU2 HFF
        generalize outB x = ox at *
        generalize outB y = oy at *
        go_wp2
        refine wp_region_pl (fun w' : World => w'.cell? ⟨b2, off2 + k, none⟩ = some (.float .f64 y)) 9 (.take 0 (.take 1 (.take 3 (.take 4 (.take 5 (.take 6 (.run 2 (.run 7 (.run 8 .nil))))))))) (by kernel_rfl) (by kernel_rfl) ?_
        replace HB := Lib.hid (HB.out.trans ((drew_below w1).mono HB.out.size))
        generalize w1.drew = W3 at HB ⊢
        have hS : (fun w' : World => w'.cell? ⟨b2, off2 + k, none⟩ = some (.float .f64 y)) W3 := HCK.out _ HB.out
        repeat (refine wpPl_takeL (v := ?_) rfl rfl (fun _ _ _ h => h) rfl (fun w' hSw => ?_) hS ?_; rotate_left; (focus (go_simp; with_reducible rfl)); simp only [List.setIfInBounds_toArray, List.set_cons_zero, List.set_cons_succ])
        clear hS
        refine wpPl_goL rfl rfl fun K' hK => ?_
        go_simp
        refine (HO1.out _).mono ?_
        rintro e2 V2 ⟨rfl, hbv⟩
        replace HB := Lib.hid (HB.out.trans (hbv.mono HB.out.size))
        refine hK _ _ (HCK.out _ HB.out) ?_
        clear hK K' hbv
        refine wpPl_goL rfl rfl fun K' hK => ?_
        go_simp
        refine (HO2.out _).mono ?_
        rintro e3 V3 ⟨rfl, hbv⟩
        replace HB := Lib.hid (HB.out.trans (hbv.mono HB.out.size))
        refine hK _ _ (HCK.out _ HB.out) ?_
        clear hK K' hbv
        refine wpPl_goL rfl rfl fun K' hK => ?_
        go_simp
        refine hK _ _ (HCK.out _ (HB.out.trans ((fN_below _ _ _ _).mono HB.out.size))) ?_
        clear hK K'
        refine wpPl_nil ?_
        simp only [List.drop_succ_cons, List.drop_zero]
        go_wp2
        go_roundw
        case rel => exact ⟨k + 1, _, _, by omega, by go_num, rfl, rfl, Lib.hid (HS.out _ _), Lib.hid (fN_two _ _ _ _ _ _ HB.out)⟩
        case measure => simp [intOf]; omega
      · have HS : Hid (dspU l m (k + 1) = dspU l m k) := Lib.hid (HU1.out (by first | rfl | trivial))
        clear HU1 HU2 HFF
        go_wp2
        go_roundw
        case rel => exact ⟨k + 1, _, _, by omega, by go_num, rfl, rfl, Lib.hid (by rw [HS.out]; exact HR.out), HB⟩
        case measure => simp [intOf]; omega
    · obtain rfl : k = l.length := by omega
      have HCN := Lib.hid HR.out.1.canon
      have HFD := Lib.hid HR.out.2
      cases fd
      · obtain rfl : R = rndB Z E 0 := HE3.out HFD.out
        have HG := Lib.hid (HGD.out HFD.out)
        have HDT2 := Lib.hid (HDT.out HFD.out)
        clear HDT HGD HE1 HE3
        go_wp2_with fail
        refine (HDT2.out _ _ _ (HL.out.below HB.out) (HM.out.below HB.out) (HT.out.1.below HT.out.2 HB.out) (Nat.lt_of_lt_of_le HT.out.2 HB.out.size)).mono ?_
        rintro e3 w3 hd
        obtain ⟨da, dc, rfl, hr, -, hb3⟩ := hd.at
        have HB3 := Lib.hid ((HB.out.trans (hb3.mono HB.out.size)).alloc (HB.out.trans (hb3.mono HB.out.size)).size (.cells #[.bool (decide (Z < 0)), .slice da (ln 32 Z.natAbs) dc, .int .i64 E] 50))
        have HDA : Hid (DyAt (w3.alloc (.cells #[.bool (decide (Z < 0)), .slice da (ln 32 Z.natAbs) dc, .int .i64 E] 50)) (DyV (decide (Z < 0)) (.slice da (ln 32 Z.natAbs) dc) E) Z E) := Lib.hid ⟨_, rfl, hr.below (Below.alloc_self w3 _)⟩
        clear hd hr hb3 HDT2
        have HRD := Lib.hid fun v W (h : DyAt W v Z E) ht hts => dRound_any v Z E 0 W h HG.out (by decide) (by decide) ht hts
        generalize rndB Z E 0 = R at *
        unfold DyV at HDA
        generalize decide (Z < 0) = na at *
        generalize ln 32 Z.natAbs = la at *
        go_wp2_with fail
        refine (HRD.out _ _ HDA.out (HT.out.1.below HT.out.2 HB3.out) (Nat.lt_of_lt_of_le HT.out.2 HB3.out.size)).mono ?_
        rintro e4 w4 ⟨rfl, hb4⟩
        have HB4 := Lib.hid (HB3.out.trans (hb4.mono HB3.out.size))
        clear hb4
        go_wp2
        go_ret2
        exact ⟨rfl, HB4.out⟩
      · have HRR : Hid (R = cO (dspU l m l.length).1) := Lib.hid (HE1.out HFD.out)
        clear HDT HGD HE1 HE3
        go_wp2_with fail
        refine (aCanon_any _ _ HR.out.1.1).mono ?_
        rintro e1 w1 ⟨rfl, hb⟩
        rw [HCN.out, ← HRR.out]
        have HB2 := Lib.hid (HB.out.trans (hb.mono HB.out.size))
        clear hb
        go_wp2
        go_ret2
        exact ⟨rfl, HB2.out⟩

end Go.Proofs.YtphaikdbldfpaaaGreatDoor
