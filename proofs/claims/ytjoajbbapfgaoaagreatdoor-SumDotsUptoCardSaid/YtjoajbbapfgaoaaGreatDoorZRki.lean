/- Walks: words that were handed in (nothing is known of their block's type): twin, the references' words, In, May. Printed by wip/gen/inp.py. -/
import Derived.Test.YtjoajbbapfgaoaaGreatDoorZRk1
namespace Go.Proofs.YtjoajbbapfgaoaaGreatDoor
open Go.RowKit

/-- As Raw .u32 32, but that nothing is said of the block's type. -/
def RawI (w : World) (v : Value) (n N : Nat) : Prop :=
  ∃ ao cap, v = .slice ao n cap ∧ n ≤ cap ∧ N < 2 ^ (32 * n) ∧ n ≤ 1099511627776 ∧
    (0 < n → ∃ b off, ao = some ⟨b, off, none⟩ ∧ b < w.heap.size ∧ ∀ i, i < n → w.cell? ⟨b, off + i, none⟩ = some (.int .u32 (dg 32 N i : Nat)))

theorem RawI.below {w w' : World} {v : Value} {n N : Nat} (h : RawI w v n N) (hb : Below w.heap.size w w') : RawI w' v n N := by
  obtain ⟨ao, cap, h1, h2, h3, h4, h5⟩ := h
  refine ⟨ao, cap, h1, h2, h3, h4, fun h0 => ?_⟩
  obtain ⟨b, off, e, hlt, hc⟩ := h5 h0
  exact ⟨b, off, e, Nat.lt_of_lt_of_le hlt hb.size, fun i hi => (hb.cell (p := ⟨b, off + i, none⟩) hlt).trans (hc i hi)⟩

/-- A dyad that was handed in. -/
def DyIn (w : World) (v : Value) (neg : Bool) (n N : Nat) (e : Int) : Prop := ∃ sl, v = DyV neg sl e ∧ RawI w sl n N ∧ n ≤ 1073741824

theorem DyIn.below {w w' : World} {v : Value} {neg : Bool} {n N : Nat} {e : Int} (h : DyIn w v neg n N e) (hb : Below w.heap.size w w') : DyIn w' v neg n N e := by
  obtain ⟨sl, h1, h2, h3⟩ := h; exact ⟨sl, h1, h2.below hb, h3⟩

theorem DyIn.good {w : World} {v : Value} {neg : Bool} {n N : Nat} {e : Int} (h : DyIn w v neg n N e) (hm : mayB neg n N e = true) : GoodD (sgZ neg N) e := by
  obtain ⟨sl, rfl, ⟨_, _, _, _, hN, _⟩, -⟩ := h
  exact (mayB_good hN hm).1

set_option maxRecDepth 100000 in
set_option maxHeartbeats 800000 in
theorem twin_in (neg : Bool) (e : Int) (sa : Value) (n N : Nat) (w : World) (h : RawI w sa n N) (hn : n ≤ 1073741824) :
    Calls Tryz.prog 21 #[DyV neg sa e] w (TwinOf neg n N e w) := by
  obtain ⟨i0, hi, hz0, hz1, hz2⟩ := info_parts Tryz.info53
  obtain ⟨aa, ca, rfl, hcap, hN, -, hc⟩ := h
  have HN := Lib.hid hN
  have HC := Lib.hid hc
  have HW0 := Lib.hid (Box1.start w neg (.slice aa n ca) e)
  clear hN hc
  unfold DyV
  go_enter Tryz.func21, Tryz.ntmps21
  go_wp2
  refine wp_region_pl (fun w' : World => (w'.cell? ⟨w.heap.size, 0, none⟩ = some (.bool neg) ∧ w'.cell? ⟨w.heap.size, 1, none⟩ = some (.slice aa n ca)) ∧ w'.cell? ⟨w.heap.size, 2, none⟩ = some (.int .i64 e)) 8 (.take 0 (.take 1 (.take 2 (.take 3 (.take 5 (.take 6 (.run 4 (.take 7 .nil)))))))) (by kernel_rfl) (by kernel_rfl) ?_
  have HW1 := Lib.hid (HW0.out.later (drew_below _))
  generalize ((w.alloc (.cells #[.bool neg, .slice aa n ca, .int .i64 e] 24)).alloc (.cells #[.bool false, .slice none 0 0, .int .i64 0] 24)).drew = W at HW1 ⊢
  clear HW0
  have hS : (fun w' : World => (w'.cell? ⟨w.heap.size, 0, none⟩ = some (.bool neg) ∧ w'.cell? ⟨w.heap.size, 1, none⟩ = some (.slice aa n ca)) ∧ w'.cell? ⟨w.heap.size, 2, none⟩ = some (.int .i64 e)) W := HW1.out.cells
  repeat (refine wpPl_take (v := ?_) rfl (fun _ _ _ h => h) rfl (fun w' hSw => ?_) hS ?_; rotate_left; focus (go_simp; with_reducible rfl); try simp only [Act.put, List.setIfInBounds_toArray, List.set_cons_zero, List.set_cons_succ])
  clear hS
  refine wpPl_go rfl rfl fun K' hK => ?_
  by_cases h0 : 0 < n
  · obtain ⟨b, off, rfl, hb, hcc⟩ := HC.out h0
    have hcells : ∀ (j : Nat) (u : Value), (digs N n)[j]? = some u → W.cell? ((⟨b, off, none⟩ : Addr).add j) = some u := by
      intro j u hu
      by_cases hj : j < n
      · rw [digs_get hj] at hu
        simp only [Option.some.injEq] at hu
        rw [← hu, ← hcc j hj]
        refine Eq.trans ?_ (HW1.out.2.2.cell (p := ⟨b, off + j, none⟩) hb)
        unfold Addr.add
        by_cases hj0 : j = 0
        · subst hj0; simp
        · rw [if_neg hj0]
      · rw [List.getElem?_eq_none (by rw [digs_length]; omega)] at hu; simp at hu
    have hone : ∀ u ∈ digs N n, u.oneCell' = true := by
      intro u hu
      obtain ⟨i, -, rfl⟩ := List.mem_map.1 hu
      rfl
    refine wp_append_own _ _ _ 22 rfl W.heap.size 53 i0 (.int .u32 0) 1 4 Tryz.underlying22 hi hz0 hz1 hz2 rfl (by decide) (.slice none 0 0) 0 [] rfl (World.ownsRow_nil _ _ _ _) ⟨b, off, none⟩ n ca (digs N n) rfl (by rw [digs_length]; simp) hcells hone (by unfold maxLen; omega) (by omega) (Nat.le_refl _) ?_
    intro v' W2 hown hgrow _
    rw [Nat.zero_add, List.nil_append] at hown
    have HB2 : Hid (Below W.heap.size W W2) := Lib.hid ((Below.refl _ _).grown hgrow (Nat.le_refl _) (fun k hk => by simp [Value.ownBlock] at hk))
    have HW2 := Lib.hid (HW1.out.later HB2.out)
    have HR : Hid (Raw .u32 32 W2 v' n N) := Lib.hid (Raw.of_owns hown rfl (fun i hi => digs_get hi) HN.out (by omega))
    have HF7 := Lib.hid (fun x0 x1 x2 => dy_store HW1.out.2.2 HR.out (OwnS.of_owns hown) HB2.out HW2.out.2.1 objT_dyad HW1.out.2.1.lt (by omega) x0 x1 x2)
    obtain ⟨ao7, cs7, hsl⟩ := owns_shape hown
    rw [hsl] at HF7 ⊢
    have hS : (fun w' : World => (w'.cell? ⟨w.heap.size, 0, none⟩ = some (.bool neg) ∧ w'.cell? ⟨w.heap.size, 1, none⟩ = some (.slice (some ⟨b, off, none⟩) n ca)) ∧ w'.cell? ⟨w.heap.size, 2, none⟩ = some (.int .i64 e)) W2 := HW2.out.cells
    refine hK _ _ hS ?_
    clear hK K' hown hgrow hsl hcells hone hcc HB2 HR
    repeat (refine wpPl_take (v := ?_) rfl (fun _ _ _ h => h) rfl (fun w' hSw => ?_) hS ?_; rotate_left; focus (go_simp; with_reducible rfl); try simp only [Act.put, List.setIfInBounds_toArray, List.set_cons_zero, List.set_cons_succ])
    clear hS
    refine wpPl_nil ?_
    simp only [List.drop_succ_cons, List.drop_zero]
    obtain ⟨q0, q1, q2, q3, q4, q5⟩ := HW2.out.2.1.cells3
    go_wp2
    exact bodyPost_ret (v := DyV neg (.slice ao7 n cs7) e) (by simp [results, Tryz.results21, go_sem, q0, q1, q2, DyV]) rfl ⟨_, rfl, HF7.out _ _ _⟩
  · obtain rfl : n = 0 := by omega
    have hz : N = 0 := by have := HN.out; simp at this; omega
    subst hz
    have happ : (Builtin.append_ #[22, 22] 22 #[.slice none 0 0, .slice aa 0 ca]).run Tryz.prog W = .ok (.slice none 0 0) W := by
      cases aa <;> simp [Builtin.append_, go_sem]
    refine wp_append_run _ _ 22 rfl _ _ _ _ rfl rfl happ ?_
    have HF7 := Lib.hid (fun x0 x1 x2 => dy_store HW1.out.2.2 (Raw.nil .u32 32 W) ⟨none, 0, 0, rfl, fun a ha => by cases ha⟩ (Below.refl _ _) HW1.out.2.1 objT_dyad HW1.out.2.1.lt (by omega) x0 x1 x2)
    have hS : (fun w' : World => (w'.cell? ⟨w.heap.size, 0, none⟩ = some (.bool neg) ∧ w'.cell? ⟨w.heap.size, 1, none⟩ = some (.slice aa 0 ca)) ∧ w'.cell? ⟨w.heap.size, 2, none⟩ = some (.int .i64 e)) W := HW1.out.cells
    refine hK _ _ hS ?_
    clear hK K' happ
    repeat (refine wpPl_take (v := ?_) rfl (fun _ _ _ h => h) rfl (fun w' hSw => ?_) hS ?_; rotate_left; focus (go_simp; with_reducible rfl); try simp only [Act.put, List.setIfInBounds_toArray, List.set_cons_zero, List.set_cons_succ])
    clear hS
    refine wpPl_nil ?_
    simp only [List.drop_succ_cons, List.drop_zero]
    obtain ⟨q0, q1, q2, q3, q4, q5⟩ := HW1.out.2.1.cells3
    go_wp2
    exact bodyPost_ret (v := DyV neg (.slice none 0 0) e) (by simp [results, Tryz.results21, go_sem, q0, q1, q2, DyV]) rfl ⟨_, rfl, HF7.out _ _ _⟩

set_option maxRecDepth 100000 in
set_option maxHeartbeats 800000 in
theorem rwords_in (sl : Value) (n N : Nat) (w : World) (h : RawI w sl n N) (hn : n ≤ 1073741824) :
    Calls Tryz.prog 95 #[sl] w (News .u32 32 (N : Nat) w) := by
  obtain ⟨ao, cap, rfl, hcap, hN, -, hc⟩ := h
  have HN := Lib.hid hN
  have HC := Lib.hid hc
  have HR0 : Hid (WordsRel N w.heap.size n w (w.alloc (.cells #[.bool false, .slice none 0 0] 108))) := by
    refine Lib.hid ⟨?_, Below.alloc_self _ _, rfl⟩
    rw [Nat.div_eq_of_lt hN]; exact IntK.zero w _ objT_rint
  clear hN hc
  go_enter Tryz.func95, Tryz.ntmps95
  go_wp2
  go_loopw [4] (fun i wr => ∃ (k : Nat) (j : Int), k ≤ n ∧ i = .int .i64 j ∧ j + 1 = k ∧ Hid (WordsRel N w.heap.size k w wr))
    (fun i _ => (intOf i + 1).toNat)
  case atStart => exact ⟨n, _, Nat.le_refl _, rfl, by omega, HR0⟩
  case round =>
    obtain ⟨k, j, hk, rfl, hj, HT⟩ := hrel
    by_cases h0 : k = 0
    · subst h0
      obtain rfl : j = -1 := by omega
      have HE : Hid (((N / 2 ^ (32 * 0) : Nat) : Int) = (N : Int)) := Lib.hid (by simp)
      go_wp2
      go_ret
      exact ⟨_, rfl, Nat.le_refl _, by rw [← HE.out]; exact HT.out.1, HT.out.2.1⟩
    · obtain ⟨i, rfl⟩ : ∃ i, k = i + 1 := ⟨k - 1, by omega⟩
      obtain rfl : j = (i : Int) := by omega
      obtain ⟨b1, off, rfl, hb1, hcc⟩ := HC.out (by omega)
      have HCC := Lib.hid (hcc i (by omega))
      have HB1 := Lib.hid hb1
      clear h0 hj hcc hb1
      go_wp2_with fail
      refine (rLsh_any _ 0 _ 0 32 _ _ HT.out.1.1 HT.out.1 ?_ (by omega)).mono ?_
      · exact Nat.le_trans (ln32_div HN.out _) (by omega)
      rintro e2 w2 ⟨rfl, hi2, hm2⟩
      have HB2 := Lib.hid (hm2.below HT.out.2.1 (Nat.le_refl _) HT.out.2.1.size)
      have HI2 := Lib.hid hi2
      have hlt2 : w.heap.size < w2.heap.size := hi2.1.1
      clear hi2 hm2
      have hcell := (HB2.out.cell (p := ⟨b1, off + i, none⟩) HB1.out).trans HCC.out
      have hd := dg_lt 32 N i
      generalize hdd : dg 32 N i = d at *
      have HD := Lib.hid hdd
      clear hdd
      have hcell3 := (World.cell?_alloc_lt w2 (.cells #[.bool false, .slice none 0 0] 108) ⟨b1, off + i, none⟩ (by have := HB1.out; show b1 < _; omega)).trans hcell
      go_wp2_with fail
      refine (rSetUint64_any w2.heap.size 0 d _ (Spot.new w2 _ objT_rint) (by omega)).mono ?_
      rintro e3 w3 ⟨rfl, hi3, hm3⟩
      have HI3 := Lib.hid hi3
      have HI23 := Lib.hid ((HI2.out.below (Below.alloc_self _ _)).mod hm3 (.inl (by omega)) (Spot.new w2 _ objT_rint).2.1)
      have HB3 := Lib.hid (hm3.below (HB2.out.trans ((Below.alloc_self w2 _).mono HB2.out.size)) HB2.out.size (HB2.out.trans ((Below.alloc_self w2 (.cells #[.bool false, .slice none 0 0] 108)).mono HB2.out.size)).size)
      clear hi3 hm3 hcell hcell3
      go_wp2_with fail
      refine (rAdd_any _ 0 _ 0 _ 0 _ _ _ HI23.out.1 HI23.out HI3.out ?_ ?_).mono ?_
      · exact Nat.le_trans (ln32_shl HN.out _) (by omega)
      · exact Nat.le_trans (ln_of_lt (s := 32) (n := 1) (by decide) (by rw [Int.natAbs_natCast]; omega)) (by omega)
      rintro e4 w4 ⟨rfl, hi4, hm4⟩
      have HT4 : Hid (WordsRel N w.heap.size i w w4) := by
        refine Lib.hid ⟨?_, hm4.below HB3.out (Nat.le_refl _) HB3.out.size, rfl⟩
        rw [← HD.out, words_step] at hi4; exact hi4
      clear hi4 hm4 hd
      go_wp2_with fail
      go_roundw
      case rel => exact ⟨i, _, by omega, rfl, by omega, HT4⟩
      case measure => simp [intOf]

set_option maxRecDepth 100000 in
set_option maxHeartbeats 800000 in
theorem rIn_in (neg : Bool) (e : Int) (sl : Value) (n N : Nat) (w : World) (h : RawI w sl n N) (hn : n ≤ 1073741824) :
    Calls Tryz.prog 32 #[DyV neg sl e] w (RxNew (if neg then -(N : Int) else N) e w) := by
  have HR := Lib.hid h
  have HL : Hid (ln 32 ((N : Int)).natAbs ≤ 68719476736) := by
    obtain ⟨_, _, _, _, hN, _⟩ := h
    exact Lib.hid (Nat.le_trans (by rw [Int.natAbs_natCast]; exact ln_of_lt (by decide) hN) (by omega : n ≤ _))
  clear h
  obtain ⟨z, hz⟩ : ∃ z, (if neg then -(N : Int) else N) = z := ⟨_, rfl⟩
  rw [hz]
  have HQ := Lib.hid hz
  clear hz
  unfold DyV
  have HW0 : Hid (BlkT ((w.alloc (.cells #[.bool neg, sl, .int .i64 e] 24)).alloc (.cells #[.pointer none, .int .i64 0] 34)) w.heap.size 24 #[.bool neg, sl, .int .i64 e] ∧
      BlkT ((w.alloc (.cells #[.bool neg, sl, .int .i64 e] 24)).alloc (.cells #[.pointer none, .int .i64 0] 34)) (w.heap.size + 1) 34 #[.pointer none, .int .i64 0] ∧
      Below w.heap.size w ((w.alloc (.cells #[.bool neg, sl, .int .i64 e] 24)).alloc (.cells #[.pointer none, .int .i64 0] 34))) :=
    Lib.hid ⟨(BlkT.new w _ _).alloc _, BlkT.new1 w _ _ _, below2 _ _ _⟩
  go_enter Tryz.func32, Tryz.ntmps32
  go_wp2_with fail
  refine (rwords_in sl n N _ (HR.out.below HW0.out.2.2) hn).mono ?_
  rintro e2 w2 ⟨b, rfl, hb, hi2, hb2⟩
  have HI2 := Lib.hid hi2
  have hlt : w.heap.size + 1 < b := by simp at hb; omega
  have HW2 : Hid (BlkT w2 w.heap.size 24 #[.bool neg, sl, .int .i64 e] ∧ BlkT w2 (w.heap.size + 1) 34 #[.pointer none, .int .i64 0] ∧ Below w.heap.size w w2) :=
    Lib.hid ⟨HW0.out.1.below hb2, HW0.out.2.1.below hb2, HW0.out.2.2.trans (hb2.mono HW0.out.2.2.size)⟩
  obtain ⟨q0, q1, q2, q3, q4, q5⟩ := HW2.out.1.cells3
  clear hi2 hb2 hb HW0
  cases neg
  · have HE : Hid ((N : Int) = z) := Lib.hid (by rw [← HQ.out]; simp)
    rw [HE.out] at HI2
    obtain ⟨r0, r1, r2, r3⟩ := HW2.out.2.1.cells2
    have HF := Lib.hid (rstore2 HI2.out HW2.out.2.1 objT_rexact HW2.out.2.2 (by omega) (by omega))
    go_wp2
    refine bodyPost_ret (v := ExV b e) (by simp [results, Tryz.results32, go_sem, ExV, r0, r1]) rfl ⟨_, rfl, by omega, (HF.out _ _).1, (HF.out _ _).2⟩
  · have HE : Hid (-(N : Int) = z) := Lib.hid (by rw [← HQ.out]; simp)
    go_wp2_with fail
    refine (rNeg_any b 0 b 0 _ _ HI2.out.1 HI2.out).mono ?_
    rintro e3 w3 ⟨rfl, hi3, hm3⟩
    rw [HE.out] at hi3
    have HI3 := Lib.hid hi3
    have HW3 : Hid (BlkT w3 w.heap.size 24 #[.bool true, sl, .int .i64 e] ∧ BlkT w3 (w.heap.size + 1) 34 #[.pointer none, .int .i64 0] ∧ Below w.heap.size w w3) :=
      Lib.hid ⟨HW2.out.1.mod hm3 (by omega), HW2.out.2.1.mod hm3 (by omega), hm3.below HW2.out.2.2 (by omega) HW2.out.2.2.size⟩
    clear hi3 hm3 q0 q1 q2 q3 q4 q5
    obtain ⟨q0, q1, q2, q3, q4, q5⟩ := HW3.out.1.cells3
    obtain ⟨r0, r1, r2, r3⟩ := HW3.out.2.1.cells2
    have HF := Lib.hid (rstore2 HI3.out HW3.out.2.1 objT_rexact HW3.out.2.2 (by omega) (by omega))
    go_wp2
    refine bodyPost_ret (v := ExV b e) (by simp [results, Tryz.results32, go_sem, ExV, r0, r1]) rfl ⟨_, rfl, by omega, (HF.out _ _).1, (HF.out _ _).2⟩

set_option maxRecDepth 100000 in
set_option maxHeartbeats 4000000 in
theorem rMay_in (v : Value) (neg : Bool) (n N : Nat) (e : Int) (w : World) (hv : DyIn w v neg n N e) :
    Calls Tryz.prog 25 #[v] w (Gives (.bool (mayB neg n N e)) w) := by
  obtain ⟨sl, rfl, ⟨ao, cap, rfl, -, -, -, hc⟩, hn⟩ := hv
  unfold DyV mayB
  by_cases h0 : n = 0
  · subst h0
    rw [if_pos rfl]
    clear hc hn
    cases neg
    · by_cases h1 : e = 0
      · subst h1
        rw [show (!false && decide ((0 : Int) = 0)) = true by decide]
        try clear h1
        go_enter Tryz.func25, Tryz.ntmps25
        go_wp2
        go_ret
        exact ⟨by first | rfl | simp [*], Below.alloc_self _ _⟩
      · have h2 : (e == 0) = false := by simpa using h1
        rw [show (!false && decide (e = 0)) = false by simp [h1]]
        try clear h1
        go_enter Tryz.func25, Tryz.ntmps25
        go_wp2
        go_ret
        exact ⟨by first | rfl | simp [*], Below.alloc_self _ _⟩
    · rw [show (!true && decide (e = 0)) = false by simp]
      go_enter Tryz.func25, Tryz.ntmps25
      go_wp2
      go_ret
      exact ⟨by first | rfl | simp [*], Below.alloc_self _ _⟩
  · rw [if_neg h0]
    have hl0 : 0 < n := by omega
    obtain ⟨b, off, rfl, hb, hcc⟩ := hc hl0
    have c1 := hcc (n - 1) (by omega)
    have c0 := hcc 0 hl0
    rw [Nat.add_zero] at c0
    clear hcc hc
    have hd0 : dg 32 N (n - 1) < 4294967296 := dg_lt 32 N (n - 1)
    have hd1 : dg 32 N 0 < 4294967296 := dg_lt 32 N 0
    generalize dg 32 N (n - 1) = dt at *
    generalize dg 32 N 0 = d0 at *
    have hn0 : ((n : Int) == 0) = false := by simp; omega
    by_cases hB : dt ≠ 0
    · have fB : ((dt : Int) != 0) = true := by simp; omega
      by_cases hC : d0 % 2 = 1
      · have fC : ((d0 : Int) % 2 == 1) = true := by simp; omega
        by_cases hA : n ≤ 2048
        · have fA : n ≤ 2048 := hA
          by_cases hD : -100000 ≤ e
          · have fD : -100000 ≤ e := hD
            by_cases hE : e ≤ 100000
            · have fE : e ≤ 100000 := hE
              rw [show (decide (n ≤ 2048) && (decide (dt ≠ 0) && (decide (d0 % 2 = 1) && (decide (-100000 ≤ e) && decide (e ≤ 100000))))) = true by simp [hA, hB, hC, hD, hE]]
              clear hA hB hC hD hE
              go_enter Tryz.func25, Tryz.ntmps25
              go_wp2
              go_ret
              exact ⟨by first | rfl | simp [*], Below.alloc_self _ _⟩
            · have fE : decide (e ≤ 100000) = false := by simp; omega
              rw [show (decide (n ≤ 2048) && (decide (dt ≠ 0) && (decide (d0 % 2 = 1) && (decide (-100000 ≤ e) && decide (e ≤ 100000))))) = false by simp [hE]]
              clear hB hC hA hD hE
              go_enter Tryz.func25, Tryz.ntmps25
              go_wp2
              go_ret
              exact ⟨by first | rfl | simp [*], Below.alloc_self _ _⟩
          · have fD : e < -100000 := by omega
            rw [show (decide (n ≤ 2048) && (decide (dt ≠ 0) && (decide (d0 % 2 = 1) && (decide (-100000 ≤ e) && decide (e ≤ 100000))))) = false by simp [hD]]
            clear hB hC hA hD
            go_enter Tryz.func25, Tryz.ntmps25
            go_wp2
            go_ret
            exact ⟨by first | rfl | simp [*], Below.alloc_self _ _⟩
        · have fA : 2048 < n := by omega
          rw [show (decide (n ≤ 2048) && (decide (dt ≠ 0) && (decide (d0 % 2 = 1) && (decide (-100000 ≤ e) && decide (e ≤ 100000))))) = false by simp [hA]]
          clear hB hC hA
          go_enter Tryz.func25, Tryz.ntmps25
          go_wp2
          go_ret
          exact ⟨by first | rfl | simp [*], Below.alloc_self _ _⟩
      · have fC : ((d0 : Int) % 2 == 1) = false := by simp; omega
        rw [show (decide (n ≤ 2048) && (decide (dt ≠ 0) && (decide (d0 % 2 = 1) && (decide (-100000 ≤ e) && decide (e ≤ 100000))))) = false by simp [hC]]
        clear hB hC
        go_enter Tryz.func25, Tryz.ntmps25
        go_wp2
        go_ret
        exact ⟨by first | rfl | simp [*], Below.alloc_self _ _⟩
    · have fB : ((dt : Int) != 0) = false := by simp; omega
      rw [show (decide (n ≤ 2048) && (decide (dt ≠ 0) && (decide (d0 % 2 = 1) && (decide (-100000 ≤ e) && decide (e ≤ 100000))))) = false by simp [hB]]
      clear hB
      go_enter Tryz.func25, Tryz.ntmps25
      go_wp2
      go_ret
      exact ⟨by first | rfl | simp [*], Below.alloc_self _ _⟩

end Go.Proofs.YtjoajbbapfgaoaaGreatDoor
