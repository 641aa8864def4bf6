/- Walk: SumNoOrder. Printed by wip/gen/no3.py. -/
import Derived.Test.YtphaikdbldfpaaaGreatDoorHA
import Derived.Test.YtphaikdbldfpaaaGreatDoorZFd4
namespace Go.Proofs.YtphaikdbldfpaaaGreatDoor
open Go.RowKit

theorem canon_rndX (z e : Int) : canonB (rndX z e 0) = rndX z e 0 := by
  unfold rndX
  split
  · decide
  · rename_i h
    unfold canonB
    rw [rnd_nan h]; rfl

theorem canon_meanB (l : List Nat) : canonB (meanB l).1 = (meanB l).1 := by
  unfold meanB
  split
  · decide
  · split
    · decide
    · split
      · decide
      · split
        · decide
        · show canonB (mnQ _ _ _) = mnQ _ _ _
          unfold mnQ mnB
          split
          · rw [rndX_hv]; exact canon_rndX _ _
          · have := canon_rndX 0 0
            rw [← rndX_hv, hvZ_zero, show nrE 0 0 = 0 from if_pos rfl] at this
            exact this

/-- What a walk keeps: the two lists of numbers, the second list, the places. -/
structure NoK (w W : World) (a b v2 v : Value) (l p m : List Nat) (os : List Int) : Prop where
  a : FSl W a l
  b : FSl W b p
  m : USl W v2 m
  o : ISl W v os
  below : Below w.heap.size w W

theorem NoK.later {w W W' : World} {a b v2 v : Value} {l p m : List Nat} {os : List Int} (h : NoK w W a b v2 v l p m os) (hb : Below W.heap.size W W') : NoK w W' a b v2 v l p m os :=
  ⟨h.a.below hb, h.b.below hb, h.m.below hb, h.o.below hb, h.below.trans (hb.mono h.below.size)⟩

theorem USl.take {w : World} {ao : Option Addr} {cap : Nat} {m : List Nat} (h : USl w (.slice ao m.length cap) m) {n : Nat} (hn : n ≤ m.length) : USl w (.slice ao n cap) (m.take n) := by
  obtain ⟨ao', cap', hv, h1, h2, h3, h4⟩ := h
  simp only [Value.slice.injEq] at hv
  obtain ⟨rfl, -, rfl⟩ := hv
  have e : (m.take n).length = n := by rw [List.length_take]; omega
  refine ⟨ao, cap, by rw [e], by omega, by omega, fun x hx => h3 x (List.mem_of_mem_take hx), fun h0 => ?_⟩
  obtain ⟨b, off, e1, e2, e3⟩ := h4 (by omega)
  exact ⟨b, off, e1, e2, fun i hi => by rw [e3 i (by omega)]; simp⟩

theorem getD_of_lt {l : List Nat} {i : Nat} (h : i < l.length) : l.getD i 0 = l[i] := by rw [List.getD_eq_getElem?_getD, List.getElem?_eq_getElem h]; rfl

theorem perm_map_getD {l ord : List Nat} (h : ord.Perm (List.range l.length)) : (ord.map fun i => l.getD i 0).Perm l := by
  have e : (List.range l.length).map (fun i => l.getD i 0) = l := by
    refine List.ext_getElem (by simp) fun i h1 h2 => ?_
    rw [List.getElem_map, List.getElem_range]; exact getD_of_lt h2
  have := h.map (fun i => l.getD i 0)
  rw [e] at this
  exact this

/-- The dot product of two lists in the other order. -/
theorem dexR_perm {l m ord : List Nat} (h : ord.Perm (List.range l.length)) (hm : l.length ≤ m.length) (hx : ∀ x ∈ l, x < 18446744073709551616) (hy : ∀ x ∈ m, x < 18446744073709551616) :
    dexR (ord.map fun i => l.getD i 0) (ord.map fun i => m.getD i 0) = dexR l (m.take l.length) ∧ dexE (ord.map fun i => l.getD i 0) (ord.map fun i => m.getD i 0) = dexE l (m.take l.length) := by
  have hol : ord.length = l.length := by have := h.length_eq; simpa using this
  have hov : ∀ i ∈ ord, i < l.length := fun i hi => List.mem_range.1 (h.mem_iff.1 hi)
  have e1 : (m.take l.length).length = l.length := by rw [List.length_take]; omega
  unfold dexR dexE
  rw [List.length_map, List.length_map, hol, e1, if_pos rfl, if_pos rfl]
  refine ⟨?_, rfl⟩
  split
  · rfl
  · refine dexB_perm e1.symm (by simp) hx (fun x hx => hy x (List.mem_of_mem_take hx)) ?_
    rw [List.length_map, hol]
    have e2 : (List.range l.length).map (pairL (ord.map fun i => l.getD i 0) (ord.map fun i => m.getD i 0)) = ord.map (pairL l (m.take l.length)) := by
      refine List.ext_getElem (by simp [hol]) fun i h1 h2 => ?_
      have h3 : i < ord.length := by simpa using h2
      rw [List.getElem_map, List.getElem_range, List.getElem_map]
      have h4 := hov ord[i] (List.getElem_mem _)
      unfold pairL
      rw [getD_of_lt (l := ord.map fun i => l.getD i 0) (by simpa using h3), getD_of_lt (l := ord.map fun i => m.getD i 0) (by simpa using h3), List.getElem_map, List.getElem_map,
        getD_of_lt (l := m.take l.length) (by omega), List.getElem_take, getD_of_lt (l := m) (by omega)]
    rw [e2]
    exact h.map _

/-- The first k of the second list's numbers, in the other order. -/
def qRow (m ord : List Nat) (k : Nat) : List Value := u64V ((ord.take k).map fun i => m.getD i 0)

set_option maxRecDepth 100000 in
set_option maxHeartbeats 4000000 in
theorem sumNoOrder_any (v1 v2 v3 : Value) (l m : List Nat) (ps : List Int) (w : World) (hl : USl w v1 l) (hm : USl w v2 m) (hp : ISl w v3 ps)
    (hT : Tab64 w) (hTs : 1 < w.heap.size) :
    Calls Tryz.prog 3 #[v1, v2, v3] w (Gives (.bool true) w) := by
  have HTA : Hid (∀ W, Below w.heap.size w W → Tab64 W ∧ 1 < W.heap.size) := Lib.hid fun W hb => ⟨hT.below hTs hb, Nat.lt_of_lt_of_le hTs hb.size⟩
  have HL := Lib.hid hl
  have HM := Lib.hid hm
  have HX : Hid (∀ x ∈ l, x < 18446744073709551616) := Lib.hid hl.choose_spec.choose_spec.2.2.2.1
  have HY : Hid (∀ x ∈ m, x < 18446744073709551616) := Lib.hid hm.choose_spec.choose_spec.2.2.2.1
  have hmk : m.length ≤ 1099511627776 := hm.choose_spec.choose_spec.2.2.1
  have HP := Lib.hid hp
  obtain ⟨ao, cap, rfl, -⟩ := hl
  obtain ⟨bo, dap, rfl, -⟩ := hm
  obtain ⟨co, eap, rfl, -⟩ := hp
  clear hT hTs
  by_cases hlong : 600 < l.length
  · have hci : decide ((600 : Int) < (l.length : Int)) = true := by simp; omega
    go_enter Tryz.func3, Tryz.ntmps3
    go_wp2_with fail
    refine (awake5_any _ (HTA.out _ (Below.refl _ _)).1 (HTA.out _ (Below.refl _ _)).2).mono ?_
    rintro e w1 ⟨rfl, hb⟩
    have HB := Lib.hid hb
    clear hb
    go_wp2
    go_ret
    exact ⟨rfl, HB.out⟩
  have hci : decide ((600 : Int) < (l.length : Int)) = false := by simp; omega
  have hn : l.length ≤ 600 := by omega
  clear hlong
  have HSH := Lib.hid (shuffled_any _ _ l ps w HL.out HP.out hn)
  go_enter Tryz.func3, Tryz.ntmps3
  go_wp2_with fail
  refine HSH.out.mono ?_
  rintro e1 w1 ⟨u, v, ord, rfl, hpm, hu, hv, hb1⟩
  have HPM := Lib.hid hpm
  have HU := Lib.hid hu
  have HV := Lib.hid hv
  have HB1 := Lib.hid hb1
  have hol : ord.length = l.length := by have := hpm.length_eq; simpa using this
  have HEX : Hid (exB (ord.map fun i => l.getD i 0) = exB l) := Lib.hid ((exB_perm (perm_map_getD hpm).symm HX.out).symm)
  have HME : Hid (meanB (ord.map fun i => l.getD i 0) = meanB l) := Lib.hid (meanB_perm (perm_map_getD hpm))
  have hpl : (ord.map fun i => l.getD i 0).length = l.length := by simp [hol]
  have hvl : (ord.map fun i : Nat => (i : Int)).length = l.length := by simp [hol]
  obtain ⟨uo, uc, rfl, -⟩ := hu
  obtain ⟨vo, vc, rfl, -⟩ := hv
  clear hpm hb1 HSH HP
  have HC1 := Lib.hid (canon_exB l)
  have HC2 := Lib.hid (canon_meanB l)
  have K1 := Lib.hid fun va W (h : FSl W va l) => exact_ok va l W h (by omega)
  have K2 : Hid (∀ va W, FSl W va (ord.map fun i => l.getD i 0) → Tab64 W → 1 < W.heap.size → Calls Tryz.prog 8 #[va] W (Gives (.tuple #[.float .f64 (exB l), .int .i64 0]) W)) :=
    Lib.hid fun va W h => by rw [← HEX.out]; exact exact_ok va _ W h (by omega)
  have K3 := Lib.hid fun va W (h : FSl W va l) => Mean_any va l W h
  have K4 : Hid (∀ va W, FSl W va (ord.map fun i => l.getD i 0) → Tab64 W → 1 < W.heap.size → Calls Tryz.prog 9 #[va] W (Gives (.tuple #[.float .f64 (meanB l).1, .int .i64 (meanB l).2]) W)) :=
    Lib.hid fun va W h => by rw [← HME.out]; exact Mean_any va _ W h
  have K5 : Hid (∀ W, Calls Tryz.prog 10 #[.float .f64 (exB l), .float .f64 (exB l)] W (Gives (.bool true) W)) :=
    Lib.hid fun W => by have := same5_any (exB l) (exB l) W; rw [HC1.out, decide_eq_true rfl] at this; exact this
  have K6 : Hid (∀ W, Calls Tryz.prog 10 #[.float .f64 (meanB l).1, .float .f64 (meanB l).1] W (Gives (.bool true) W)) :=
    Lib.hid fun W => by have := same5_any (meanB l).1 (meanB l).1 W; rw [HC2.out, decide_eq_true rfl] at this; exact this
  clear HEX HME HC1 HC2
  generalize exB l = x1 at *
  generalize (meanB l).1 = x2 at *
  generalize (meanB l).2 = k2 at *
  rw [hpl, hvl]
  go_wp2_with fail
  refine (rOf64_any _ l _ (HL.out.below HB1.out)).mono ?_
  rintro e2 w2 ⟨fa, rfl, hfa, hb2⟩
  have HFA := Lib.hid hfa
  have HU2 := Lib.hid (HU.out.below hb2)
  have HV2 := Lib.hid (HV.out.below hb2)
  have HB2 := Lib.hid (HB1.out.trans (hb2.mono HB1.out.size))
  obtain ⟨ga, gc, rfl, -⟩ := hfa
  clear hb2 HU HV HB1 HL
  rw [hpl] at HU2
  rw [hvl] at HV2
  go_wp2_with fail
  refine (rOf64_any _ _ _ HU2.out).mono ?_
  rintro e3 w3 ⟨fb, rfl, hfb, hb3⟩
  have HK : Hid (NoK w w3 (.slice ga l.length gc) fb (.slice bo m.length dap) (.slice vo l.length vc) l (ord.map fun i => l.getD i 0) m (ord.map fun i : Nat => (i : Int))) :=
    Lib.hid ⟨HFA.out.below hb3, hfb, (HM.out.below HB2.out).below hb3, HV2.out.below hb3, HB2.out.trans (hb3.mono HB2.out.size)⟩
  obtain ⟨ha, hc, rfl, -⟩ := hfb
  rw [hpl] at HK
  clear hb3 HFA HU2 HV2 HB2 HM
  go_wp2_with fail
  refine (K1.out _ _ HK.out.a (HTA.out _ HK.out.below).1 (HTA.out _ HK.out.below).2).mono ?_
  rintro e4 w4 ⟨rfl, hb4⟩
  replace HK := Lib.hid (HK.out.later hb4)
  clear hb4
  go_wp2_with fail
  refine (K2.out _ _ HK.out.b (HTA.out _ HK.out.below).1 (HTA.out _ HK.out.below).2).mono ?_
  rintro e5 w5 ⟨rfl, hb5⟩
  replace HK := Lib.hid (HK.out.later hb5)
  clear hb5
  go_wp2_with fail
  refine (K3.out _ _ HK.out.a (HTA.out _ HK.out.below).1 (HTA.out _ HK.out.below).2).mono ?_
  rintro e6 w6 ⟨rfl, hb6⟩
  replace HK := Lib.hid (HK.out.later hb6)
  clear hb6
  go_wp2_with fail
  refine (K4.out _ _ HK.out.b (HTA.out _ HK.out.below).1 (HTA.out _ HK.out.below).2).mono ?_
  rintro e7 w7 ⟨rfl, hb7⟩
  replace HK := Lib.hid (HK.out.later hb7)
  clear hb7
  go_wp2_with fail
  refine (K5.out _).mono ?_
  rintro e8 w8 ⟨rfl, hb8⟩
  replace HK := Lib.hid (HK.out.later hb8)
  clear hb8
  go_wp2_with fail
  refine (K6.out _).mono ?_
  rintro e9 w9 ⟨rfl, hb9⟩
  replace HK := Lib.hid (HK.out.later hb9)
  clear hb9
  go_wp2_with fail
  refine (awake5_any _ (HTA.out _ HK.out.below).1 (HTA.out _ HK.out.below).2).mono ?_
  rintro e10 w10 ⟨rfl, hb10⟩
  replace HK := Lib.hid (HK.out.later hb10)
  clear hb10
  clear K1 K2 K3 K4 K5 K6
  by_cases hsm : m.length < l.length
  · have HB := Lib.hid HK.out.below
    have hd1 : decide ((m.length : Int) < (l.length : Int)) = true := by simp; omega
    clear HK
    go_wp2
    go_ret
    exact ⟨rfl, HB.out⟩
  have hd1 : decide ((m.length : Int) < (l.length : Int)) = false := by simp; omega
  have hd2 : decide (m.length < l.length) = false := by simp; omega
  have hml : l.length ≤ m.length := by omega
  clear hsm
  obtain ⟨DR, DE⟩ := dexR_perm HPM.out hml HX.out HY.out
  have HD1 := Lib.hid DR
  have HD2 := Lib.hid DE
  have HC3 := Lib.hid (canon_dexR l (m.take l.length))
  clear DR DE
  have HOV : Hid (∀ i (h : i < ord.length), ord[i] < l.length) := Lib.hid fun i h => List.mem_range.1 (HPM.out.mem_iff.1 (List.getElem_mem h))
  obtain ⟨i0, hi, hz0, hz1, hz2⟩ := info_parts Tryz.info34
  go_wp2_with fail
  go_loopw [19, 89] (fun q i wr => ∃ k : Nat, k ≤ l.length ∧ i = .int .i64 k ∧ Hid (wr.ownsRow w10.heap.size 34 1 q k (qRow m ord k) ∧ Below w10.heap.size w10 wr)) (fun _ i _ => l.length - (intOf i).toNat)
  case atStart => exact ⟨0, Nat.zero_le _, rfl, Lib.hid ⟨World.ownsRow_nil _ _ _ _, Below.refl _ _⟩⟩
  case round =>
    obtain ⟨k, hk, rfl, HR⟩ := hrel
    obtain ⟨qo, qc, rfl⟩ := owns_shape HR.out.1
    have HKR := Lib.hid (HK.out.later HR.out.2)
    by_cases hlt : k < l.length
    · obtain ⟨_, _, hve, -, -, -, hvc⟩ := HKR.out.o
      simp only [Value.slice.injEq] at hve
      obtain ⟨rfl, -, rfl⟩ := hve
      obtain ⟨b1, o1, rfl, hb1, hc1⟩ := hvc (by omega)
      have hcell1 := hc1 k (by omega)
      rw [List.getElem_map] at hcell1
      have hyl := HOV.out k (by omega)
      obtain ⟨_, _, hme, -, -, -, hmc⟩ := HKR.out.m
      simp only [Value.slice.injEq] at hme
      obtain ⟨rfl, -, rfl⟩ := hme
      obtain ⟨b2, o2, rfl, hb2, hc2⟩ := hmc (by omega)
      have hcell2 := hc2 ord[k] (by omega)
      have HSU : Hid (qRow m ord (k + 1) = qRow m ord k ++ [.int .u64 (m[ord[k]] : Nat)]) := Lib.hid (by
        unfold qRow
        rw [List.take_succ_eq_append_getElem (by omega)]
        unfold u64V
        rw [List.map_append, List.map_append]
        show _ ++ [Value.int .u64 (m.getD ord[k] 0 : Nat)] = _
        rw [getD_of_lt (by omega)])
      clear hvc hmc hc1 hc2
      obtain ⟨x, hx⟩ : ∃ x, m[ord[k]] = x := ⟨_, rfl⟩
      rw [hx] at hcell2 HSU
      clear hx
      obtain ⟨y, hy⟩ : ∃ y, ord[k] = y := ⟨_, rfl⟩
      rw [hy] at hcell1 hcell2 hyl
      clear hy
      have hym : y < m.length := by omega
      have HOW := Lib.hid fun o => HR.out.1.kept (grown_of_below (Below.alloc_self wr o)) (by cases (Value.slice qo k qc).ownBlock <;> simp)
      have HNW := Lib.hid fun W => cell_one_new W (.int .u64 (x : Nat)) 34
      go_wp2_with (at_builtin; refine wpList_append_own _ rfl _ _ 22 rfl w10.heap.size 34 i0 (.int .u64 0) 1 8 Tryz.underlying22 hi hz0 hz1 hz2 rfl (by decide) _ _ _ rfl (HOW.out _) ⟨_, 0, none⟩ 1 1 [.int .u64 (x : Nat)] rfl rfl (HNW.out _) ?c2 ?c3 ?c4 ?c5 ?_)
      case c2 => intro u hu; simp only [List.mem_singleton] at hu; subst hu; rfl
      case c3 => unfold maxLen; omega
      case c4 => omega
      case c5 => exact Nat.le_trans HR.out.2.size (by simp)
      intro v' U4 hown hgrow _
      rw [← HSU.out] at hown
      have HR2 := Lib.hid hown
      have HBB := Lib.hid ((HR.out.2.trans ((Below.alloc_self wr _).mono HR.out.2.size)).grown hgrow (Nat.le_trans HR.out.2.size (by simp)) (fun j hj => (HR.out.1.lt j hj).1))
      obtain ⟨ao', cap', hv'⟩ := owns_shape hown
      rw [hv'] at HR2 ⊢
      clear hown hgrow hv' HNW HOW hcell1 hcell2 HKR
      go_wp2
      go_roundw
      case rel => exact ⟨k + 1, by omega, by go_num, Lib.hid ⟨HR2.out, HBB.out⟩⟩
      case measure => simp [intOf]; omega
    · obtain rfl : k = l.length := by omega
      have HTK : Hid (ord.take l.length = ord) := Lib.hid (by rw [← hol]; exact List.take_length)
      have HRQ := HR.out.1
      unfold qRow at HRQ
      rw [HTK.out] at HRQ
      have HQ : Hid (USl wr (.slice qo l.length qc) (ord.map fun i => m.getD i 0)) := Lib.hid (USl.of_ownsU HRQ (by rw [List.length_map]; omega) (by
        intro x hx
        obtain ⟨i, hi, rfl⟩ := List.mem_map.1 hx
        have := List.mem_range.1 (HPM.out.mem_iff.1 hi)
        rw [getD_of_lt (show i < m.length by omega)]
        exact HY.out _ (List.getElem_mem _)))
      clear HRQ HK HR hlt
      have hml2 : (l.length : Int) ≤ (m.length : Int) := by omega
      have hmd : m.length ≤ dap := by obtain ⟨_, _, hme, h1, -⟩ := HKR.out.m; simp only [Value.slice.injEq] at hme; omega
      have hml3 : l.length ≤ dap := by omega
      have hml4 : (l.length : Int) ≤ (dap : Int) := by omega
      have D1 := Lib.hid fun va vb W (h : FSl W va l) (h2 : FSl W vb (m.take l.length)) => dotX_any va vb l _ W h h2
      have D2 : Hid (∀ va vb W, FSl W va (ord.map fun i => l.getD i 0) → FSl W vb (ord.map fun i => m.getD i 0) → Tab64 W → 1 < W.heap.size → Calls Tryz.prog 11 #[va, vb] W (Gives (.tuple #[.float .f64 (dexR l (m.take l.length)), .int .i64 (dexE l (m.take l.length))]) W)) :=
        Lib.hid fun va vb W h h2 => by rw [← HD1.out, ← HD2.out]; exact dotX_any va vb _ _ W h h2
      have D3 : Hid (∀ W, Calls Tryz.prog 10 #[.float .f64 (dexR l (m.take l.length)), .float .f64 (dexR l (m.take l.length))] W (Gives (.bool true) W)) :=
        Lib.hid fun W => by have := same5_any (dexR l (m.take l.length)) (dexR l (m.take l.length)) W; rw [HC3.out, decide_eq_true rfl] at this; exact this
      clear HD1 HD2 HC3
      generalize dexR l (m.take l.length) = y1 at *
      generalize dexE l (m.take l.length) = y2 at *
      go_wp2_with fail
      refine (rOf64_any _ _ _ (USl.take HKR.out.m hml)).mono ?_
      rintro e20 w20 ⟨fm, rfl, hfm, hb⟩
      have HFM := Lib.hid hfm
      have HK1 := Lib.hid (HKR.out.later hb)
      have HQ1 := Lib.hid (HQ.out.below hb)
      obtain ⟨ma, mc, rfl, -⟩ := hfm
      have htl : (m.take l.length).length = l.length := by rw [List.length_take]; omega
      rw [htl] at HFM ⊢
      clear hb HKR HQ
      go_wp2_with fail
      refine (D1.out _ _ _ HK1.out.a HFM.out (HTA.out _ HK1.out.below).1 (HTA.out _ HK1.out.below).2).mono ?_
      rintro e21 w21 ⟨rfl, hb⟩
      have HK2 := Lib.hid (HK1.out.later hb)
      have HQ2 := Lib.hid (HQ1.out.below hb)
      clear hb HK1 HQ1 HFM
      go_wp2_with fail
      refine (rOf64_any _ _ _ HQ2.out).mono ?_
      rintro e22 w22 ⟨fq, rfl, hfq, hb⟩
      have HFQ := Lib.hid hfq
      have HK3 := Lib.hid (HK2.out.later hb)
      obtain ⟨qa, qd, rfl, -⟩ := hfq
      have hql : (ord.map fun i => m.getD i 0).length = l.length := by rw [List.length_map, hol]
      rw [hql] at HFQ ⊢
      clear hb HK2 HQ2
      go_wp2_with fail
      refine (D2.out _ _ _ HK3.out.b HFQ.out (HTA.out _ HK3.out.below).1 (HTA.out _ HK3.out.below).2).mono ?_
      rintro e23 w23 ⟨rfl, hb⟩
      have HK4 := Lib.hid (HK3.out.later hb)
      clear hb HK3 HFQ
      go_wp2_with fail
      refine (D3.out _).mono ?_
      rintro e24 w24 ⟨rfl, hb⟩
      have HB5 := Lib.hid (HK4.out.later hb).below
      clear hb HK4
      go_wp2
      go_ret
      exact ⟨rfl, HB5.out⟩

end Go.Proofs.YtphaikdbldfpaaaGreatDoor
