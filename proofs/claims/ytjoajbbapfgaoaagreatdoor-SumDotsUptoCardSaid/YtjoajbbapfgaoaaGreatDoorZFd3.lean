/- Walk: the references' exact dot product; the same products, by their signs. -/
import Derived.Test.YtjoajbbapfgaoaaGreatDoorZFd2
import Derived.Test.YtjoajbbapfgaoaaGreatDoorZFlb
import Derived.Test.YtjoajbbapfgaoaaGreatDoorGR
namespace Go.Proofs.YtjoajbbapfgaoaaGreatDoor
open Go.RowKit

theorem read_cls {x : Nat} (h : x < 18446744073709551616) (hn : nanB x = false) :
    (finB x = false ∧ ∃ s, F6.read x = .infinity s ∧ outB x = x) ∨ (finB x = true ∧ ∃ s m e n f, F6.read x = .number s m e ∧ F6.read (outB x) = .number s n f ∧ (m = 0 ↔ n = 0)) := by
  have hle : x % kSign ≤ kInf := by unfold nanB at hn; simpa using hn
  rcases fin_word hle with ⟨h1, h2⟩ | ⟨h1, h2⟩
  · right
    refine ⟨h1, ?_⟩
    have hr := read_fin h h1
    by_cases h0 : x % kSign = 0
    · refine ⟨sgnB x, mantB x, expB x, mantB x, expB x, hr, ?_, Iff.rfl⟩
      have : outB x = x := by unfold outB; rw [if_neg (fun h => h.2 h0)]
      rw [this]; exact hr
    · have hm : mantB x ≠ 0 := fun hm => by
        have h3 := valZ_word h h1
        rw [bne, order_zero h h1, decide_eq_true (valZ_zero.2 hm), decide_eq_false h0] at h3
        cases h3
      have ho : outB x = cpB (sgnB x) 4607182418800017408 := by unfold outB; rw [if_pos ⟨h1, h0⟩]
      refine ⟨_, _, _, 4503599627370496, -52, hr, ?_, ⟨fun h => absurd h hm, fun h => by cases h⟩⟩
      rw [ho]
      cases sgnB x <;> decide
  · left
    refine ⟨h1, ?_⟩
    have ho : outB x = x := by unfold outB; rw [if_neg (fun h => by rw [h1] at h; cases h.1)]
    refine ⟨(x / kSign % 2 == 1), ?_, ho⟩
    unfold Ieee.Format.read
    simp only [F6_binade, F6_inf, F6_sign]
    rw [h2, if_neg (by decide), if_neg (by omega), if_pos rfl]

theorem write_inf (s : Bool) : F6.write (.infinity s) = kInf ∨ F6.write (.infinity s) = kSign + kInf := by
  show F6.word s F6.infRung = _ ∨ F6.word s F6.infRung = _
  rw [F6_word, F6_inf]
  cases s
  · left; simp
  · right; rfl

/-- The product of two of which one is no finite number: the signs alone matter; it is none either. -/
theorem mul_out {x y : Nat} (hx : x < 18446744073709551616) (hy : y < 18446744073709551616) (hf : (finB x && finB y) = false) :
    oA .mul (some (outB x)) (some (outB y)) = oA .mul (some x) (some y) ∧ (oA .mul (some x) (some y) = none ∨ oA .mul (some x) (some y) = some kInf ∨ oA .mul (some x) (some y) = some (kSign + kInf)) := by
  have hnanout : ∀ {a : Nat}, nanB a = true → outB a = a := fun {a} h => by
    unfold outB
    rw [if_neg]
    rintro ⟨h1, -⟩
    rw [nan_fin h1] at h; cases h
  by_cases hnx : nanB x = true
  · have e1 : oA .mul (some x) (some y) = none := bits_nan (op := .mul) (u := x) (v := y) (.inl hnx)
    have e2 : oA .mul (some (outB x)) (some (outB y)) = none := by rw [hnanout hnx]; exact bits_nan (op := .mul) (u := x) (v := outB y) (.inl hnx)
    rw [e1, e2]; exact ⟨rfl, .inl rfl⟩
  by_cases hny : nanB y = true
  · have e1 : oA .mul (some x) (some y) = none := bits_nan (op := .mul) (u := x) (v := y) (.inr hny)
    have e2 : oA .mul (some (outB x)) (some (outB y)) = none := by rw [hnanout hny]; exact bits_nan (op := .mul) (u := outB x) (v := y) (.inr hny)
    rw [e1, e2]; exact ⟨rfl, .inl rfl⟩
  have cx := read_cls hx (by simpa using hnx)
  have cy := read_cls hy (by simpa using hny)
  show ((F6.read (outB x)).product (F6.read (outB y))).map F6.write = ((F6.read x).product (F6.read y)).map F6.write ∧ (((F6.read x).product (F6.read y)).map F6.write = none ∨ ((F6.read x).product (F6.read y)).map F6.write = some kInf ∨ ((F6.read x).product (F6.read y)).map F6.write = some (kSign + kInf))
  rcases cx with ⟨fx, s, rx, ox⟩ | ⟨fx, s, m, e, n, f, rx, ox, hz⟩
  · rw [ox, rx]
    rcases cy with ⟨fy, t, ry, oy⟩ | ⟨fy, t, m, e, n, f, ry, oy, hz⟩
    · rw [oy, ry]
      refine ⟨rfl, .inr ?_⟩
      show some (F6.write (.infinity (s ^^ t))) = _ ∨ some (F6.write (.infinity (s ^^ t))) = _
      rcases write_inf (s ^^ t) with h | h <;> rw [h] <;> simp
    · rw [oy, ry]
      show Option.map F6.write (if n = 0 then none else some (.infinity (s ^^ t))) = Option.map F6.write (if m = 0 then none else some (.infinity (s ^^ t))) ∧ (Option.map F6.write (if m = 0 then none else some (.infinity (s ^^ t))) = none ∨ Option.map F6.write (if m = 0 then none else some (.infinity (s ^^ t))) = some kInf ∨ Option.map F6.write (if m = 0 then none else some (.infinity (s ^^ t))) = some (kSign + kInf))
      by_cases hm : m = 0
      · rw [if_pos hm, if_pos (hz.1 hm)]; exact ⟨rfl, .inl rfl⟩
      · rw [if_neg hm, if_neg (fun h => hm (hz.2 h))]
        refine ⟨rfl, .inr ?_⟩
        show some (F6.write (.infinity (s ^^ t))) = _ ∨ some (F6.write (.infinity (s ^^ t))) = _
        rcases write_inf (s ^^ t) with h | h <;> rw [h] <;> simp
  · rcases cy with ⟨fy, t, ry, oy⟩ | ⟨fy, -⟩
    · rw [oy, ry, ox, rx]
      show Option.map F6.write (if n = 0 then none else some (.infinity (t ^^ s))) = Option.map F6.write (if m = 0 then none else some (.infinity (t ^^ s))) ∧ (Option.map F6.write (if m = 0 then none else some (.infinity (t ^^ s))) = none ∨ Option.map F6.write (if m = 0 then none else some (.infinity (t ^^ s))) = some kInf ∨ Option.map F6.write (if m = 0 then none else some (.infinity (t ^^ s))) = some (kSign + kInf))
      by_cases hm : m = 0
      · rw [if_pos hm, if_pos (hz.1 hm)]; exact ⟨rfl, .inl rfl⟩
      · rw [if_neg hm, if_neg (fun h => hm (hz.2 h))]
        refine ⟨rfl, .inr ?_⟩
        show some (F6.write (.infinity (t ^^ s))) = _ ∨ some (F6.write (.infinity (t ^^ s))) = _
        rcases write_inf (t ^^ s) with h | h <;> rw [h] <;> simp
    · rw [fx, fy] at hf; cases hf

theorem spcF_snoc (l : List Nat) (u : Nat) : spcF (l ++ [u]) = if spcB u then (oA .add (spcF l).1 (some u), true) else spcF l := by
  unfold spcF; rw [List.foldl_append]; rfl

/-- One product more. -/
theorem spcF_mul {us : List Nat} {x y u : Nat} {s : Option Nat × Bool} (hs : spcF us = s) (hx : x < 18446744073709551616) (hy : y < 18446744073709551616) (hf : (finB x && finB y) = false) (hu : Rep (oA .mul (some x) (some y)) u) :
    spcF (us ++ [u]) = (oA .add s.1 (oA .mul (some (outB x)) (some (outB y))), true) := by
  obtain ⟨h1, h2⟩ := mul_out hx hy hf
  rw [spcF_snoc, hs, h1]
  rcases h2 with h2 | h2 | h2
  · rw [h2] at hu ⊢
    have hn : nanB u = true := hu.2
    rw [if_pos (by unfold spcB; rw [hn]; rfl)]
    congr 1
    cases s.1 with
    | none => rfl
    | some y => exact bits_nan (op := .add) (u := y) (.inr hn)
  · rw [h2] at hu ⊢
    rw [show u = kInf from hu.2, if_pos (by decide)]
  · rw [h2] at hu ⊢
    rw [show u = kSign + kInf from hu.2, if_pos (by decide)]

theorem fls_snoc (us : List Nat) (u : Nat) : fls64 (us ++ [u]) = fls64 us ++ [Value.float .f64 u] := by unfold fls64; rw [List.map_append]; rfl

set_option maxRecDepth 100000 in
set_option maxHeartbeats 400000 in
theorem rdotX_bad (va vb : Value) (l m : List Nat) (w : World) (hl : FSl w va l) (hm : FSl w vb m) (hlm : l.length ≠ m.length) :
    Calls Tryz.prog 79 #[va, vb] w (Gives (.tuple #[.float .f64 0, .int .i64 3]) w) := by
  obtain ⟨ao, cap, rfl, -⟩ := hl
  obtain ⟨bo, dap, rfl, -⟩ := hm
  have hne : ((l.length : Int) != (m.length : Int)) = true := by simp; omega
  clear hlm
  go_enter Tryz.func79, Tryz.ntmps79
  go_wp2
  go_ret2
  exact ⟨rfl, Below.refl _ _⟩

set_option maxRecDepth 100000 in
set_option maxHeartbeats 400000 in
theorem rdotX_long (va vb : Value) (l m : List Nat) (w : World) (hl : FSl w va l) (hm : FSl w vb m) (hlm : l.length = m.length) (hlen : 4096 < l.length) :
    Calls Tryz.prog 79 #[va, vb] w (Gives (.tuple #[.float .f64 0, .int .i64 2]) w) := by
  obtain ⟨ao, cap, rfl, -⟩ := hl
  obtain ⟨bo, dap, rfl, -⟩ := hm
  have hne : ((l.length : Int) != (m.length : Int)) = false := by simp; omega
  have hci : decide ((4096 : Int) < (l.length : Int)) = true := by simp; omega
  clear hlm hlen
  go_enter Tryz.func79, Tryz.ntmps79
  go_wp2
  go_ret2
  exact ⟨rfl, Below.refl _ _⟩

set_option maxRecDepth 100000 in
set_option maxHeartbeats 4000000 in
theorem rdotX_ok (va vb : Value) (l m : List Nat) (w : World) (hl : FSl w va l) (hm : FSl w vb m) (hlm : l.length = m.length) (hlen : l.length ≤ 4096) (hT : Tab32 w) (hTs : 2 < w.heap.size) :
    Calls Tryz.prog 79 #[va, vb] w (Gives (.tuple #[.float .f64 (dexB l m), .int .i64 0]) w) := by
  obtain ⟨i0, hi, hz0, hz1, hz2⟩ := info_parts Tryz.info26
  have HL := Lib.hid hl
  have HM := Lib.hid hm
  have HT := Lib.hid (And.intro hT hTs)
  have HALL := Lib.hid (dspU_all hlm)
  have HDT : Hid ((dspU l m l.length).2 = false → ∀ va vb W, FSl W va l → FSl W vb m → Calls Tryz.prog 41 #[va, vb] W (RxAny (foldS (dts l m)).1 (foldS (dts l m)).2 W)) :=
    Lib.hid fun h va vb W h1 h2 => rDot_any va vb l m W h1 h2 hlm (HALL.out h).1 (HALL.out h).2
  have HBD : Hid ((dspU l m l.length).2 = false → ∀ b W, RInt W b (foldS (dts l m)).1 → Tab32 W → 2 < W.heap.size → Calls Tryz.prog 33 #[ExV b (foldS (dts l m)).2, .int .i64 0] W (Gives (.float .f64 (rndX (foldS (dts l m)).1 (foldS (dts l m)).2 0)) W)) := Lib.hid fun h b W hi ht hts => by
    have h1 := dts_small hlm (by omega) (HALL.out h).1 (HALL.out h).2 l.length (Nat.le_refl _)
    rw [List.take_of_length_le (by rw [dts_length hlm]; exact Nat.le_refl _)] at h1
    exact rRound_any b _ _ 0 W hi (by omega) (by omega) (by omega) (by decide) (by decide) ht hts
  have HE1 := Lib.hid (dexB_spc (l := l) (m := m))
  have HE3 := Lib.hid (dexB_fin (l := l) (m := m))
  obtain ⟨ao, cap, rfl, hcap, hn, hx, hc⟩ := hl
  obtain ⟨bo, dap, rfl, hdap, hn2, hx2, hc2⟩ := hm
  have hne : ((l.length : Int) != (m.length : Int)) = false := by simp; omega
  have hci : decide ((4096 : Int) < (l.length : Int)) = false := by simp; omega
  have HC := Lib.hid hc
  have HX := Lib.hid hx
  have HC2 := Lib.hid hc2
  have HX2 := Lib.hid hx2
  have hmul : ∀ t u v w, (binOp .mul t (.float .f64 u) (.float .f64 v)).run Tryz.prog w = .ok (.float .f64 (fV .mul u v w)) (fN .mul u v w) := fun t u v w => run_float_any .mul (.inr (.inr (.inl rfl))) t u v w
  have hml : l.length ≤ m.length := by omega
  have hl4 : l.length ≤ 4096 := hlen
  generalize dexB l m = R at *
  generalize rndX (foldS (dts l m)).1 (foldS (dts l m)).2 0 = RX at *
  generalize (foldS (dts l m)).1 = Z at *
  generalize (foldS (dts l m)).2 = E at *
  clear hc hx hc2 hx2 hlm hT hTs hlen
  go_enter Tryz.func79, Tryz.ntmps79
  go_wp2
  go_loopw [6, 20] (fun s i wr => ∃ (k n : Nat) (us : List Nat), k ≤ l.length ∧ n ≤ k ∧ i = .int .i64 k ∧ Hid (us.length = n ∧ wr.ownsRow w.heap.size 26 1 s n (fls64 us) ∧ (∀ x ∈ us, x < 18446744073709551616) ∧ spcF us = dspU l m k) ∧ Hid (Below w.heap.size w wr)) (fun _ i _ => l.length - (intOf i).toNat)
  case atStart => exact ⟨0, 0, [], Nat.zero_le _, Nat.le_refl _, rfl, Lib.hid ⟨rfl, World.ownsRow_nil _ _ _ _, by simp, rfl⟩, Lib.hid (Below.refl _ _)⟩
  case round =>
    obtain ⟨k, n, us, hk, hnk, rfl, HR, HB⟩ := hrel
    obtain ⟨ao2, cap2, rfl⟩ := owns_shape HR.out.2.1
    by_cases hlt : k < l.length
    · have hlt2 : k < m.length := by omega
      obtain ⟨b, off, rfl, hb, hcc⟩ := HC.out (by omega)
      obtain ⟨b2, off2, rfl, hb2, hcc2⟩ := HC2.out (by omega)
      have HCK : Hid (∀ W, Below w.heap.size w W → W.cell? ⟨b, off + k, none⟩ = some (.float .f64 l[k]) ∧ W.cell? ⟨b2, off2 + k, none⟩ = some (.float .f64 m[k])) :=
        Lib.hid fun W hW => ⟨(hW.cell (p := ⟨b, off + k, none⟩) hb).trans (hcc k hlt), (hW.cell (p := ⟨b2, off2 + k, none⟩) hb2).trans (hcc2 k hlt2)⟩
      have hck := (HCK.out wr HB.out).1
      have HXK := Lib.hid (And.intro (HX.out _ (List.getElem_mem hlt)) (HX2.out _ (List.getElem_mem hlt2)))
      have HU1 := Lib.hid (dspU_fin hlt hlt2)
      have HU2 := Lib.hid (dspU_inf hlt hlt2)
      have hk1 : (0 : Int) ≤ (k : Int) := by omega
      have hk2 : (k : Int) < (l.length : Int) := by omega
      have hk3 : (k : Int) < (m.length : Int) := by omega
      clear hcc hcc2
      generalize l[k] = x at *
      generalize m[k] = y at *
      go_wp2_with fail
      refine (rFinite_any x _ HXK.out.1).mono ?_
      rintro e1 w1 ⟨rfl, hb1⟩
      have HW1 : Hid (∀ {W}, Below wr.heap.size wr W → wr.heap.size ≤ W.heap.size) := Lib.hid fun h => h.size
      replace HR : Hid (us.length = n ∧ w1.ownsRow w.heap.size 26 1 (.slice ao2 n cap2) n (fls64 us) ∧ (∀ x ∈ us, x < 18446744073709551616) ∧ spcF us = dspU l m k) := Lib.hid ⟨HR.out.1, HR.out.2.1.kept (grown_of_below hb1) (by cases (Value.slice ao2 n cap2).ownBlock <;> simp), HR.out.2.2⟩
      replace HB := Lib.hid (HB.out.trans (hb1.mono HB.out.size))
      have hck2 := (HCK.out w1 HB.out).2
      clear hb1 hck HW1
      cases hfx : finB x
      · have HFF : Hid ((finB x && finB y) = false) := Lib.hid (by rw [hfx]; rfl)
        clear hfx
        have HS : Hid (∀ u, Rep (oA .mul (some x) (some y)) u → spcF (us ++ [u]) = dspU l m (k + 1) ∧ ∀ z ∈ us ++ [u], z < 18446744073709551616) := Lib.hid fun u hu => by
          rw [HU2.out HFF.out]
          refine ⟨spcF_mul HR.out.2.2.2 HXK.out.1 HXK.out.2 HFF.out hu, fun z hz => ?_⟩
          rw [List.mem_append, List.mem_singleton] at hz
          rcases hz with hz | hz
          · exact HR.out.2.2.1 z hz
          · rw [hz]; exact hu.1
        have HRP : Hid (∀ W, Rep (oA .mul (some x) (some y)) (fV .mul x y W)) := Lib.hid fun W => (Rep.of HXK.out.1).op (Rep.of HXK.out.2) W
        clear HU1 HU2 HFF
        try clear hck2
        go_wp2
        refine wp_region_pl (fun w' : World => w'.cell? ⟨b, off + k, none⟩ = some (.float .f64 x) ∧ w'.cell? ⟨b2, off2 + k, none⟩ = some (.float .f64 y)) 11 (.take 0 (.take 1 (.take 2 (.take 3 (.take 4 (.take 5 (.take 6 (.take 7 (.take 8 (.run 9 (.run 10 .nil))))))))))) (by kernel_rfl) (by kernel_rfl) ?_
        replace HR : Hid (us.length = n ∧ w1.drew.ownsRow w.heap.size 26 1 (.slice ao2 n cap2) n (fls64 us)) := Lib.hid ⟨HR.out.1, HR.out.2.1.kept (grown_of_below (drew_below w1)) (by cases (Value.slice ao2 n cap2).ownBlock <;> simp)⟩
        replace HB := Lib.hid (HB.out.trans ((drew_below w1).mono HB.out.size))
        generalize w1.drew = W3 at HB HR ⊢
        have hS : (fun w' : World => w'.cell? ⟨b, off + k, none⟩ = some (.float .f64 x) ∧ w'.cell? ⟨b2, off2 + k, none⟩ = some (.float .f64 y)) W3 := HCK.out _ HB.out
        repeat (refine wpPl_takeL (v := ?_) rfl rfl (fun _ _ _ h => h) rfl (fun w' hSw => ?_) hS ?_; rotate_left; (focus (go_simp; with_reducible rfl)); simp only [List.setIfInBounds_toArray, List.set_cons_zero, List.set_cons_succ])
        clear hS
        refine wpPl_goL rfl rfl fun K' hK => ?_
        go_simp
        have HFB := Lib.hid (fN_below .mul x y W3)
        replace HR : Hid (us.length = n ∧ (fN .mul x y W3).ownsRow w.heap.size 26 1 (.slice ao2 n cap2) n (fls64 us)) := Lib.hid ⟨HR.out.1, HR.out.2.kept (grown_of_below HFB.out) (by cases (Value.slice ao2 n cap2).ownBlock <;> simp)⟩
        replace HB := Lib.hid (HB.out.trans (HFB.out.mono HB.out.size))
        refine hK _ _ (HCK.out _ HB.out) ?_
        clear hK K' HFB
        have HU := Lib.hid (HRP.out W3)
        generalize fV .mul x y W3 = u at *
        generalize fN .mul x y W3 = W4 at HR HB ⊢
        refine wpPl_goL rfl rfl fun K' hK => ?_
        go_simp
        refine hK _ _ (HCK.out _ (HB.out.alloc HB.out.size _)) ?_
        clear hK K'
        refine wpPl_nil ?_
        simp only [List.drop_succ_cons, List.drop_zero]
        have HOW := Lib.hid fun o => HR.out.2.kept (grown_of_below (Below.alloc_self W4 o)) (by cases (Value.slice ao2 n cap2).ownBlock <;> simp)
        have HNW := Lib.hid fun W => cell_one_new W (.float .f64 u) 26
        go_wp2_with (at_builtin; refine wpList_append_own _ rfl _ _ 61 rfl w.heap.size 26 i0 (.float .f64 0) 1 8 Tryz.underlying61 hi hz0 hz1 hz2 rfl (by decide) _ _ _ rfl (HOW.out _) ⟨_, 0, none⟩ 1 1 [.float .f64 u] rfl rfl (HNW.out _) ?_ ?_ ?_ ?_ ?_)
        · intro u hu; simp only [List.mem_singleton] at hu; subst hu; rfl
        · unfold maxLen; omega
        · omega
        · exact Nat.le_trans HB.out.size (by simp)
        intro v' U4 hown hgrow _
        rw [← fls_snoc] at hown
        have HR2 := Lib.hid hown
        have HB2 := Lib.hid ((HB.out.trans ((Below.alloc_self W4 _).mono HB.out.size)).grown hgrow (Nat.le_trans HB.out.size (by simp)) (fun j hj => (HR.out.2.lt j hj).1))
        obtain ⟨ao', cap', hv'⟩ := owns_shape hown
        rw [hv'] at HR2 ⊢
        clear hown hgrow hv' HNW HOW
        go_wp2
        go_roundw
        case rel => exact ⟨k + 1, n + 1, us ++ [u], by omega, by omega, by go_num, Lib.hid ⟨by simp [HR.out.1], HR2.out, (HS.out u HU.out).2, (HS.out u HU.out).1⟩, HB2⟩
        case measure => simp [intOf]; omega
      · go_wp2_with fail
        refine (rFinite_any y _ HXK.out.2).mono ?_
        rintro e2 w2 ⟨rfl, hb2'⟩
        replace HR : Hid (us.length = n ∧ w2.ownsRow w.heap.size 26 1 (.slice ao2 n cap2) n (fls64 us) ∧ (∀ x ∈ us, x < 18446744073709551616) ∧ spcF us = dspU l m k) := Lib.hid ⟨HR.out.1, HR.out.2.1.kept (grown_of_below hb2') (by cases (Value.slice ao2 n cap2).ownBlock <;> simp), HR.out.2.2⟩
        replace HB := Lib.hid (HB.out.trans (hb2'.mono HB.out.size))
        clear hb2' hck2
        cases hfy : finB y
        · have HFF : Hid ((finB x && finB y) = false) := Lib.hid (by rw [hfx, hfy]; rfl)
          clear hfx hfy
          have HS : Hid (∀ u, Rep (oA .mul (some x) (some y)) u → spcF (us ++ [u]) = dspU l m (k + 1) ∧ ∀ z ∈ us ++ [u], z < 18446744073709551616) := Lib.hid fun u hu => by
            rw [HU2.out HFF.out]
            refine ⟨spcF_mul HR.out.2.2.2 HXK.out.1 HXK.out.2 HFF.out hu, fun z hz => ?_⟩
            rw [List.mem_append, List.mem_singleton] at hz
            rcases hz with hz | hz
            · exact HR.out.2.2.1 z hz
            · rw [hz]; exact hu.1
          have HRP : Hid (∀ W, Rep (oA .mul (some x) (some y)) (fV .mul x y W)) := Lib.hid fun W => (Rep.of HXK.out.1).op (Rep.of HXK.out.2) W
          clear HU1 HU2 HFF
          try clear hck2
          go_wp2
          refine wp_region_pl (fun w' : World => w'.cell? ⟨b, off + k, none⟩ = some (.float .f64 x) ∧ w'.cell? ⟨b2, off2 + k, none⟩ = some (.float .f64 y)) 11 (.take 0 (.take 1 (.take 2 (.take 3 (.take 4 (.take 5 (.take 6 (.take 7 (.take 8 (.run 9 (.run 10 .nil))))))))))) (by kernel_rfl) (by kernel_rfl) ?_
          replace HR : Hid (us.length = n ∧ w2.drew.ownsRow w.heap.size 26 1 (.slice ao2 n cap2) n (fls64 us)) := Lib.hid ⟨HR.out.1, HR.out.2.1.kept (grown_of_below (drew_below w2)) (by cases (Value.slice ao2 n cap2).ownBlock <;> simp)⟩
          replace HB := Lib.hid (HB.out.trans ((drew_below w2).mono HB.out.size))
          generalize w2.drew = W3 at HB HR ⊢
          have hS : (fun w' : World => w'.cell? ⟨b, off + k, none⟩ = some (.float .f64 x) ∧ w'.cell? ⟨b2, off2 + k, none⟩ = some (.float .f64 y)) W3 := HCK.out _ HB.out
          repeat (refine wpPl_takeL (v := ?_) rfl rfl (fun _ _ _ h => h) rfl (fun w' hSw => ?_) hS ?_; rotate_left; (focus (go_simp; with_reducible rfl)); simp only [List.setIfInBounds_toArray, List.set_cons_zero, List.set_cons_succ])
          clear hS
          refine wpPl_goL rfl rfl fun K' hK => ?_
          go_simp
          have HFB := Lib.hid (fN_below .mul x y W3)
          replace HR : Hid (us.length = n ∧ (fN .mul x y W3).ownsRow w.heap.size 26 1 (.slice ao2 n cap2) n (fls64 us)) := Lib.hid ⟨HR.out.1, HR.out.2.kept (grown_of_below HFB.out) (by cases (Value.slice ao2 n cap2).ownBlock <;> simp)⟩
          replace HB := Lib.hid (HB.out.trans (HFB.out.mono HB.out.size))
          refine hK _ _ (HCK.out _ HB.out) ?_
          clear hK K' HFB
          have HU := Lib.hid (HRP.out W3)
          generalize fV .mul x y W3 = u at *
          generalize fN .mul x y W3 = W4 at HR HB ⊢
          refine wpPl_goL rfl rfl fun K' hK => ?_
          go_simp
          refine hK _ _ (HCK.out _ (HB.out.alloc HB.out.size _)) ?_
          clear hK K'
          refine wpPl_nil ?_
          simp only [List.drop_succ_cons, List.drop_zero]
          have HOW := Lib.hid fun o => HR.out.2.kept (grown_of_below (Below.alloc_self W4 o)) (by cases (Value.slice ao2 n cap2).ownBlock <;> simp)
          have HNW := Lib.hid fun W => cell_one_new W (.float .f64 u) 26
          go_wp2_with (at_builtin; refine wpList_append_own _ rfl _ _ 61 rfl w.heap.size 26 i0 (.float .f64 0) 1 8 Tryz.underlying61 hi hz0 hz1 hz2 rfl (by decide) _ _ _ rfl (HOW.out _) ⟨_, 0, none⟩ 1 1 [.float .f64 u] rfl rfl (HNW.out _) ?_ ?_ ?_ ?_ ?_)
          · intro u hu; simp only [List.mem_singleton] at hu; subst hu; rfl
          · unfold maxLen; omega
          · omega
          · exact Nat.le_trans HB.out.size (by simp)
          intro v' U4 hown hgrow _
          rw [← fls_snoc] at hown
          have HR2 := Lib.hid hown
          have HB2 := Lib.hid ((HB.out.trans ((Below.alloc_self W4 _).mono HB.out.size)).grown hgrow (Nat.le_trans HB.out.size (by simp)) (fun j hj => (HR.out.2.lt j hj).1))
          obtain ⟨ao', cap', hv'⟩ := owns_shape hown
          rw [hv'] at HR2 ⊢
          clear hown hgrow hv' HNW HOW
          go_wp2
          go_roundw
          case rel => exact ⟨k + 1, n + 1, us ++ [u], by omega, by omega, by go_num, Lib.hid ⟨by simp [HR.out.1], HR2.out, (HS.out u HU.out).2, (HS.out u HU.out).1⟩, HB2⟩
          case measure => simp [intOf]; omega
        · have HS : Hid (dspU l m (k + 1) = dspU l m k) := Lib.hid (HU1.out (by rw [hfx, hfy]; rfl))
          clear HU1 HU2 hfx hfy
          go_wp2
          go_roundw
          case rel => exact ⟨k + 1, n, us, by omega, by omega, by go_num, Lib.hid ⟨HR.out.1, HR.out.2.1, HR.out.2.2.1, by rw [HS.out]; exact HR.out.2.2.2⟩, HB⟩
          case measure => simp [intOf]; omega
    · obtain rfl : k = l.length := by omega
      have HFS : Hid (FSl wr (.slice ao2 n cap2) us) := Lib.hid (FSl.of_owns (base := w.heap.size) (t := 26) (by rw [HR.out.1]; exact HR.out.2.1) (by rw [HR.out.1]; omega) HR.out.2.2.1)
      have hsp := spc_same us HR.out.2.2.1
      rw [HR.out.2.2.2] at hsp
      have HSP := Lib.hid hsp
      clear hsp
      have HCL := Lib.hid (rSpecial_any _ us wr HFS.out)
      cases hfd : (dspU l m l.length).2
      · have HFD := Lib.hid hfd
        obtain rfl : R = RX := HE3.out hfd
        have HS1 : Hid ((rspcB us).2 = false) := Lib.hid (HSP.out.1.trans hfd)
        rw [HS1.out] at HCL
        have HDT2 := Lib.hid (HDT.out hfd)
        have HBD2 := Lib.hid (HBD.out hfd)
        clear HDT HBD HE1 HE3 hfd HSP HS1
        go_wp2_with fail
        refine HCL.out.mono ?_
        rintro e2 w2 ⟨rfl, hb2⟩
        replace HB := Lib.hid (HB.out.trans (hb2.mono HB.out.size))
        clear hb2 HCL HR HFS
        go_wp2_with fail
        refine (HDT2.out _ _ _ (HL.out.below HB.out) (HM.out.below HB.out)).mono ?_
        rintro e3 w3 ⟨q, rfl, hi3, hb3⟩
        have HB3 := Lib.hid (HB.out.trans (hb3.mono HB.out.size))
        have HI3 := Lib.hid hi3
        clear hi3 hb3
        unfold ExV at *
        go_wp2_with fail
        refine (HBD2.out q _ HI3.out (HT.out.1.below HT.out.2 HB3.out) (Nat.lt_of_lt_of_le HT.out.2 HB3.out.size)).mono ?_
        rintro e4 w4 ⟨rfl, hb4⟩
        have HB4 := Lib.hid (HB3.out.trans (hb4.mono HB3.out.size))
        clear hb4
        go_wp2
        go_ret2
        exact ⟨rfl, HB4.out⟩
      · have HRR : Hid (R = (rspcB us).1) := Lib.hid (by rw [HE1.out hfd, HSP.out.2 hfd])
        have HS1 : Hid ((rspcB us).2 = true) := Lib.hid (HSP.out.1.trans hfd)
        rw [HS1.out, ← HRR.out] at HCL
        clear HDT HBD HE1 HE3 hfd HSP HS1 HRR
        go_wp2_with fail
        refine HCL.out.mono ?_
        rintro e2 w2 ⟨rfl, hb2⟩
        replace HB := Lib.hid (HB.out.trans (hb2.mono HB.out.size))
        clear hb2 HCL HR HFS
        go_wp2
        go_ret2
        exact ⟨rfl, HB.out⟩

end Go.Proofs.YtjoajbbapfgaoaaGreatDoor
