/- Walk: sum.Exact. -/
import Derived.Test.YtjoajbbapfgaoaaGreatDoorZFl6
namespace Go.Proofs.YtjoajbbapfgaoaaGreatDoor
open Go.RowKit

/-- The exact sum, rounded once. -/
def exB (l : List Nat) : Nat := if (spcF l).2 then cO (spcF l).1 else if ngtB l then kSign else rndX (foldS (prs l)).1 (foldS (prs l)).2 0

theorem exB_spc {l : List Nat} (h : (spcF l).2 = true) : exB l = cO (spcF l).1 := if_pos h
theorem exB_ngt {l : List Nat} (h : (spcF l).2 = false) (h2 : ngtB l = true) : exB l = kSign := by unfold exB; rw [h, h2]; rfl
theorem exB_fin {l : List Nat} (h : (spcF l).2 = false) (h2 : ngtB l = false) : exB l = rndX (foldS (prs l)).1 (foldS (prs l)).2 0 := by unfold exB; rw [h, h2]; rfl

theorem spc_any (l : List Nat) : (spcF l).2 = l.any spcB := by
  have key : ∀ (l : List Nat) (s : Option Nat × Bool), (l.foldl (fun s x => if spcB x then (oA .add s.1 (some x), true) else s) s).2 = (s.2 || l.any spcB) := by
    intro l
    induction l with
    | nil => intro s; simp
    | cons x l ih =>
      intro s
      rw [List.foldl_cons, ih, List.any_cons]
      cases h : spcB x
      · simp
      · simp
  unfold spcF
  rw [key]; rfl

theorem spcB_fin {x : Nat} : spcB x = !finB x := by
  unfold spcB
  by_cases hn : nanB x = true
  · rw [hn, Bool.true_or]
    cases hf : finB x
    · rfl
    · rw [nan_fin hf] at hn; cases hn
  · have hn2 : nanB x = false := by simpa using hn
    rw [hn2, Bool.false_or]
    have hle : x % kSign ≤ kInf := by unfold nanB at hn2; simpa using hn2
    rcases fin_word hle with h | h
    · rw [h.1, decide_eq_false (by omega)]; rfl
    · rw [h.1, decide_eq_true h.2]; rfl

theorem spc_fin {l : List Nat} : (spcF l).2 = false ↔ l.all finB = true := by
  rw [spc_any, List.any_eq_false, List.all_eq_true]
  constructor
  · intro h x hx
    have := h x hx
    rw [spcB_fin] at this
    simpa using this
  · intro h x hx
    rw [spcB_fin, h x hx]; simp

theorem rndX_hv (z e mode : Int) : rndB (hvZ z) (nrE z e) mode = rndX z e mode := by
  unfold rndX
  by_cases h0 : z = 0
  · subst h0
    rw [if_pos rfl, hvZ_zero, show nrE 0 e = 0 from if_pos rfl, rnd_zero 0 mode rfl]
  · rw [if_neg h0]
    have h1 : 0 ≤ e + (e.natAbs : Int) := by omega
    rw [rnd_sc (M := (e.natAbs : Int)) (hvZ_ne h0) (nrE_ge (by omega) h1), sc_nr h1, ← rnd_sc h0 h1]

theorem good_hv {z e : Int} (h1 : bl z.natAbs ≤ 60000) (h2 : -30000 ≤ e) (h3 : e ≤ 30000) : GoodD (hvZ z) (nrE z e) := by
  refine ⟨nrm_hv z e, Nat.le_trans (bl_mono hvZ_natAbs_le) (by omega), ?_, ?_⟩
  · unfold nrE hvE; split <;> omega
  · have := tzb_le (N := z.natAbs)
    unfold nrE hvE; split <;> omega

set_option maxRecDepth 100000 in
set_option maxHeartbeats 800000 in
theorem exact_long (v : Value) (l : List Nat) (w : World) (hl : FSl w v l) (hlen : 4096 < l.length) :
    Calls Tryz.prog 54 #[v] w (Gives (.tuple #[.float .f64 0, .int .i64 2]) w) := by
  obtain ⟨ao, cap, rfl, hcap, hn, hx, hc⟩ := hl
  have hci : decide ((4096 : Int) < (l.length : Int)) = true := by simp; omega
  clear hc hx
  go_enter Tryz.func54, Tryz.ntmps54
  go_wp2
  go_ret2
  exact ⟨rfl, Below.refl _ _⟩

set_option maxRecDepth 100000 in
set_option maxHeartbeats 1600000 in
theorem exact_ok (v : Value) (l : List Nat) (w : World) (hl : FSl w v l) (hlen : l.length ≤ 4096) (hT : Tab64 w) (hTs : 1 < w.heap.size) :
    Calls Tryz.prog 54 #[v] w (Gives (.tuple #[.float .f64 (exB l), .int .i64 0]) w) := by
  have HL := Lib.hid hl
  have HT := Lib.hid (And.intro hT hTs)
  have HSP := Lib.hid fun W (h : FSl W v l) => special_any v l W h
  have HNG := Lib.hid fun W (h : FSl W v l) => noughts_any v l W h
  have HSM : Hid ((spcF l).2 = false → ∀ W, FSl W v l → Tab64 W → 1 < W.heap.size → Calls Tryz.prog 37 #[v] W (DyNew (hvZ (foldS (prs l)).1) (nrE (foldS (prs l)).1 (foldS (prs l)).2) W)) :=
    Lib.hid fun h W h1 h2 h3 => Sum_any v l W h1 (spc_fin.1 h) h2 h3
  have HGD : Hid ((spcF l).2 = false → GoodD (hvZ (foldS (prs l)).1) (nrE (foldS (prs l)).1 (foldS (prs l)).2)) := Lib.hid fun h => by
    have h1 := prs_small (l := l) (by omega) (spc_fin.1 h) l.length (Nat.le_refl _)
    rw [show (prs l).take l.length = prs l from List.take_of_length_le (by unfold prs; simp)] at h1
    exact good_hv (by omega) (by omega) (by omega)
  have HE1 := Lib.hid (exB_spc (l := l))
  have HE2 := Lib.hid (exB_ngt (l := l))
  have HE3 : Hid ((spcF l).2 = false → ngtB l = false → exB l = rndB (hvZ (foldS (prs l)).1) (nrE (foldS (prs l)).1 (foldS (prs l)).2) 0) := Lib.hid fun h h2 => by rw [exB_fin h h2, rndX_hv]
  have hci : decide ((4096 : Int) < (l.length : Int)) = false := by simp; omega
  obtain ⟨ao, cap, rfl, -⟩ := hl
  generalize exB l = R at *
  generalize cO (spcF l).1 = C at *
  generalize (spcF l).2 = fd at *
  generalize ngtB l = ng at *
  generalize hvZ (foldS (prs l)).1 = Z at *
  generalize nrE (foldS (prs l)).1 (foldS (prs l)).2 = E at *
  clear hT hTs hlen
  go_enter Tryz.func54, Tryz.ntmps54
  go_wp2_with fail
  refine (HSP.out _ HL.out).mono ?_
  rintro e1 w1 ⟨rfl, hb1⟩
  have HB1 := Lib.hid hb1
  clear hb1
  cases fd
  · go_wp2_with fail
    refine (HNG.out _ (HL.out.below HB1.out)).mono ?_
    rintro e2 w2 ⟨rfl, hb2⟩
    have HB2 := Lib.hid (HB1.out.trans (hb2.mono HB1.out.size))
    clear hb2
    cases ng
    · obtain rfl : R = rndB Z E 0 := HE3.out (by simp) (by simp)
      have HG := Lib.hid (HGD.out (by simp))
      go_wp2_with fail
      refine (HSM.out (by simp) _ (HL.out.below HB2.out) (HT.out.1.below HT.out.2 HB2.out) (Nat.lt_of_lt_of_le HT.out.2 HB2.out.size)).mono ?_
      rintro e3 w3 hd
      obtain ⟨da, dc, rfl, hr, -, hb3⟩ := hd.at
      have HB3 := Lib.hid ((HB2.out.trans (hb3.mono HB2.out.size)).alloc (HB2.out.trans (hb3.mono HB2.out.size)).size (.cells #[.bool (decide (Z < 0)), .slice da (ln 32 Z.natAbs) dc, .int .i64 E] 24))
      have HDA : Hid (DyAt (w3.alloc (.cells #[.bool (decide (Z < 0)), .slice da (ln 32 Z.natAbs) dc, .int .i64 E] 24)) (DyV (decide (Z < 0)) (.slice da (ln 32 Z.natAbs) dc) E) Z E) := Lib.hid ⟨_, rfl, hr.below (Below.alloc_self w3 _)⟩
      clear hd hr hb3 HE1 HE2 HE3 HSP HNG HSM HGD HL
      have HRD := Lib.hid fun v W (h : DyAt W v Z E) ht hts => dRound_any v Z E 0 W h HG.out (by decide) (by decide) ht hts
      generalize rndB Z E 0 = R at *
      unfold DyV at HDA
      generalize decide (Z < 0) = na at *
      generalize ln 32 Z.natAbs = la at *
      go_wp2_with fail
      refine (HRD.out _ _ HDA.out (HT.out.1.below HT.out.2 HB3.out) (Nat.lt_of_lt_of_le HT.out.2 HB3.out.size)).mono ?_
      rintro e4 w4 ⟨rfl, hb4⟩
      have HB4 := Lib.hid (HB3.out.trans (hb4.mono HB3.out.size))
      clear hb4
      go_wp2
      go_ret2
      exact ⟨rfl, HB4.out⟩
    · obtain rfl : R = kSign := HE2.out (by simp) (by simp)
      have HCP : Hid (cpB (sgnB 13830554455654793216) 0 = kSign) := Lib.hid (by decide)
      go_wp2_with fail
      refine (copysign_any 0 13830554455654793216 _ (by decide) (by decide)).mono ?_
      rintro e3 w3 ⟨rfl, hb3⟩
      rw [HCP.out]
      have HB3 := Lib.hid (HB2.out.trans (hb3.mono HB2.out.size))
      clear hb3
      go_wp2
      go_ret2
      exact ⟨rfl, HB3.out⟩
  · obtain rfl : R = C := HE1.out (by simp)
    go_wp2
    go_ret2
    exact ⟨rfl, HB1.out⟩

end Go.Proofs.YtjoajbbapfgaoaaGreatDoor
