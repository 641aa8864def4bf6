/- Walks: Lower, Upper (program, references). Printed by wip/gen/ch11.py. -/
import Derived.Test.YtfmecpembnmnkaaGreatDoorLC
import Derived.Test.YtfmecpembnmnkaaGreatDoorLA
namespace Go.Proofs.YtfmecpembnmnkaaGreatDoor
section
open Go.RowKit
attribute [local go_sem] run_store_f
def bO (b : List Nat) (i : Nat) : Fo := some (b.getD i 0)
theorem bO_rep {w : World} {bv : Value} {b : List Nat} (h : FSl w bv b) : ∀ i (hi : i < b.length), Rep (bO b i) b[i] := fun i hi => by
 unfold bO
 rw [List.getD_eq_getElem?_getD, List.getElem?_eq_getElem hi]
 exact ⟨h.elem_lt _ (List.getElem_mem hi), rfl⟩
def lstO (n : Nat) (x : Nat → Fo) : List Nat := (List.range n).map fun i => bitO (x i)
theorem lst_rep {n : Nat} {x : Nat → Fo} {l : List Nat} (hl : l.length = n) (hr : ∀ i (h : i < l.length), Rep (x i) l[i]) (hf : ∀ j, j < n → finO (x j) = true) : l = lstO n x := by
 refine List.ext_getElem (by unfold lstO; simp [hl]) fun i h1 h2 => ?_
 have e : (lstO n x)[i] = bitO (x i) := by simp [lstO]
 rw [e]
 exact (hr i h1).bits (hf i (by omega))
theorem fit_zero {n : Nat} {b : List Nat} (h : fitB n b = 0) : b.length = n ∧ b.all finB = true := by
 rw [fit_b] at h
 cases h1 : (b.length : Int) == (n : Int)
 ·rw [h1] at h; cases h
 ·rw [h1] at h
  have := eq_of_beq h1
  cases h2 : b.all finB
  ·rw [h2] at h; cases h
  ·exact ⟨by omega, rfl⟩
end
section
open Go.RowKit
attribute [local go_sem] run_store_f
def slvS (n : Nat) (R b : List Nat) : (Nat → Fo) × Bool := up (atO n R) (dn (atO n R) (bO b) false n).1 (dn (atO n R) (bO b) false n).2 n n
def slvE (r c : Int) (l b : List Nat) : Int := if evnB r c l ≠ 0 then evnB r c l else if fitB r b ≠ 0 then fitB r b else if cholE r c l ≠ 0 then cholE r c l else if (slvS r.toNat (cholL r c l) b).2 then 5 else 0
def slvP (r c : Int) (l b : List Nat) : Nat := if evnB r c l ≠ 0 then 0 else if fitB r b ≠ 0 then 0 else cholP r c l
def slvL (r c : Int) (l b : List Nat) : List Nat := if slvE r c l b = 0 then lstO r.toNat (slvS r.toNat (cholL r c l) b).1 else []
def LspA (E : Int) (P : Nat) (l : List Nat) (w : World) (e : Ending) (w' : World) : Prop :=
 ∃ u, e = .returned (.tuple #[u, .int .i64 P, .int .i64 E]) ∧ FSl w' u l ∧ (∀ a c d, u = .slice (some a) c d → w.heap.size ≤ a.block) ∧ Below w.heap.size w w'
theorem LspA.err {E : Int} {P : Nat} {w w' : World} (hb : Below w.heap.size w w') : LspA E P [] w (.returned (.tuple #[.slice none 0 0, .int .i64 P, .int .i64 E])) w' := ⟨_, rfl, FSl.none _, (by intro a c d e; cases e), hb⟩
theorem slv_e1 {r c : Int} {l b : List Nat} (h : evnB r c l ≠ 0) : slvE r c l b = evnB r c l ∧ slvP r c l b = 0 ∧ slvL r c l b = [] := by
 have e : slvE r c l b = evnB r c l := if_pos h
 exact ⟨e, if_pos h, by unfold slvL; rw [e, if_neg h]⟩
theorem slv_e2 {r c : Int} {l b : List Nat} (h : evnB r c l = 0) (h2 : fitB r b ≠ 0) : slvE r c l b = fitB r b ∧ slvP r c l b = 0 ∧ slvL r c l b = [] := by
 have e : slvE r c l b = fitB r b := by unfold slvE; rw [if_neg (fun t => t h), if_pos h2]
 exact ⟨e, by unfold slvP; rw [if_neg (fun t => t h), if_pos h2], by unfold slvL; rw [e, if_neg h2]⟩
theorem slv_e3 {r c : Int} {l b : List Nat} (h : evnB r c l = 0) (h2 : fitB r b = 0) (h3 : cholE r c l ≠ 0) : slvE r c l b = cholE r c l ∧ slvP r c l b = cholP r c l ∧ slvL r c l b = [] := by
 have e : slvE r c l b = cholE r c l := by unfold slvE; rw [if_neg (fun t => t h), if_neg (fun t => t h2), if_pos h3]
 exact ⟨e, by unfold slvP; rw [if_neg (fun t => t h), if_neg (fun t => t h2)], by unfold slvL; rw [e, if_neg h3]⟩
theorem chol_place {r c : Int} {l : List Nat} (h3 : cholE r c l = 0) : cholP r c l = 0 := by
 unfold cholE at h3
 unfold cholP
 by_cases h : sqrB r c l = 0
 ·rw [if_neg (fun t => t h)] at h3 ⊢
  unfold WSt.res at h3 ⊢
  by_cases h1 : (cholS r l).e = 0
  ·rw [if_pos h1] at h3 ⊢
   cases hf : (cholS r l).f
   ·rfl
   ·rfl
  ·rw [if_neg h1] at h3; exact absurd h3 h1
 ·rw [if_pos h]
theorem slv_ok {n : Nat} {l b : List Nat} (h : evnB n n l = 0) (h2 : fitB n b = 0) (h3 : cholE n n l = 0) (f : Bool) (hf : (slvS n (cholL n n l) b).2 = f) :
  slvP n n l b = 0 ∧ (f = true → slvE n n l b = 5 ∧ slvL n n l b = []) ∧ (f = false → slvE n n l b = 0 ∧ slvL n n l b = lstO n (slvS n (cholL n n l) b).1) := by
 have e : slvE n n l b = if f then 5 else 0 := by subst hf; unfold slvE; rw [if_neg (fun t => t h), if_neg (fun t => t h2), if_neg (fun t => t h3)]; simp only [Int.toNat_natCast]
 refine ⟨?_, fun e1 => ?_, fun e1 => ?_⟩
 ·unfold slvP; rw [if_neg (fun t => t h), if_neg (fun t => t h2)]; exact chol_place h3
 ·rw [e1] at e; exact ⟨e, by unfold slvL; rw [e]; rfl⟩
 ·rw [e1] at e; exact ⟨e, by unfold slvL; rw [e]; rfl⟩
theorem slv_fin (n : Nat) (R b : List Nat) (h : (slvS n R b).2 = false) : ∀ j, j < n → finO ((slvS n R b).1 j) = true := fun j hj => up_fin n (Nat.le_refl n) h j (by omega) hj
theorem cholN_ok {n : Nat} {l : List Nat} (h : cholE n n l = 0) : cholN n n l = n := if_pos h
theorem cholL_len {n : Nat} {l : List Nat} (h : cholE n n l = 0) : (cholL n n l).length = n * n := by unfold cholL; rw [if_pos h]; simp [matL]
set_option maxRecDepth 100000 in
set_option maxHeartbeats 3200000 in
theorem solve_any (r c : Int) (sl : Value) (l : List Nat) (bv : Value) (b : List Nat) (w : World) (hl : FSl w sl l) (hb : FSl w bv b) :
  Calls Tryz.prog 30 #[MatV r c sl, bv] w (LspA (slvE r c l b) (slvP r c l b) (slvL r c l b) w) := by
 have HM := Lib.hid (MBx.new w r c sl)
 have HLW := Lib.hid fun W (hw : Below w.heap.size w W) => And.intro (hl.below hw) (hb.below hw)
 have HTR := Lib.hid (even_any r c sl l _ (hl.below (Below.alloc_self w (.cells #[.int .i64 r, .int .i64 c, sl] 25))))
 by_cases h0 : evnB r c l = 0
 ·have HFT := Lib.hid fun W (hw : Below w.heap.size w W) => fits_any r bv b W (hb.below hw)
  have HCH := Lib.hid fun W (hw : Below w.heap.size w W) => chol_any r c sl l W (hl.below hw)
  rw [h0] at HTR
  by_cases h2 : fitB r b = 0
  ·rw [h2] at HFT
   by_cases h3 : cholE r c l = 0
   ·obtain ⟨n, hn, -⟩ : ∃ n : Nat, r = n ∧ c = n := ⟨r.toNat, (evn_zero h0).hr, (evn_zero h0).hc⟩
    obtain rfl : r = n := hn
    obtain rfl : c = n := by have := (evn_zero h0).hc; simpa using this
    have hn : n ≤ 12 := by have := (evn_zero h0).hn; simpa using this
    obtain ⟨hbl, -⟩ := fit_zero h2
    have HCS := Lib.hid fun f hf => slv_ok h0 h2 h3 f hf
    have hRl := cholL_len h3
    rw [h3, cholN_ok h3, chol_place h3] at HCH
    have HFN := Lib.hid (slv_fin n (cholL n n l) b)
    unfold slvS at HFN HCS
    generalize slvE n n l b = E at *
    generalize slvP n n l b = P at *
    generalize slvL n n l b = Q at *
    generalize cholL n n l = R at *
    have HBL := Lib.hid hbl
    have HRL := Lib.hid hRl
    have HBR := Lib.hid fun i hi => bO_rep hb i hi
    clear h0 h2 h3 hbl hl hb hRl
    obtain ⟨q0, q1, q2⟩ := HM.out.m3
    go_enter Tryz.func30, Tryz.ntmps30
    go_wp2_with fail
    refine HTR.out.mono ?_
    rintro e1 w1 ⟨rfl, hb1⟩
    replace HM := Lib.hid (HM.out.later hb1)
    clear hb1 q0 q1 q2 HTR
    obtain ⟨q0, q1, q2⟩ := HM.out.m3
    go_wp2_with fail
    refine (HFT.out _ HM.out.b).mono ?_
    rintro e2 w2 ⟨rfl, hb1⟩
    replace HM := Lib.hid (HM.out.later hb1)
    clear hb1 q0 q1 q2 HFT
    obtain ⟨q0, q1, q2⟩ := HM.out.m3
    go_wp2_with fail
    refine (HCH.out _ HM.out.b).mono ?_
    rintro e3 w3 ⟨u, rfl, hu, hun, hb1⟩
    obtain ⟨ul, hul⟩ : ∃ ul, ul = u := ⟨_, rfl⟩
    obtain ⟨uo, uc, hue, -⟩ := id hu
    generalize List.length _ = un at hue
    subst hul
    subst hue
    have HU := Lib.hid hu
    replace HM := Lib.hid (HM.out.later hb1)
    clear hb1 q0 q1 q2 HCH hu hun
    obtain ⟨q0, q1, q2⟩ := HM.out.m3
    go_upto_region 11 with fail
    clear q0 q1 q2
    have hsz := HM.out.m.lt
    have HLB : Hid (BlkT ((w3.alloc (.cells #[.int .i64 n, .int .i64 n, .slice uo un uc] 25)).alloc (.cells #[.bool false] 94)) w3.heap.size 25 #[.int .i64 n, .int .i64 n, .slice uo un uc]) := Lib.hid ((BlkT.new w3 _ _).alloc _)
    have HSB : Hid (BlkT ((w3.alloc (.cells #[.int .i64 n, .int .i64 n, .slice uo un uc] 25)).alloc (.cells #[.bool false] 94)) (w3.heap.size + 1) 94 #[.bool false]) := Lib.hid (BlkT.new1 w3 _ _ _)
    have HB2 : Hid (Below w3.heap.size w3 ((w3.alloc (.cells #[.int .i64 n, .int .i64 n, .slice uo un uc] 25)).alloc (.cells #[.bool false] 94))) := Lib.hid (below2 w3 _ _)
    have HLN : Hid (FSn ((w3.alloc (.cells #[.int .i64 n, .int .i64 n, .slice uo un uc] 25)).alloc (.cells #[.bool false] 94)) (.slice uo un uc) R (w3.heap.size + 1)) := Lib.hid ((FSn.of HU.out (Nat.le_succ _)).below HB2.out)
    have HBN : Hid (FSn ((w3.alloc (.cells #[.int .i64 n, .int .i64 n, .slice uo un uc] 25)).alloc (.cells #[.bool false] 94)) bv b (w3.heap.size + 1)) := Lib.hid ((FSn.of (HLW.out _ HM.out.b).2 (Nat.le_succ _)).below HB2.out)
    replace HM := Lib.hid (HM.out.later HB2.out)
    have HSS : Hid (w.heap.size < w3.heap.size) := Lib.hid hsz
    clear hsz HB2 HU HLW
    obtain ⟨lb, hlb⟩ : ∃ b, w3.heap.size = b := ⟨_, rfl⟩
    rw [hlb] at HLB HSB HLN HBN HSS
    obtain ⟨sb, hsb⟩ : ∃ b, lb + 1 = b := ⟨_, rfl⟩
    rw [hsb] at HSB HLN HBN
    simp only [hlb, hsb]
    generalize World.alloc (World.alloc w3 _) _ = W1 at *
    refine wp_region_pl (fun w' : World => w'.cell? ⟨lb, 0, none⟩ = some (.int .i64 n) ∧ w'.cell? ⟨lb, 1, none⟩ = some (.int .i64 n) ∧ w'.cell? ⟨lb, 2, none⟩ = some (.slice uo un uc)) 6 (.take 0 (.take 1 (.take 2 (.take 3 (.take 4 (.run 5 .nil)))))) (by kernel_rfl) (by kernel_rfl) ?_
    replace HLB := Lib.hid (HLB.out.below (drew_below _))
    replace HSB := Lib.hid (HSB.out.below (drew_below _))
    replace HLN := Lib.hid (HLN.out.below (drew_below _))
    replace HBN := Lib.hid (HBN.out.below (drew_below _))
    replace HM := Lib.hid (HM.out.later (drew_below _))
    generalize World.drew _ = W5 at HLB HSB HLN HBN HM ⊢
    repeat (refine tkL (v := ?_) rfl rfl rfl (fun w' hSw => ?_) (And.intro (HLB.out.cell 0) (And.intro (HLB.out.cell 1) (HLB.out.cell 2))) ?_; rotate_left; (focus (go_simp; with_reducible rfl)); simp only [setL])
    refine wpPl_goL rfl rfl fun K' hK => ?_
    go_simp
    refine (down_any sb false n (.slice uo un uc) R bv b (bO b) _ hn HLN.out HRL.out HBN.out HBL.out HBR.out HSB.out).mono ?_
    rintro e1 W5v1 ⟨v, x, rfl, hv, hxl, hr, hnw, hs, hu⟩
    replace HLB := Lib.hid (HLB.out.upd hu (by omega))
    have HSB2 := Lib.hid hs
    replace HLN := Lib.hid (HLN.out.upd hu)
    have HBW : Hid (Below w.heap.size w W5v1) := Lib.hid (hu.below HM.out.b (by have := HSS.out; omega) HM.out.b.size)
    have HXN : Hid (FSn W5v1 v x sb) := Lib.hid ⟨hv, fun _ a c d e => by have := hnw a c d e; have := HSB.out.lt; omega⟩
    have HXL := Lib.hid hxl
    have HXR := Lib.hid hr
    clear hv hxl hr hnw hs hu HSB HBN HM
    refine hK _ _ (And.intro (HLB.out.cell 0) (And.intro (HLB.out.cell 1) (HLB.out.cell 2))) ?_
    clear hK K'
    try simp only [Act.put, setL]
    repeat (refine tkL (v := ?_) rfl rfl rfl (fun w' hSw => ?_) (And.intro (HLB.out.cell 0) (And.intro (HLB.out.cell 1) (HLB.out.cell 2))) ?_; rotate_left; (focus (go_simp; with_reducible rfl)); simp only [setL])
    refine wpPl_nil ?_
    simp only [drL]
    go_wp2_with fail
    have hsz5 := HSB2.out.lt
    refine (up_any sb _ n (.slice uo un uc) R v x _ _ hn HLN.out HRL.out HXN.out HXL.out HXR.out HSB2.out).mono ?_
    rintro e5 w5 ⟨v2, x2, rfl, hv, hxl, hr, hnw, hs, hu⟩
    generalize up (atO n R) (dn (atO n R) (bO b) false n).1 (dn (atO n R) (bO b) false n).2 n n = m at *
    obtain ⟨x0, f⟩ := m
    dsimp only at hr hs HFN HCS
    have HV := Lib.hid hv
    have HXR2 := Lib.hid (And.intro hxl hr)
    have HNW : Hid (∀ a c d, v2 = .slice (some a) c d → w.heap.size ≤ a.block) := Lib.hid fun a c d e => by have := hnw a c d e; have := HSS.out; omega
    have HBW2 : Hid (Below w.heap.size w w5) := Lib.hid (hu.below HBW.out (by have := HSS.out; omega) HBW.out.size)
    have s0 := hs.cell 0
    clear hv hxl hr hnw hu HLN HXN HSB2 HBW HLB hsz5
    cases f
    ·obtain ⟨rfl, -, hE⟩ := HCS.out false rfl
     obtain ⟨rfl, rfl⟩ := hE rfl
     have HEQ := Lib.hid (lst_rep HXR2.out.1 HXR2.out.2 (HFN.out rfl))
     clear HCS HFN hs
     go_wp2
     refine bodyPost_ret (v := .tuple #[v2, .int .i64 0, .int .i64 0]) (by simp [results, Tryz.results30, go_sem]) rfl ⟨v2, rfl, by rw [← HEQ.out]; exact HV.out, HNW.out, HBW2.out⟩
    ·obtain ⟨rfl, hE, -⟩ := HCS.out true rfl
     obtain ⟨rfl, rfl⟩ := hE rfl
     clear HCS HFN hs
     go_wp2
     refine bodyPost_ret (v := .tuple #[.slice none 0 0, .int .i64 0, .int .i64 5]) (by simp [results, Tryz.results30, go_sem]) rfl (LspA.err (P := 0) HBW2.out)
   ·obtain ⟨hE1, hE2, hE3⟩ := slv_e3 (b := b) h0 h2 h3
    rw [hE1, hE2, hE3]
    have hp := beq_eq_false_iff_ne.2 h3
    generalize cholE r c l = k at *
    generalize cholP r c l = pl at *
    clear hE1 hE2 hE3 h0 h2 h3 hl hb HLW
    obtain ⟨q0, q1, q2⟩ := HM.out.m3
    go_enter Tryz.func30, Tryz.ntmps30
    go_wp2_with fail
    refine HTR.out.mono ?_
    rintro e1 w1 ⟨rfl, hb1⟩
    replace HM := Lib.hid (HM.out.later hb1)
    clear hb1 q0 q1 q2 HTR
    obtain ⟨q0, q1, q2⟩ := HM.out.m3
    go_wp2_with fail
    refine (HFT.out _ HM.out.b).mono ?_
    rintro e2 w2 ⟨rfl, hb1⟩
    replace HM := Lib.hid (HM.out.later hb1)
    clear hb1 q0 q1 q2 HFT
    obtain ⟨q0, q1, q2⟩ := HM.out.m3
    go_wp2_with fail
    refine (HCH.out _ HM.out.b).mono ?_
    rintro e3 w3 ⟨u, rfl, hu, hun, hb1⟩
    obtain ⟨ul, hul⟩ : ∃ ul, ul = u := ⟨_, rfl⟩
    obtain ⟨uo, uc, hue, -⟩ := id hu
    generalize List.length _ = un at hue
    subst hul
    subst hue
    have HU := Lib.hid hu
    replace HM := Lib.hid (HM.out.later hb1)
    clear hb1 q0 q1 q2 HCH hu hun
    obtain ⟨q0, q1, q2⟩ := HM.out.m3
    go_wp2
    refine bodyPost_ret (v := .tuple #[.slice none 0 0, .int .i64 pl, .int .i64 k]) (by simp [results, Tryz.results30, go_sem]) rfl (LspA.err (HM.out.later (Below.alloc_self w3 _)).b)
  ·obtain ⟨hE1, hE2, hE3⟩ := slv_e2 (b := b) h0 h2
   rw [hE1, hE2, hE3]
   have hp := beq_eq_false_iff_ne.2 h2
   generalize fitB r b = k at *
   clear hE1 hE2 hE3 h0 h2 hl hb HLW HCH
   obtain ⟨q0, q1, q2⟩ := HM.out.m3
   go_enter Tryz.func30, Tryz.ntmps30
   go_wp2_with fail
   refine HTR.out.mono ?_
   rintro e1 w1 ⟨rfl, hb1⟩
   replace HM := Lib.hid (HM.out.later hb1)
   clear hb1 q0 q1 q2 HTR
   obtain ⟨q0, q1, q2⟩ := HM.out.m3
   go_wp2_with fail
   refine (HFT.out _ HM.out.b).mono ?_
   rintro e2 w2 ⟨rfl, hb1⟩
   replace HM := Lib.hid (HM.out.later hb1)
   clear hb1 q0 q1 q2 HFT
   obtain ⟨q0, q1, q2⟩ := HM.out.m3
   go_wp2
   refine bodyPost_ret (v := .tuple #[.slice none 0 0, .int .i64 0, .int .i64 k]) (by simp [results, Tryz.results30, go_sem]) rfl (LspA.err (P := 0) HM.out.b)
 ·obtain ⟨hE1, hE2, hE3⟩ := slv_e1 (b := b) h0
  rw [hE1, hE2, hE3]
  have hp := beq_eq_false_iff_ne.2 h0
  generalize evnB r c l = k at *
  clear hE1 hE2 hE3 h0 hl hb HLW
  obtain ⟨q0, q1, q2⟩ := HM.out.m3
  go_enter Tryz.func30, Tryz.ntmps30
  go_wp2_with fail
  refine HTR.out.mono ?_
  rintro e1 w1 ⟨rfl, hb1⟩
  replace HM := Lib.hid (HM.out.later hb1)
  clear hb1 q0 q1 q2 HTR
  obtain ⟨q0, q1, q2⟩ := HM.out.m3
  go_wp2
  refine bodyPost_ret (v := .tuple #[.slice none 0 0, .int .i64 0, .int .i64 k]) (by simp [results, Tryz.results30, go_sem]) rfl (LspA.err (P := 0) HM.out.b)
end
end Go.Proofs.YtfmecpembnmnkaaGreatDoor
