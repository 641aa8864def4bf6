/- Plain: a column of many is what it is alone; the inverse is symmetric. No program. -/
import Derived.Test.YtfmecpembnmnkaaGreatDoorLO
import Derived.Test.YtfmecpembnmnkaaGreatDoorLD
import Derived.Test.YtfmecpembnmnkaaGreatDoorLI
namespace Go.Proofs.YtfmecpembnmnkaaGreatDoor
section
open Go.RowKit
theorem smS_flag {n : Nat} {R : List Nat} {cl : Nat → List Nat} : ∀ k, (smS n R cl k).2 = false → ∀ j, j < k → (smC n R (cl j) false).2 = false ∧ ∀ i, i < n → (smS n R cl k).1 i j = (smC n R (cl j) false).1 i
 | 0, _, j, hj => absurd hj (Nat.not_lt_zero j)
 | k + 1, h, j, hj => by
  have h1 : (smC n R (cl k) (smS n R cl k).2).2 = false := h
  have h2 := smC_flag h1
  have e : (smS n R cl (k + 1)).1 = putC (smS n R cl k).1 (smC n R (cl k) (smS n R cl k).2).1 k n := rfl
  rw [e]
  by_cases hk : j = k
  ·subst hk
   rw [h2] at h1
   refine ⟨h1, fun i hi => ?_⟩
   show (if j = j ∧ i < n then _ else _) = _
   rw [if_pos ⟨rfl, hi⟩, h2]
  ·obtain ⟨h3, h4⟩ := smS_flag k h2 j (by omega)
   refine ⟨h3, fun i hi => ?_⟩
   show (if j = k ∧ i < n then _ else _) = _
   rw [if_neg (fun t => hk t.1)]
   exact h4 i hi
theorem sm_parts {r c s d : Int} {l m : List Nat} (h : smE r c l s d m = 0) : evnB r c l = 0 ∧ chkB s d m = 0 ∧ s = r ∧ cholE r c l = 0 ∧ (smR r c l d m).2 = false := by
 unfold smE at h
 by_cases h0 : evnB r c l = 0
 ·rw [if_neg (fun t => t h0)] at h
  by_cases h1 : chkB s d m = 0
  ·rw [if_neg (fun t => t h1)] at h
   by_cases h2 : s = r
   ·rw [if_neg (fun t => t h2)] at h
    by_cases h3 : cholE r c l = 0
    ·rw [if_neg (fun t => t h3)] at h
     refine ⟨h0, h1, h2, h3, ?_⟩
     cases hf : (smR r c l d m).2
     ·rfl
     ·rw [hf] at h; cases h
    ·rw [if_pos h3] at h; exact absurd h h3
   ·rw [if_pos h2] at h; cases h
  ·rw [if_pos h1] at h; exact absurd h h1
 ·rw [if_pos h0] at h; exact absurd h h0
theorem sm_ans {n k : Nat} {l m : List Nat} (h : smE n n l n k m = 0) : ∃ X : Nat → Nat → Fo, smL n n l n k m = matR n k X ∧ (∀ i j, finO (X i j) = true) ∧ ∀ j, j < k → slvE n n l (colL n k m j) = 0 ∧ slvL n n l (colL n k m j) = colL n k (matR n k X) j := by
 obtain ⟨h0, h1, -, h3, h4⟩ := sm_parts h
 unfold smR at h4
 simp only [Int.toNat_natCast] at h4
 obtain ⟨-, -, h5⟩ := sm_ok h0 h1 h3 false h4
 obtain ⟨-, -, -, h6⟩ := h5 rfl
 have hn := (evn_zero h0).hn
 simp only [Int.toNat_natCast] at hn
 refine ⟨_, h6, smS_fin _ _ _ _ h4, fun j hj => ?_⟩
 obtain ⟨f1, f2⟩ := smS_flag k h4 j hj
 have hc := (chk_zero h1).2.2
 have hml := (chk_zero h1).2.1
 have hfit : fitB n (colL n k m j) = 0 := by
  unfold fitB
  rw [if_neg (by simp [colL]), if_pos]
  rw [List.all_eq_true]
  intro x hx
  unfold colL at hx
  simp only [List.mem_map, List.mem_range] at hx
  obtain ⟨i, hi, rfl⟩ := hx
  have hlt : i * k + j < m.length := by
   have : m.length = n * k := by rw [← Int.natCast_mul] at hml; exact Int.ofNat.inj hml
   rw [this]; exact at_ltR hi hj
  rw [← atN_get hlt]
  exact List.all_eq_true.1 hc _ (List.getElem_mem hlt)
 obtain ⟨-, -, h7⟩ := slv_ok h0 hfit h3 false f1
 obtain ⟨h8, h9⟩ := h7 rfl
 refine ⟨h8, ?_⟩
 rw [h9]
 unfold lstO
 have e : colL n k (matR n k (smS n (cholL n n l) (colL n k m) k).1) j = (List.range n).map fun i => bitO ((smS n (cholL n n l) (colL n k m) k).1 i j) := by
  unfold colL
  exact List.map_congr_left fun i hi => matR_at (List.mem_range.1 hi) hj
 rw [e]
 refine List.map_congr_left fun i hi => ?_
 rw [f2 i (List.mem_range.1 hi)]
 rfl
theorem mirL_at {n i j : Nat} {l : List Nat} (hi : i < n) (hj : j < n) : atN n (mirL n l) i j = if j ≤ i then atN n l i j else atN n l j i := by
 have h1 : (i * n + j) / n = i := by rw [Nat.mul_comm, Nat.mul_add_div (by omega), Nat.div_eq_of_lt hj]; rfl
 have h2 : (i * n + j) % n = j := by rw [Nat.mul_comm, Nat.mul_add_mod]; exact Nat.mod_eq_of_lt hj
 conv => lhs; unfold atN mirL
 rw [List.getD_eq_getElem?_getD, List.getElem?_map, List.getElem?_range (at_lt hi hj)]
 show (if (i * n + j) % n ≤ (i * n + j) / n then _ else _) = _
 rw [h1, h2]
theorem inv_sym {r c : Int} {l : List Nat} (h : invE r c l = 0) : sqrB (invN r c l) (invN r c l) (invL r c l) = 0 := by
 by_cases h0 : evnB r c l = 0
 ·have hq := evn_zero h0
  obtain ⟨n, hn⟩ : ∃ n : Nat, r = n := ⟨r.toNat, hq.hr⟩
  have hc := hq.hc
  rw [hn, Int.toNat_natCast] at hq hc
  subst hn
  subst hc
  obtain ⟨e1, -, -, hOK⟩ := inv_ok h0
  rw [e1] at h
  obtain ⟨e3, e4⟩ := hOK h
  obtain ⟨X, hX, hXf, -⟩ := sm_ans h
  rw [e3, e4, hX]
  have hlen : (mirL n (matR n n X)).length = n * n := mirL_len _ _
  have hfin : (mirL n (matR n n X)).all finB = true := by
   rw [List.all_eq_true]
   intro x hx
   unfold mirL at hx
   simp only [List.mem_map, List.mem_range] at hx
   obtain ⟨p, hp, rfl⟩ := hx
   obtain ⟨h1, h2⟩ := div_ltR hp
   rw [matR_at h1 h2, matR_at h2 h1]
   have g : ∀ i j, finB (bitO (X i j)) = true := fun i j => by
    have h := hXf i j
    cases e : X i j with
    | none => rw [e] at h; cases h
    | some v => rw [e] at h; exact h
   split <;> exact g _ _
  have h1 : chkB n n (mirL n (matR n n X)) = 0 := by
   have := hq.hn
   unfold chkB
   rw [if_pos (by omega), if_pos (by rw [hlen, Int.natCast_mul]), if_pos hfin]
  have h2 : evnB n n (mirL n (matR n n X)) = 0 := by
   unfold evnB
   rw [if_neg (fun t => t h1), if_pos rfl]
  unfold sqrB
  rw [if_neg (fun t => t h2), if_pos]
  intro i hi j hj
  rw [Int.toNat_natCast] at hi ⊢
  rw [mirL_at hi (by omega), mirL_at (by omega) hi, if_pos (by omega), if_neg (by omega)]
 ·obtain ⟨e1, -⟩ := inv_e1 h0
  rw [e1] at h; exact absurd h h0
end
section
open Go.RowKit
attribute [local go_sem] run_store_f
theorem sm_law {r m : Int} {l lb : List Nat} (h : smE r r l r m lb = 0) : ∃ n k : Nat, r = n ∧ m = k ∧ n ≤ 12 ∧ k ≤ 12 ∧ lb.length = n * k ∧ chkB r m lb = 0 ∧ smN r r l r m lb = r ∧ smK r r l r m lb = m ∧ (smL r r l r m lb).length = n * k ∧
  ∀ j, j < k → slvE r r l (colL n k lb j) = 0 ∧ slvL r r l (colL n k lb j) = colL n k (smL r r l r m lb) j := by
 obtain ⟨h0, h1, -, h3, -⟩ := sm_parts h
 obtain ⟨n, k, rfl, rfl, hn, hk, hl⟩ := chk_zeroR h1
 obtain ⟨e1, e2⟩ := sm_dim h
 obtain ⟨X, hX, -, hc⟩ := sm_ans h
 exact ⟨n, k, rfl, rfl, hn, hk, hl, h1, e1, e2, by rw [hX]; simp [matR], fun j hj => by rw [hX]; exact hc j hj⟩
structure LcR (w0 W : World) (mb ob : Nat) (r m : Int) (sl tl : Value) (l lb : List Nat) : Prop where
 mm : BlkT W mb 25 #[.int .i64 r, .int .i64 r, sl]
 o : BlkT W ob 25 #[.int .i64 r, .int .i64 m, tl]
 fl : FSl W sl l
 fo : FSl W tl lb
 b : Below w0.heap.size w0 W
theorem LcR.later {w0 W V : World} {mb ob : Nat} {r m : Int} {sl tl : Value} {l lb : List Nat} (h : LcR w0 W mb ob r m sl tl l lb) (hb : Below W.heap.size W V) : LcR w0 V mb ob r m sl tl l lb := ⟨h.mm.below hb, h.o.below hb, h.fl.below hb, h.fo.below hb, h.b.trans (hb.mono h.b.size)⟩
theorem LcR.rd {w0 W : World} {mb ob : Nat} {r m : Int} {sl tl : Value} {l lb : List Nat} (h : LcR w0 W mb ob r m sl tl l lb) : (W.cell? ⟨mb, 0, none⟩ = some (.int .i64 r) ∧ W.cell? ⟨mb, 1, none⟩ = some (.int .i64 r) ∧ W.cell? ⟨mb, 2, none⟩ = some sl) ∧ (W.cell? ⟨ob, 0, none⟩ = some (.int .i64 r) ∧ W.cell? ⟨ob, 1, none⟩ = some (.int .i64 m) ∧ W.cell? ⟨ob, 2, none⟩ = some tl) := ⟨⟨h.mm.cell 0, h.mm.cell 1, h.mm.cell 2⟩, h.o.cell 0, h.o.cell 1, h.o.cell 2⟩
set_option maxRecDepth 100000 in
set_option maxHeartbeats 6400000 in
theorem cholColumns_any (r m : Int) (vm vb : Value) (lm lb : List Nat) (w : World) (hm : USl w vm lm) (hvb : USl w vb lb) (hT : TabB w) : Calls Tryz.prog 7 #[.int .i64 r, vm, vb, .int .i64 m] w (Gives (.bool true) w) := by
 have HI := Lib.hid fun W (h : Below w.heap.size w W) => in9_any r r vm lm W (hm.below h)
 have HOF := Lib.hid fun W (h : Below w.heap.size w W) => rOf64_own vb lb W (hvb.below h)
 have HT := Lib.hid fun W (h : Below w.heap.size w W) => hT.below h
 have hE1 : ∀ E : Int, (E == E) = true := fun E => by simp
 have hE2 : ∀ E : Int, (E != E) = false := fun E => by simp
 clear hm hvb hT
 go_enter Tryz.func7, Tryz.ntmps7
 go_wp2_with fail
 refine (HI.out _ (Below.refl _ _)).mono ?_
 rintro e0 w0 ⟨u, rfl, hu, hb0⟩
 obtain ⟨ul, hul⟩ : ∃ ul, ul = u := ⟨_, rfl⟩
 obtain ⟨uo, uc, hue, -⟩ := id hu
 generalize List.length _ = un at hue
 subst hul
 subst hue
 go_upto_region 2 with fail
 have HU := Lib.hid (hu.below (Below.alloc_self w0 (.cells #[.int .i64 r, .int .i64 r, .slice uo un uc] 25)))
 have HmB : Hid (BlkT (w0.alloc (.cells #[.int .i64 r, .int .i64 r, .slice uo un uc] 25)) w0.heap.size 25 #[.int .i64 r, .int .i64 r, .slice uo un uc]) := Lib.hid (BlkT.new w0 _ _)
 have HB : Hid (Below w.heap.size w (w0.alloc (.cells #[.int .i64 r, .int .i64 r, .slice uo un uc] 25))) := Lib.hid (hb0.alloc hb0.size _)
 obtain ⟨mb, hmb⟩ : ∃ b, w0.heap.size = b := ⟨_, rfl⟩
 rw [hmb] at HmB ⊢
 generalize World.alloc w0 _ = W0 at *
 clear hmb hb0 hu HI
 go_wp2_with fail
 refine (HOF.out _ HB.out).mono ?_
 rintro e1 w1 ⟨v, rfl, hv, -, hb1⟩
 obtain ⟨vl, hvl⟩ : ∃ vl, vl = v := ⟨_, rfl⟩
 obtain ⟨vo, vc, hve, -⟩ := id hv
 generalize hvn : List.length lb = vn at hve
 subst hvl
 subst hve
 have HVN := Lib.hid hvn
 go_upto_region 3 with fail
 have HM : Hid (LcR w (w1.alloc (.cells #[.int .i64 r, .int .i64 m, .slice vo vn vc] 25)) mb w1.heap.size r m (.slice uo un uc) (.slice vo vn vc) lm lb) := Lib.hid ⟨(HmB.out.below hb1).alloc _, BlkT.new w1 _ _, (HU.out.below hb1).below (Below.alloc_self _ _), hv.below (Below.alloc_self _ _), (HB.out.trans (hb1.mono HB.out.size)).alloc (HB.out.trans (hb1.mono HB.out.size)).size _⟩
 obtain ⟨ob, hob⟩ : ∃ b, w1.heap.size = b := ⟨_, rfl⟩
 rw [hob] at HM ⊢
 generalize World.alloc w1 _ = W1 at *
 clear hob hb1 hv HmB HU HB HOF hvn
 obtain ⟨⟨m0, m1, m2⟩, o0, o1, o2⟩ := HM.out.rd
 have HSA := Lib.hid fun h => sm_law (r := r) (m := m) (l := lm) (lb := lb) h
 go_wp2_with fail
 refine (csolveMat_any r r _ lm r m _ lb _ HM.out.fl HM.out.fo).mono ?_
 rintro e2 w2 ⟨x, rfl, hx, -, hb1, -⟩
 generalize smE r r lm r m lb = E2 at *
 generalize smP r r lm r m lb = P2 at *
 generalize smN r r lm r m lb = N2 at *
 generalize smK r r lm r m lb = K2 at *
 generalize smL r r lm r m lb = R2 at *
 obtain ⟨xl, hxl⟩ : ∃ ul, ul = x := ⟨_, rfl⟩
 obtain ⟨xo, xc, hxe, -⟩ := id hx
 generalize hxn : List.length R2 = xn at hxe
 subst hxl
 subst hxe
 replace HM := Lib.hid (HM.out.later hb1)
 have HXN := Lib.hid hxn
 have HX := Lib.hid hx
 clear hb1 hx hxn
 clear m0 m1 m2 o0 o1 o2
 go_upto_region 4 with fail
 have HxB : Hid (BlkT (w2.alloc (.cells #[.int .i64 N2, .int .i64 K2, .slice xo xn xc] 25)) w2.heap.size 25 #[.int .i64 N2, .int .i64 K2, .slice xo xn xc]) := Lib.hid (BlkT.new w2 _ _)
 have HB2 := Below.alloc_self w2 (.cells #[.int .i64 N2, .int .i64 K2, .slice xo xn xc] 25)
 replace HM := Lib.hid (HM.out.later HB2)
 replace HX := Lib.hid (HX.out.below HB2)
 clear HB2
 obtain ⟨xb, hxb⟩ : ∃ b, w2.heap.size = b := ⟨_, rfl⟩
 rw [hxb] at HxB ⊢
 generalize World.alloc w2 _ = W2 at *
 clear hxb
 obtain ⟨⟨m0, m1, m2⟩, o0, o1, o2⟩ := HM.out.rd
 have HIS := Lib.hid fun h => inv_sym (r := r) (c := r) (l := lm) h
 go_wp2_with fail
 refine (cinv_any r r _ lm _ HM.out.fl).mono ?_
 rintro e3 w3 ⟨y, rfl, hy, -, hb1⟩
 generalize invE r r lm = E3 at *
 generalize invP r r lm = P3 at *
 generalize invN r r lm = N3 at *
 generalize invL r r lm = R3 at *
 obtain ⟨yl, hyl⟩ : ∃ ul, ul = y := ⟨_, rfl⟩
 obtain ⟨yo, yc, hye, -⟩ := id hy
 generalize List.length _ = yn at hye
 subst hyl
 subst hye
 replace HM := Lib.hid (HM.out.later hb1)
 replace HX := Lib.hid (HX.out.below hb1)
 replace HxB := Lib.hid (HxB.out.below hb1)
 have HY := Lib.hid hy
 clear hb1 hy
 clear m0 m1 m2 o0 o1 o2
 go_upto_region 5 with fail
 have HyB : Hid (BlkT (w3.alloc (.cells #[.int .i64 N3, .int .i64 N3, .slice yo yn yc] 25)) w3.heap.size 25 #[.int .i64 N3, .int .i64 N3, .slice yo yn yc]) := Lib.hid (BlkT.new w3 _ _)
 have HB2 := Below.alloc_self w3 (.cells #[.int .i64 N3, .int .i64 N3, .slice yo yn yc] 25)
 replace HM := Lib.hid (HM.out.later HB2)
 replace HX := Lib.hid (HX.out.below HB2)
 replace HxB := Lib.hid (HxB.out.below HB2)
 replace HY := Lib.hid (HY.out.below HB2)
 clear HB2
 obtain ⟨yb, hyb⟩ : ∃ b, w3.heap.size = b := ⟨_, rfl⟩
 rw [hyb] at HyB ⊢
 generalize World.alloc w3 _ = W3 at *
 clear hyb
 obtain ⟨y0, y1, y2, -⟩ := HyB.out.cells3
 go_cut [49] from 43 to 49 (fun cv wx => cv = .bool false ∧ Hid (LcR w wx mb ob r m (.slice uo un uc) (.slice vo vn vc) lm lb) ∧ Hid (FSl wx (.slice xo xn xc) R2) ∧ Hid (BlkT wx xb 25 #[.int .i64 N2, .int .i64 K2, .slice xo xn xc]))
 case first =>
  by_cases hE : E3 = 0
  ·have hS := HIS.out hE
   subst hE
   go_wp2_with fail
   refine (rsymm_any N3 N3 _ R3 _ HY.out).mono ?_
   rintro e4 w4 ⟨rfl, hb1⟩
   rw [hS]
   replace HM := Lib.hid (HM.out.later hb1)
   replace HX := Lib.hid (HX.out.below hb1)
   replace HxB := Lib.hid (HxB.out.below hb1)
   clear hb1 hS y0 y1 y2 HIS HSA
   go_wp2
   go_meet
   exact ⟨rfl, HM, HX, HxB⟩
  ·have hp : (E3 == 0) = false := beq_eq_false_iff_ne.2 hE
   clear y0 y1 y2 HIS HSA
   go_wp2
   go_meet
   exact ⟨rfl, HM, HX, HxB⟩
 case rest =>
  clear HM HX HxB y0 y1 y2 HyB HY
  obtain ⟨rfl, HM, HX, HxB⟩ := hcut
  by_cases hE : E2 = 0
  ·obtain ⟨n, k, rfl, rfl, hn, hk, hlb, hchk, rfl, rfl, hlr, hcol⟩ := HSA.out hE
   subst hE
   have HCOL := Lib.hid hcol
   have HLB := Lib.hid hlb
   have HLR := Lib.hid hlr
   have hnk : n * k ≤ 144 := Nat.mul_le_mul hn hk
   obtain rfl : xn = vn := by rw [← HXN.out, ← HVN.out, hlb, hlr]
   clear hcol hlb hlr HSA HIS
   obtain ⟨⟨m0, m1, m2⟩, o0, o1, o2⟩ := HM.out.rd
   obtain ⟨x0, x1, x2, -⟩ := HxB.out.cells3
   go_wp2_with fail
   refine (good_any n k _ lb _ HM.out.fo).mono ?_
   rintro e5 w5 ⟨rfl, hb1⟩
   rw [hchk]
   replace HM := Lib.hid (HM.out.later hb1)
   replace HX := Lib.hid (HX.out.below hb1)
   replace HxB := Lib.hid (HxB.out.below hb1)
   clear hb1 hchk x0 x1 x2
   clear m0 m1 m2 o0 o1 o2
   obtain ⟨⟨m0, m1, m2⟩, o0, o1, o2⟩ := HM.out.rd
   obtain ⟨x0, x1, x2, -⟩ := HxB.out.cells3
   go_wp2
   clear x0 x1 x2
   clear m0 m1 m2 o0 o1 o2
   go_loopw [17] (fun iv wr => ∃ j : Nat, j ≤ k ∧ iv = .int .i64 j ∧ Hid (LcR w wr mb ob n k (.slice uo un uc) (.slice vo xn vc) lm lb) ∧ Hid (FSl wr (.slice xo xn xc) R2) ∧ Hid (BlkT wr xb 25 #[.int .i64 n, .int .i64 k, .slice xo xn xc])) (fun iv _ => k - (intOf iv).toNat)
   case atStart => exact ⟨0, Nat.zero_le _, rfl, HM, HX, HxB⟩
   case round =>
    clear HM HX HxB
    obtain ⟨j, hj, rfl, HM, HX, HxB⟩ := hrel
    by_cases hjk : j < k
    ·obtain ⟨hc1, hc2⟩ := HCOL.out j hjk
     go_upto_region 14 with fail
     refine wp_region_pl (fun w' : World => (w'.cell? ⟨mb, 0, none⟩ = some (.int .i64 n) ∧ w'.cell? ⟨mb, 1, none⟩ = some (.int .i64 n) ∧ w'.cell? ⟨mb, 2, none⟩ = some (.slice uo un uc)) ∧ w'.cell? ⟨ob, 0, none⟩ = some (.int .i64 n) ∧ w'.cell? ⟨ob, 1, none⟩ = some (.int .i64 k) ∧ w'.cell? ⟨ob, 2, none⟩ = some (.slice vo xn vc)) 11 (.take 0 (.take 1 (.take 2 (.run 3 (.run 4 (.take 5 (.take 6 (.take 7 (.take 8 (.take 9 (.take 10 .nil))))))))))) (by kernel_rfl) (by kernel_rfl) ?_
     replace HM := Lib.hid (HM.out.later (drew_below _))
     replace HX := Lib.hid (HX.out.below (drew_below _))
     replace HxB := Lib.hid (HxB.out.below (drew_below _))
     generalize World.drew _ = W5 at HM HX HxB ⊢
     repeat (refine tkL (v := ?_) rfl rfl rfl (fun w' hSw => ?_) HM.out.rd ?_; rotate_left; (focus (go_simp; with_reducible rfl)); simp only [setL])
     refine wpPl_goL rfl rfl fun K' hK => ?_
     go_simp
     refine (rcolumn_any n k j _ lb _ HM.out.fo HLB.out hn hjk).mono ?_
     rintro e1 W5v1 ⟨c, rfl, hc, -, hb1⟩
     replace HM := Lib.hid (HM.out.later hb1)
     replace HX := Lib.hid (HX.out.below hb1)
     replace HxB := Lib.hid (HxB.out.below hb1)
     obtain ⟨co, cc, hce, -⟩ := id hc
     generalize List.length _ = cn at hce
     subst hce
     have HC := Lib.hid hc
     clear hc
     refine hK _ _ HM.out.rd ?_
     clear hK K' hb1
     try simp only [Act.put, setL]
     repeat (refine tkL (v := ?_) rfl rfl rfl (fun w' hSw => ?_) HM.out.rd ?_; rotate_left; (focus (go_simp; with_reducible rfl)); simp only [setL])
     refine wpPl_goL rfl rfl fun K' hK => ?_
     go_simp
     refine (solve_any n n _ lm _ _ _ HM.out.fl HC.out).mono ?_
     rintro e1 W5v2 ⟨z, rfl, hz, -, hb1⟩
     replace HM := Lib.hid (HM.out.later hb1)
     replace HX := Lib.hid (HX.out.below hb1)
     replace HxB := Lib.hid (HxB.out.below hb1)
     rw [hc1]
     rw [hc2] at hz
     obtain ⟨zo, zc, hze, -⟩ := id hz
     generalize List.length _ = zn at hze
     subst hze
     generalize slvP _ _ _ _ = pz at *
     have HZ := Lib.hid hz
     clear hz hc1 hc2 HC
     refine hK _ _ HM.out.rd ?_
     clear hK K' hb1
     try simp only [Act.put, setL]
     repeat (refine tkL (v := ?_) rfl rfl rfl (fun w' hSw => ?_) HM.out.rd ?_; rotate_left; (focus (go_simp; with_reducible rfl)); simp only [setL])
     refine wpPl_nil ?_
     simp only [drL]
     obtain ⟨x0, x1, x2, -⟩ := HxB.out.cells3
     go_wp2_with fail
     refine (rcolumn_any n k j _ R2 _ HX.out HLR.out hn hjk).mono ?_
     rintro e7 w7 ⟨q, rfl, hq, -, hb1⟩
     obtain ⟨qo, qc, hqe, -⟩ := id hq
     generalize List.length _ = qn at hqe
     subst hqe
     replace HM := Lib.hid (HM.out.later hb1)
     replace HX := Lib.hid (HX.out.below hb1)
     replace HxB := Lib.hid (HxB.out.below hb1)
     replace HZ := Lib.hid (HZ.out.below hb1)
     have HQ := Lib.hid hq
     clear hb1 hq x0 x1 x2
     go_wp2_with fail
     refine (list9_same _ _ _ _ HZ.out HQ.out).mono ?_
     rintro e8 w8 ⟨rfl, hb1⟩
     replace HM := Lib.hid (HM.out.later hb1)
     replace HX := Lib.hid (HX.out.below hb1)
     replace HxB := Lib.hid (HxB.out.below hb1)
     clear hb1 HZ HQ
     go_wp2
     go_roundw
     case rel => exact ⟨j + 1, by omega, by go_num, HM, HX, HxB⟩
     case measure => simp [intOf] <;> omega
    ·obtain rfl : j = k := by omega
     go_wp2_with fail
     refine (awake9_any _ (HT.out _ HM.out.b)).mono ?_
     rintro e9 w9 ⟨rfl, hb1⟩
     replace HM := Lib.hid (HM.out.later hb1)
     clear hb1
     go_wp2
     go_ret
     exact ⟨rfl, HM.out.b⟩
  ·have hp : (E2 == 0) = false := beq_eq_false_iff_ne.2 hE
   clear HSA HIS HX HxB
   go_wp2_with fail
   refine (awake9_any _ (HT.out _ HM.out.b)).mono ?_
   rintro e9 w9 ⟨rfl, hb1⟩
   replace HM := Lib.hid (HM.out.later hb1)
   clear hb1
   go_wp2
   go_ret
   exact ⟨rfl, HM.out.b⟩
end
end Go.Proofs.YtfmecpembnmnkaaGreatDoor
