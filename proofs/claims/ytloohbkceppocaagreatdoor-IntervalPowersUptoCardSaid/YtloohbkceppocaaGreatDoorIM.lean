/- Plain: what a dot product of intervals holds: the exact sum, and the rounded one. -/
import Derived.Test.YtloohbkceppocaaGreatDoorII
import Derived.Test.YtloohbkceppocaaGreatDoorZIwr
import Derived.Test.YtloohbkceppocaaGreatDoorGX
import Derived.Test.YtloohbkceppocaaGreatDoorGQ
import Derived.Test.YtloohbkceppocaaGreatDoorGM
import Derived.Test.YtloohbkceppocaaGreatDoorGL
import Derived.Test.YtloohbkceppocaaGreatDoorHB
import Derived.Test.YtloohbkceppocaaGreatDoorGV
import Derived.Test.YtloohbkceppocaaGreatDoorGW
import Derived.Test.YtloohbkceppocaaGreatDoorIG
import Derived.Test.YtloohbkceppocaaGreatDoorZBks
namespace Go.Proofs.YtloohbkceppocaaGreatDoor
section
open Go.RowKit
def dotK (us vs : List (Nat × Nat)) : Nat → Option (Int × Int)
 | 0 => some (0, 0)
 | k + 1 => addK (dotK us vs k) (mulK (ivK (us.getD k (0, 0)).1 (us.getD k (0, 0)).2) (ivK (vs.getD k (0, 0)).1 (vs.getD k (0, 0)).2))
def EndsL (l : List (Nat × Nat)) : Prop := ∀ p ∈ l, W64 p.1 ∧ W64 p.2
theorem EndsL.at {l : List (Nat × Nat)} (h : EndsL l) (k : Nat) : W64 (l.getD k (0, 0)).1 ∧ W64 (l.getD k (0, 0)).2 := by
 rw [List.getD_eq_getElem?_getD]
 cases e : l[k]? with
 | none => exact ⟨by decide, by decide⟩
 | some p => exact h p (List.mem_of_getElem? e)
theorem nought_ok : Iok (some ((0 : Int), (0 : Int))) := by have := kInf_pos; exact Iok.some (by omega) (by omega) (by omega) (by omega) (by omega)
theorem dotK_ok {us vs : List (Nat × Nat)} (hu : EndsL us) (hv : EndsL vs) (k : Nat) : Iok (dotK us vs k) := by
 induction k with
 | zero => exact nought_ok
 | succ k ih => exact addK_ok ih (mulK_ok (ivK_ok (hu.at k).1 (hu.at k).2) (ivK_ok (hv.at k).1 (hv.at k).2))
end
section
open Go.RowKit
attribute [local go_sem] run_store_f
def PSl (f : Nat → Value) (w : World) (v : Value) (l : List (Nat × Nat)) : Prop :=
 ∃ ao cap, v = .slice ao l.length cap ∧ l.length ≤ cap ∧ l.length ≤ 1099511627776 ∧ EndsL l ∧
  (0 < l.length → ∃ b off, ao = some ⟨b, off, none⟩ ∧ b < w.heap.size ∧ ∀ i (h : i < l.length), w.cell? ⟨b, off + i * 2, none⟩ = some (f l[i].1) ∧ w.cell? ⟨b, off + i * 2 + 1, none⟩ = some (f l[i].2))
def wdU (x : Nat) : Value := .int .u64 (x : Int)
def wdF (x : Nat) : Value := .float .f64 x
def ESl (w : World) (v : Value) (l : List (Nat × Nat)) : Prop := PSl wdU w v l
def VSl (w : World) (v : Value) (l : List (Nat × Nat)) : Prop := PSl wdF w v l
theorem PSl.below {f : Nat → Value} {w w' : World} {v : Value} {l : List (Nat × Nat)} (h : PSl f w v l) (hb : Below w.heap.size w w') : PSl f w' v l := by
 obtain ⟨ao, cap, h1, h2, h3, h4, h5⟩ := h
 refine ⟨ao, cap, h1, h2, h3, h4, fun h0 => ?_⟩
 obtain ⟨b, off, e, hlt, hc⟩ := h5 h0
 exact ⟨b, off, e, Nat.lt_of_lt_of_le hlt hb.size, fun i hi => ⟨(hb.cell (p := ⟨b, off + i * 2, none⟩) hlt).trans (hc i hi).1, (hb.cell (p := ⟨b, off + i * 2 + 1, none⟩) hlt).trans (hc i hi).2⟩⟩
def prV (f : Nat → Value) (l : List (Nat × Nat)) : List Value := l.flatMap fun p => [f p.1, f p.2]
theorem prV_succ {f : Nat → Value} {l : List (Nat × Nat)} {k : Nat} (h : k < l.length) : prV f (l.take (k + 1)) = prV f (l.take k) ++ [f l[k].1, f l[k].2] := by
 unfold prV; rw [List.take_succ_eq_append_getElem h, List.flatMap_append]; rfl
theorem prV_get {f : Nat → Value} {l : List (Nat × Nat)} : ∀ {i : Nat} (h : i < l.length), (prV f l)[i * 2]? = some (f l[i].1) ∧ (prV f l)[i * 2 + 1]? = some (f l[i].2) := by
 induction l with
 | nil => intro i h; cases h
 | cons p r ih =>
  intro i h
  cases i with
  | zero => exact ⟨rfl, rfl⟩
  | succ i =>
   have h2 : i < r.length := by simpa using h
   obtain ⟨a, b⟩ := ih h2
   have e : prV f (p :: r) = f p.1 :: f p.2 :: prV f r := rfl
   rw [e, show (i + 1) * 2 = i * 2 + 1 + 1 by omega, show i * 2 + 1 + 1 + 1 = (i * 2 + 1) + 1 + 1 by omega]
   simp only [List.getElem?_cons_succ, List.getElem_cons_succ]
   exact ⟨a, b⟩
theorem PSl.of_owns {f : Nat → Value} {w : World} {base t : Nat} {v : Value} {l : List (Nat × Nat)} (h : w.ownsRow base t 2 v l.length (prV f l)) (hn : l.length ≤ 1099511627776) (hx : EndsL l) : PSl f w v l := by
 obtain ⟨h1, ⟨rfl, h0⟩ | ⟨g, cap, cur, rfl, hg, hh, hcap, hmax, hcs, ht⟩⟩ := h
 ·exact ⟨none, 0, by rw [h0], by omega, hn, hx, fun h => absurd h (by omega)⟩
 ·refine ⟨_, cap, rfl, hcap, hn, hx, fun _ => ⟨g, 0, rfl, (Array.getElem?_eq_some_iff.1 hh).1, fun i hi => ?_⟩⟩
  obtain ⟨h2, h3⟩ := prV_get (f := f) hi
  rw [← ht, List.getElem?_take_of_lt (by omega)] at h2 h3
  simp only [World.cell?, hh, Nat.zero_add]
  exact ⟨by simpa using h2, by simpa using h3⟩
theorem Tryz.info34 : (Tryz.prog.info? 34).map (fun i => (i.zero, i.size, i.bytes)) = some (some (.agg #[.float .f64 0, .float .f64 0]), 2, 16) := by kernel_rfl
theorem cell_two_new (w : World) (x y : Value) (t : TypeId) : ∀ j u, [x, y][j]? = some u → (w.alloc (.cells #[x, y] t)).cell? ((⟨w.heap.size, 0, none⟩ : Addr).add j) = some u := by
 intro j u hj
 match j, hj with
 | 0, hj => simp at hj; subst hj; simp [Addr.add]
 | 1, hj => simp at hj; subst hj; simp [Addr.add]
theorem owns_shape2 {w : World} {base t n sz : Nat} {v : Value} {xs : List Value} (h : w.ownsRow base t sz v n xs) : ∃ ao cap, v = .slice ao n cap := by
 rcases h.2 with ⟨rfl, rfl⟩ | ⟨g, cap, cur, rfl, -⟩
 ·exact ⟨none, 0, rfl⟩
 ·exact ⟨_, cap, rfl⟩
set_option maxRecDepth 100000 in
set_option maxHeartbeats 1600000 in
theorem llist_any (v : Value) (l : List (Nat × Nat)) (w : World) (hl : ESl w v l) :
  Calls Tryz.prog 16 #[v] w fun en w' => ∃ u, en = .returned u ∧ VSl w' u l ∧ Below w.heap.size w w' := by
 obtain ⟨i0, hi, hz0, hz1, hz2⟩ := info_parts Tryz.info34
 obtain ⟨ao, cap, rfl, hcap, hn, hx, hc⟩ := hl
 have HC := Lib.hid hc
 have HX := Lib.hid hx
 have HOF := Lib.hid fun a b W => lof_any a b W
 clear hc hx
 go_enter Tryz.func16, Tryz.ntmps16
 go_wp2
 go_loopw [3, 4] (fun u i wr => ∃ k : Nat, k ≤ l.length ∧ i = .int .i64 k ∧ Hid (wr.ownsRow w.heap.size 34 2 u k (prV wdF (l.take k)) ∧ Below w.heap.size w wr)) (fun _ i _ => l.length - (intOf i).toNat)
 case atStart => exact ⟨0, Nat.zero_le _, rfl, Lib.hid ⟨World.ownsRow_nil _ _ _ _, Below.refl _ _⟩⟩
 case round =>
  obtain ⟨k, hk, rfl, HR⟩ := hrel
  obtain ⟨ao2, cap2, rfl⟩ := owns_shape2 HR.out.1
  by_cases hlt : k < l.length
  ·obtain ⟨b, off, rfl, hb, hcc⟩ := HC.out (by omega)
   have hck := (HR.out.2.cell (p := ⟨b, off + k * 2, none⟩) hb).trans (hcc k hlt).1
   have hck2 := (HR.out.2.cell (p := ⟨b, off + k * 2 + 1, none⟩) hb).trans (hcc k hlt).2
   have HSU : Hid (prV wdF (l.take (k + 1)) = prV wdF (l.take k) ++ [.float .f64 l[k].1, .float .f64 l[k].2]) := Lib.hid (prV_succ hlt)
   unfold wdU at hck hck2
   clear hcc
   generalize l[k].1 = x at *
   generalize l[k].2 = y at *
   go_wp2_with fail
   refine (HOF.out _ _ _).mono ?_
   rintro e1 w1 ⟨rfl, hb1⟩
   have HR1 := Lib.hid (And.intro (HR.out.1.kept (row := none) (grown_of_below hb1) (by cases (Value.slice ao2 k cap2).ownBlock <;> simp)) (HR.out.2.trans (hb1.mono HR.out.2.size)))
   have HOW := Lib.hid fun o => HR1.out.1.kept (grown_of_below (Below.alloc_self w1 o)) (by cases (Value.slice ao2 k cap2).ownBlock <;> simp)
   have HNW := Lib.hid fun W => cell_two_new W (.float .f64 x) (.float .f64 y) 34
   clear hb1 hck hck2
   go_wp2_with (at_builtin; refine wpList_append_own _ rfl _ _ 43 rfl w.heap.size 34 i0 (.agg #[.float .f64 0, .float .f64 0]) 2 16 Tryz.underlying43 hi hz0 hz1 hz2 rfl (by decide) _ _ _ rfl (HOW.out _) ⟨_, 0, none⟩ 1 1 [.float .f64 x, .float .f64 y] rfl rfl (HNW.out _) ?c2 ?c3 ?c4 ?c5 ?_)
   case c2 => intro u hu; simp only [List.mem_cons, List.not_mem_nil, or_false] at hu; rcases hu with rfl | rfl <;> rfl
   case c3 => unfold maxLen; omega
   case c4 => omega
   case c5 => exact Nat.le_trans HR1.out.2.size (by simp)
   intro v' U4 hown hgrow _
   rw [← HSU.out] at hown
   have HR2 := Lib.hid hown
   have HB2 := Lib.hid ((HR1.out.2.trans ((Below.alloc_self w1 _).mono HR1.out.2.size)).grown hgrow (Nat.le_trans HR1.out.2.size (by simp)) (fun j hj => (HR1.out.1.lt j hj).1))
   obtain ⟨ao', cap', hv'⟩ := owns_shape2 hown
   rw [hv'] at HR2 ⊢
   clear hown hgrow hv' HNW HOW
   go_wp2
   go_roundw
   case rel => exact ⟨k + 1, by omega, by go_num, Lib.hid ⟨HR2.out, HB2.out⟩⟩
   case measure => simp [intOf]; omega
  ·obtain rfl : k = l.length := by omega
   have HT : Hid (l.take l.length = l) := Lib.hid List.take_length
   rw [HT.out] at HR
   go_wp2
   go_ret
   exact ⟨_, rfl, PSl.of_owns HR.out.1 hn HX.out, HR.out.2⟩
end
section
open Go.RowKit
attribute [local go_sem] run_store_f
theorem PSl.cells {f : Nat → Value} {w : World} {ao : Option Addr} {n cap : Nat} {l : List (Nat × Nat)} (h : PSl f w (.slice ao n cap) l) :
  l.length = n ∧ n ≤ cap ∧ n ≤ 1099511627776 ∧ EndsL l ∧ (0 < n → ∃ b off, ao = some ⟨b, off, none⟩ ∧ b < w.heap.size ∧
   ∀ i, i < n → w.cell? ⟨b, off + i * 2, none⟩ = some (f (l.getD i (0, 0)).1) ∧ w.cell? ⟨b, off + i * 2 + 1, none⟩ = some (f (l.getD i (0, 0)).2)) := by
 obtain ⟨ao', cap', hv, h1, h2, h3, h4⟩ := h
 simp only [Value.slice.injEq] at hv
 obtain ⟨rfl, rfl, rfl⟩ := hv
 refine ⟨rfl, h1, h2, h3, fun h0 => ?_⟩
 obtain ⟨b, off, e1, e2, e3⟩ := h4 h0
 refine ⟨b, off, e1, e2, fun i hi => ?_⟩
 have := e3 i hi
 rw [List.getD_eq_getElem?_getD, List.getElem?_eq_getElem hi, Option.getD_some]
 exact this
def Cel2 (W : World) (b o : Nat) (x y : Value) : Prop := b < W.heap.size ∧ W.cell? ⟨b, o, none⟩ = some x ∧ W.cell? ⟨b, o + 1, none⟩ = some y
theorem Cel2.below {W V : World} {b o : Nat} {x y : Value} (h : Cel2 W b o x y) (hb : Below W.heap.size W V) : Cel2 V b o x y :=
 ⟨Nat.lt_of_lt_of_le h.1 hb.size, (hb.cell (p := ⟨b, o, none⟩) h.1).trans h.2.1, (hb.cell (p := ⟨b, o + 1, none⟩) h.1).trans h.2.2⟩
set_option maxRecDepth 100000 in
set_option maxHeartbeats 6400000 in
theorem iDot_any (va vb : Value) (us vs : List (Nat × Nat)) (w : World) (ha : VSl w va us) (hb : VSl w vb vs) (hl : us.length = vs.length) (hT : TabB w) :
  Calls Tryz.prog 15 #[va, vb] w (Gives (.tuple #[.agg #[.float .f64 (ivL (dotK us vs us.length)), .float .f64 (ivH (dotK us vs us.length))], .int .i64 0]) w) := by
 have HMK := Lib.hid fun W => make1_any 0 0 W (by decide) (by decide) (by decide) (by decide)
 rw [show kb (ky 0) = 0 by decide] at HMK
 have ha' := ha
 have hb' := hb
 obtain ⟨a0, ca, rfl, -⟩ := ha'
 obtain ⟨b0, cb, rfl, -⟩ := hb'
 rw [← hl] at hb ⊢
 obtain ⟨-, ha1, ha2, ha3, ha4⟩ := PSl.cells ha
 obtain ⟨-, hb1, hb2, hb3, hb4⟩ := PSl.cells hb
 have HA := Lib.hid ha4
 have HB := Lib.hid hb4
 have HEA := Lib.hid ha3
 have HEB := Lib.hid hb3
 have HT := Lib.hid hT
 have HOK := Lib.hid fun k => dotK_ok ha3 hb3 k
 clear ha hb ha3 hb3 ha4 hb4 hT hl
 generalize us.length = n at *
 have HW := Lib.hid ((Bks.nil w).alloc #[.float .f64 0, .float .f64 0] 34)
 go_enter Tryz.func15, Tryz.ntmps15
 go_wp2_with fail
 refine (HMK.out _).mono ?_
 rintro e1 w1 ⟨rfl, hb1'⟩
 replace HW := Lib.hid (HW.out.later hb1')
 clear hb1' HMK
 have HS0 := Lib.hid (HW.out.alloc #[.float .f64 0, .float .f64 0] 34)
 have HLB : Hid (w.heap.size ≤ w1.heap.size ∧ ∀ q ∈ ([(w.heap.size, 34, #[.float .f64 0, .float .f64 0])] : List (Nat × Nat × Array Value)), q.1 ≠ w1.heap.size) := Lib.hid ⟨HW.out.size, fun q m => by have := HW.out.lt q m; omega⟩
 clear HW
 obtain ⟨s, hs⟩ : ∃ i, w1.heap.size = i := ⟨_, rfl⟩
 rw [hs] at HS0 HLB
 go_wp2
 go_loopw [17] (fun i wr => ∃ k : Nat, k ≤ n ∧ i = .int .i64 k ∧ Hid (Bks w wr [(s, 34, #[.float .f64 (ivL (dotK us vs k)), .float .f64 (ivH (dotK us vs k))]), (w.heap.size, 34, #[.float .f64 0, .float .f64 0])])) (fun i _ => n - (intOf i).toNat)
 case atStart => exact ⟨0, Nat.zero_le _, rfl, HS0⟩
 case round =>
  clear HS0 hs
  obtain ⟨k, hk, rfl, HS⟩ := hrel
  by_cases hlt : k < n
  ·obtain ⟨ab, ao, rfl, hab, hac⟩ := HA.out (by omega)
   obtain ⟨bb, bo, rfl, hbb, hbc⟩ := HB.out (by omega)
   have okD := HOK.out k
   have wa := HEA.out.at k
   have wb := HEB.out.at k
   have hnx : dotK us vs (k + 1) = addK (dotK us vs k) (mulK (ivK (us.getD k (0, 0)).1 (us.getD k (0, 0)).2) (ivK (vs.getD k (0, 0)).1 (vs.getD k (0, 0)).2)) := rfl
   have HCA : Hid (Cel2 wr ab (ao + k * 2) (.float .f64 (us.getD k (0, 0)).1) (.float .f64 (us.getD k (0, 0)).2)) := Lib.hid (Cel2.below ⟨hab, hac k hlt⟩ HS.out.2)
   have HCB : Hid (Cel2 wr bb (bo + k * 2) (.float .f64 (vs.getD k (0, 0)).1) (.float .f64 (vs.getD k (0, 0)).2)) := Lib.hid (Cel2.below ⟨hbb, hbc k hlt⟩ HS.out.2)
   clear hac hbc
   obtain ⟨p0, hp0⟩ : ∃ t, (us.getD k (0, 0)).1 = t := ⟨_, rfl⟩
   obtain ⟨p1, hp1⟩ : ∃ t, (us.getD k (0, 0)).2 = t := ⟨_, rfl⟩
   obtain ⟨q0, hq0⟩ : ∃ t, (vs.getD k (0, 0)).1 = t := ⟨_, rfl⟩
   obtain ⟨q1, hq1⟩ : ∃ t, (vs.getD k (0, 0)).2 = t := ⟨_, rfl⟩
   rw [hp0, hp1] at HCA
   rw [hq0, hq1] at HCB
   rw [hp0, hp1, hq0, hq1] at hnx
   rw [hp0, hp1] at wa
   rw [hq0, hq1] at wb
   clear hp0 hp1 hq0 hq1
   have okM := mulK_ok (ivK_ok wa.1 wa.2) (ivK_ok wb.1 wb.2)
   have HMU := Lib.hid fun W ht => mul_iv p0 p1 q0 q1 W wa.1 wa.2 wb.1 wb.2 ht
   generalize mulK (ivK p0 p1) (ivK q0 q1) = M at *
   have HAD := Lib.hid fun W ht => add_iv (ivL (dotK us vs k)) (ivH (dotK us vs k)) (ivL M) (ivH M) W (ivL_lt okD) (ivH_lt okD) (ivL_lt okM) (ivH_lt okM) ht
   rw [ivK_back okD, ivK_back okM, ← hnx] at HAD
   clear hnx okD okM wa wb
   generalize ivL (dotK us vs k) = d0 at *
   generalize ivH (dotK us vs k) = d1 at *
   generalize ivL M = m0 at *
   generalize ivH M = m1 at *
   obtain ⟨n0, hn0⟩ : ∃ t, ivL (dotK us vs (k + 1)) = t := ⟨_, rfl⟩
   obtain ⟨n1, hn1⟩ : ∃ t, ivH (dotK us vs (k + 1)) = t := ⟨_, rfl⟩
   rw [hn0, hn1] at HAD
   have HNX := Lib.hid (And.intro hn0 hn1)
   clear hn0 hn1
   have t9 : decide ((k : Int) < (n : Int)) = true := decide_eq_true (by omega)
   go_upto_region 7 with fail
   refine wp_region_pl (fun w' : World => (w'.cell? ⟨s, 0, none⟩ = some (.float .f64 d0) ∧ w'.cell? ⟨s, 1, none⟩ = some (.float .f64 d1)) ∧ (w'.cell? ⟨ab, ao + k * 2, none⟩ = some (.float .f64 p0) ∧ w'.cell? ⟨ab, ao + k * 2 + 1, none⟩ = some (.float .f64 p1)) ∧ w'.cell? ⟨bb, bo + k * 2, none⟩ = some (.float .f64 q0) ∧ w'.cell? ⟨bb, bo + k * 2 + 1, none⟩ = some (.float .f64 q1)) 11 (.take 0 (.take 1 (.take 2 (.take 3 (.take 4 (.take 5 (.take 6 (.take 7 (.take 8 (.run 9 (.run 10 (.nil)))))))))))) (by kernel_rfl) (by kernel_rfl) ?_
   replace HS := Lib.hid (HS.out.later (drew_below _))
   replace HCA := Lib.hid (HCA.out.below (drew_below _))
   replace HCB := Lib.hid (HCB.out.below (drew_below _))
   generalize World.drew _ = W7 at HS HCA HCB ⊢
   repeat (first | (refine tkL (v := ?_) rfl rfl rfl (fun w' hSw => ?_) (⟨HS.out.two (.head _), HCA.out.2, HCB.out.2⟩) ?_; rotate_left; (focus (go_simp; with_reducible rfl)); simp only [setL]) | (refine skL rfl rfl rfl (⟨HS.out.two (.head _), HCA.out.2, HCB.out.2⟩) ?_; simp only [setL]))
   refine wpPl_goL rfl rfl fun K' hK => ?_
   go_simp
   refine (HMU.out _ (HT.out.below HS.out.2)).mono ?_
   rintro e1 W7v1 ⟨rfl, hb1⟩
   replace HS := Lib.hid (HS.out.later hb1)
   replace HCA := Lib.hid (HCA.out.below hb1)
   replace HCB := Lib.hid (HCB.out.below hb1)
   refine hK _ _ (⟨HS.out.two (.head _), HCA.out.2, HCB.out.2⟩) ?_
   clear hK K' hb1
   try simp only [Act.put, setL]
   repeat (first | (refine tkL (v := ?_) rfl rfl rfl (fun w' hSw => ?_) (⟨HS.out.two (.head _), HCA.out.2, HCB.out.2⟩) ?_; rotate_left; (focus (go_simp; with_reducible rfl)); simp only [setL]) | (refine skL rfl rfl rfl (⟨HS.out.two (.head _), HCA.out.2, HCB.out.2⟩) ?_; simp only [setL]))
   refine wpPl_goL rfl rfl fun K' hK => ?_
   go_simp
   refine (HAD.out _ (HT.out.below HS.out.2)).mono ?_
   rintro e1 W7v2 ⟨rfl, hb1⟩
   replace HS := Lib.hid (HS.out.later hb1)
   replace HCA := Lib.hid (HCA.out.below hb1)
   replace HCB := Lib.hid (HCB.out.below hb1)
   refine hK _ _ (⟨HS.out.two (.head _), HCA.out.2, HCB.out.2⟩) ?_
   clear hK K' hb1
   try simp only [Act.put, setL]
   repeat (first | (refine tkL (v := ?_) rfl rfl rfl (fun w' hSw => ?_) (⟨HS.out.two (.head _), HCA.out.2, HCB.out.2⟩) ?_; rotate_left; (focus (go_simp; with_reducible rfl)); simp only [setL]) | (refine skL rfl rfl rfl (⟨HS.out.two (.head _), HCA.out.2, HCB.out.2⟩) ?_; simp only [setL]))
   refine wpPl_nil ?_
   simp only [drL]
   obtain ⟨k0, k1, k2, k3⟩ := (HS.out.get (.head _)).cells2
   replace HS := Lib.hid (HS.out.set2 HLB.out.1 HLB.out.2 (.float .f64 n0) (.float .f64 n1))
   clear HCA HCB
   go_wp2
   go_roundw
   case rel => exact ⟨k + 1, by omega, by go_num, Lib.hid (by rw [HNX.out.1, HNX.out.2]; exact HS.out)⟩
   case measure => simp [intOf]; omega
  ·obtain rfl : k = n := by omega
   have t9 : decide ((k : Int) < (k : Int)) = false := decide_eq_false (by omega)
   generalize ivL (dotK us vs k) = d0 at *
   generalize ivH (dotK us vs k) = d1 at *
   obtain ⟨c0, c1⟩ := HS.out.two (.head _)
   obtain ⟨q0, q1, q2, q3⟩ := (HS.out.get (.tail _ (.head _))).cells2
   go_wp2
   refine bodyPost_ret (v := .tuple #[.agg #[.float .f64 d0, .float .f64 d1], .int .i64 0]) (by simp [results, Tryz.results15, go_sem, q0, q1]) rfl ⟨rfl, (HS.out.2.setCell (Nat.le_refl _) _).setCell (Nat.le_refl _) _⟩
end
end Go.Proofs.YtloohbkceppocaaGreatDoor
