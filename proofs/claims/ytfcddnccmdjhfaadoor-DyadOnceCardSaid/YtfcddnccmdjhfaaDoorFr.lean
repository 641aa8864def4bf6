/- Walk: DyadFresh: what is handed in is kept by nobody, and what is answered is new memory. -/
import Derived.Test.YtfcddnccmdjhfaaDoorDyh
namespace Go.Proofs.YtfcddnccmdjhfaaDoor
open Go.RowKit

theorem lng_bd {R E : Int} (h1 : bl R.natAbs ≤ 65536) (h2 : -100000 ≤ E) (h3 : E + bl R.natAbs ≤ 100000) : lngB R E = false := by
  have h4 := bl_mono (hvZ_natAbs_le (z := R))
  have h5 := tzb_le (N := R.natAbs)
  unfold lngB hvE
  simp only [Bool.or_eq_false_iff, decide_eq_false_iff_not]
  omega

theorem val_bl {b : Nat} : bl (valZ b).natAbs ≤ 53 := by
  rw [valZ_natAbs]
  exact bl_le_of_lt (Nat.lt_of_le_of_lt (pM_le b) (mantB_lt b))

theorem num_add {x y : Nat} (hx : finB x = true) (hy : finB y = true) : plZ (valZ x) (pE x) (valZ y) (pE y) = 0 ∨ lngB (plZ (valZ x) (pE x) (valZ y) (pE y)) (plE (valZ x) (pE x) (valZ y) (pE y)) = false := by
  refine .inr (lng_bd ?_ ?_ ?_)
  all_goals
    have h1 := bl_plZ (z := valZ x) (e := pE x) (y := valZ y) (f := pE y)
    have h2 := val_bl (b := x)
    have h3 := val_bl (b := y)
    have h4 := pE_bd hx
    have h5 := pE_bd hy
    have h6 : plE (valZ x) (pE x) (valZ y) (pE y) ≤ 1023 ∧ -1074 ≤ plE (valZ x) (pE x) (valZ y) (pE y) := by
      unfold plE; split
      · omega
      · split <;> omega
    omega

theorem pl_zero_right {z e : Int} (h : Nrm z e) : plZ z e 0 0 = z ∧ plE z e 0 0 = e := by
  unfold plZ plE
  by_cases h0 : z = 0
  · rw [if_pos h0, if_pos h0]
    rcases h with ⟨h1, h2⟩ | h1
    · exact ⟨h1.symm, h2.symm⟩
    · omega
  · rw [if_neg h0, if_neg h0, if_pos rfl, if_pos rfl]; exact ⟨rfl, rfl⟩

/-- Where a slice's words may lie. -/
def InR (v : Value) (lo hi : Nat) : Prop := ∀ a n c, v = .slice (some a) n c → lo ≤ a.block ∧ a.block < hi

theorem OwnS.inR {w : World} {B t : Nat} {v : Value} (h : OwnS w B t v) : InR v B w.heap.size := by
  obtain ⟨ao, n, cap, rfl, h2⟩ := h
  intro a n' c' e
  simp only [Value.slice.injEq] at e
  obtain ⟨b, cs, rfl, h3, h4⟩ := h2 a e.1
  exact ⟨h3, (Array.getElem?_eq_some_iff.1 h4).1⟩

theorem Raw.setApart {k : IntKind} {s n N g j lo hi : Nat} {v x : Value} {w : World} (h : Raw k s w v n N) (hr : InR v lo hi) (hg : g < lo ∨ hi ≤ g) : Raw k s (w.setCell ⟨g, j, none⟩ x) v n N := by
  obtain ⟨ao, cap, hv, hcap, hN, hn, hc⟩ := h
  refine ⟨ao, cap, hv, hcap, hN, hn, fun h0 => ?_⟩
  obtain ⟨c, off, e, hlt, he, hc⟩ := hc h0
  have h1 := hr ⟨c, off, none⟩ n cap (by rw [hv, e])
  have hne : c ≠ g := by simp only at h1; omega
  have hb := Below.heap_setCell w ⟨g, j, none⟩ x c (by simpa using hne)
  exact ⟨c, off, e, by simpa using hlt, he.of_block hb, fun i hi => (World.cell?_of_block (w := w) (a := ⟨c, off + i, none⟩) hb).trans (hc i hi)⟩

/-- A row of words, of whatever values. -/
def Rw (w : World) (g n : Nat) : Prop := ∃ cs t, w.heap[g]? = some (.cells cs t (0, 0)) ∧ ∀ j, j < n → ∃ d : Int, cs[j]? = some (.int .u32 d)

theorem Rw.set {w : World} {g n : Nat} (h : Rw w g n) (g' j : Nat) (d : Int) : Rw (w.setCell ⟨g', j, none⟩ (.int .u32 d)) g n := by
  obtain ⟨cs, t, h1, h2⟩ := h
  by_cases e : g = g'
  · subst e
    refine ⟨cs.setIfInBounds j (.int .u32 d), t, ?_, fun i hi => ?_⟩
    · show (w.heap.modify g _)[g]? = _
      rw [Array.getElem?_modify, if_pos rfl, h1]; rfl
    · obtain ⟨d', h3⟩ := h2 i hi
      by_cases hij : i = j
      · subst hij
        have hlt := (Array.getElem?_eq_some_iff.1 h3).1
        exact ⟨d, by rw [Array.getElem?_setIfInBounds]; simp [hlt]⟩
      · exact ⟨d', by rw [Array.getElem?_setIfInBounds, if_neg (Ne.symm hij)]; exact h3⟩
  · exact ⟨cs, t, (Below.heap_setCell _ _ _ _ e).trans h1, h2⟩

theorem Rw.of_block {w w' : World} {g n : Nat} (h : Rw w g n) (e : w'.heap[g]? = w.heap[g]?) : Rw w' g n := by
  obtain ⟨cs, t, h1, h2⟩ := h; exact ⟨cs, t, e.trans h1, h2⟩

theorem Rw.cell {w : World} {g n j : Nat} (h : Rw w g n) (hj : j < n) : (∃ d : Int, w.cell? ⟨g, j, none⟩ = some (.int .u32 d)) ∧ w.frozen? ⟨g, j, none⟩ = false := by
  obtain ⟨cs, t, h1, h2⟩ := h
  obtain ⟨d, h3⟩ := h2 j hj
  exact ⟨⟨d, by simp [World.cell?, h1, h3]⟩, by simp [World.frozen?, h1]⟩

theorem Rw.of_raw {w : World} {B n N : Nat} {v : Value} (h : Raw .u32 32 w v n N) (ho : OwnS w B 36 v) (h0 : 0 < n) : ∃ g c, v = .slice (some ⟨g, 0, none⟩) n c ∧ B ≤ g ∧ g < w.heap.size ∧ Rw w g n := by
  obtain ⟨ao, cap, rfl, -, -, -, hc⟩ := h
  obtain ⟨b, off, rfl, hb, -, hc⟩ := hc h0
  obtain ⟨ao', n', cap', e, h2⟩ := ho
  simp only [Value.slice.injEq] at e
  obtain ⟨b', cs, e2, h3, h4⟩ := h2 _ e.1.symm
  simp only [Addr.mk.injEq] at e2
  obtain ⟨rfl, rfl, -⟩ := e2
  refine ⟨b, cap, rfl, h3, hb, cs, _, h4, fun j hj => ⟨((dg 32 N j : Nat) : Int), ?_⟩⟩
  have := hc j hj
  rw [Nat.zero_add] at this
  simpa [World.cell?, h4] using this

/-- A slice that may be overwritten without a change of what g's condition keeps. -/
def GOk (P : Nat → Prop) (w : World) (v : Value) (n : Nat) : Prop := 0 < n → ∃ g c, v = .slice (some ⟨g, 0, none⟩) n c ∧ P g ∧ Rw w g n

theorem GOk.set {P : Nat → Prop} {w : World} {v : Value} {n : Nat} (h : GOk P w v n) (g j : Nat) (d : Int) : GOk P (w.setCell ⟨g, j, none⟩ (.int .u32 d)) v n := fun h0 => by
  obtain ⟨g', c, h1, h2, h3⟩ := h h0
  exact ⟨g', c, h1, h2, h3.set g j d⟩

theorem Raw.len {k : IntKind} {s n N : Nat} {v : Value} {w : World} (h : Raw k s w v n N) : n ≤ 1099511627776 := by obtain ⟨_, _, _, _, _, h, _⟩ := h; exact h

/-- A slice of the call's own, its words in a block from lo on, below hi. -/
def GOr (w : World) (v : Value) (n lo hi : Nat) : Prop := hi ≤ w.heap.size ∧ (0 < n → ∃ g c, v = .slice (some ⟨g, 0, none⟩) n c ∧ lo ≤ g ∧ g < hi ∧ Rw w g n)

theorem GOr.of {w : World} {B n N : Nat} {v : Value} (h : Raw .u32 32 w v n N) (ho : OwnS w B 36 v) : GOr w v n B w.heap.size :=
  ⟨Nat.le_refl _, fun h0 => Rw.of_raw h ho h0⟩

theorem GOr.below {w w' : World} {v : Value} {n lo hi : Nat} (h : GOr w v n lo hi) (hb : Below w.heap.size w w') : GOr w' v n lo hi :=
  ⟨Nat.le_trans h.1 hb.size, fun h0 => by
    obtain ⟨g, c, h1, h2, h3, h4⟩ := h.2 h0
    exact ⟨g, c, h1, h2, h3, h4.of_block (hb.block g (Nat.lt_of_lt_of_le h3 h.1))⟩⟩

theorem GOr.ok {w : World} {v : Value} {n lo hi : Nat} {P : Nat → Prop} (h : GOr w v n lo hi) (hP : ∀ g, lo ≤ g → g < hi → P g) : GOk P w v n := fun h0 => by
  obtain ⟨g, c, h1, h2, h3, h4⟩ := h.2 h0
  exact ⟨g, c, h1, hP g h2 h3, h4⟩

/-- What the loops of DyadFresh keep. -/
structure Fr (P : Nat → Prop) (w0 w : World) (ab kb mb wb lb : Nat) (na nm : Bool) (ea em : Int) (sa sk sm sw ss sn : Value) (la Na lm Nm ls ln' : Nat) : Prop where
  a : BlkT w ab 25 #[.bool na, sa, .int .i64 ea]
  k : BlkT w kb 25 #[.bool na, sk, .int .i64 ea]
  m : BlkT w mb 25 #[.bool nm, sm, .int .i64 em]
  wt : BlkT w wb 25 #[.bool nm, sw, .int .i64 em]
  l : ∃ t, BlkT w lb t #[ss, sn]
  ra : Raw .u32 32 w sa la Na
  rk : Raw .u32 32 w sk la Na
  rm : Raw .u32 32 w sm lm Nm
  rw : Raw .u32 32 w sw lm Nm
  gs : GOk P w ss ls
  gn : GOk P w sn ln'
  below : Below w0.heap.size w0 w
  apart : ∀ g, P g → w0.heap.size ≤ g ∧ g ≠ ab ∧ g ≠ kb ∧ g ≠ mb ∧ g ≠ wb ∧ g ≠ lb ∧ (∃ lo hi, InR sa lo hi ∧ (g < lo ∨ hi ≤ g)) ∧ (∃ lo hi, InR sk lo hi ∧ (g < lo ∨ hi ≤ g)) ∧ (∃ lo hi, InR sm lo hi ∧ (g < lo ∨ hi ≤ g)) ∧ (∃ lo hi, InR sw lo hi ∧ (g < lo ∨ hi ≤ g))

theorem Fr.set {P : Nat → Prop} {w0 w : World} {ab kb mb wb lb : Nat} {na nm : Bool} {ea em : Int} {sa sk sm sw ss sn : Value} {la Na lm Nm ls ln' : Nat} (h : Fr P w0 w ab kb mb wb lb na nm ea em sa sk sm sw ss sn la Na lm Nm ls ln') {g : Nat} (hg : P g) (j : Nat) (d : Int) :
    Fr P w0 (w.setCell ⟨g, j, none⟩ (.int .u32 d)) ab kb mb wb lb na nm ea em sa sk sm sw ss sn la Na lm Nm ls ln' := by
  obtain ⟨g0, g1, g2, g3, g4, g5, ⟨l1, u1, i1, o1⟩, ⟨l2, u2, i2, o2⟩, ⟨l3, u3, i3, o3⟩, l4, u4, i4, o4⟩ := h.apart g hg
  obtain ⟨t, hl⟩ := h.l
  exact ⟨h.a.setOther g1.symm _, h.k.setOther g2.symm _, h.m.setOther g3.symm _, h.wt.setOther g4.symm _, ⟨t, hl.setOther g5.symm _⟩, h.ra.setApart i1 o1, h.rk.setApart i2 o2, h.rm.setApart i3 o3, h.rw.setApart i4 o4,
    h.gs.set _ _ _, h.gn.set _ _ _, h.below.setCell g0 _, h.apart⟩

theorem DyErr.four {w : World} {en : Ending} {w' : World} (h : DyErr 4 w en w') : en = .returned (.tuple #[.agg #[.bool false, .slice none 0 0, .int .i64 0], .int .i64 4]) ∧ Below w.heap.size w w' := h

theorem DyNew.at' {z e : Int} {w : World} {en : Ending} {w' : World} (h : DyNew z e w en w') :
    ∃ ao cap, en = .returned (.tuple #[.agg #[.bool (decide (z < 0)), .slice ao (ln 32 z.natAbs) cap, .int .i64 e], .int .i64 0]) ∧ Raw .u32 32 w' (.slice ao (ln 32 z.natAbs) cap) (ln 32 z.natAbs) z.natAbs ∧ OwnS w' w.heap.size 36 (.slice ao (ln 32 z.natAbs) cap) ∧ Below w.heap.size w w' ∧
      DyAt w' (.agg #[.bool (decide (z < 0)), .slice ao (ln 32 z.natAbs) cap, .int .i64 e]) z e := by
  obtain ⟨ao, cap, h1, h2, h3, h4⟩ := h.at
  exact ⟨ao, cap, h1, h2, h3, h4, _, rfl, h2⟩

theorem TwinOf.at {neg : Bool} {n N : Nat} {e : Int} {w : World} {en : Ending} {w' : World} (h : TwinOf neg n N e w en w') :
    ∃ ao cap, en = .returned (.agg #[.bool neg, .slice ao n cap, .int .i64 e]) ∧ Raw .u32 32 w' (.slice ao n cap) n N ∧ OwnS w' w.heap.size 36 (.slice ao n cap) ∧ Below w.heap.size w w' := by
  obtain ⟨sl, h1, h2, h3, h4⟩ := h
  have h5 := h2
  obtain ⟨ao, cap, rfl, -⟩ := h5
  exact ⟨ao, cap, h1, h2, h3, h4⟩

set_option maxRecDepth 100000 in
set_option maxHeartbeats 1600000 in
theorem fresh_bad1 (x y : Nat) (w : World) (hx : x < 18446744073709551616) (hy : y < 18446744073709551616) (hT : Tab64 w) (hTs : 1 < w.heap.size) (fx : finB x = false) :
    Calls Tryd.prog 3 #[.int .u64 x, .int .u64 y] w (Gives (.bool true) w) := by
  have HT := Lib.hid (And.intro hT hTs)
  have hf1 := ffrom_eq x
  have hf2 := ffrom_eq y
  have HX := Lib.hid fun W => dOf_bad x W hx fx
  by_cases fy : finB y = true
  · have HY := Lib.hid fun W hW => dOf_any y W hy fy hW
    clear hx hy fx fy hT hTs
    go_enter Tryd.func3, Tryd.ntmps3
    go_wp2_with fail
    refine (HX.out _).mono ?_
    rintro e1 w1 ⟨rfl, hb1⟩
    have HB1 := Lib.hid (hb1.alloc hb1.size (.cells #[.bool false, .slice none 0 0, .int .i64 0] 25))
    clear hb1
    unfold DyV
    go_wp2_with fail
    refine (HY.out _ (HT.out.1.below HT.out.2 HB1.out) (Nat.lt_of_lt_of_le HT.out.2 HB1.out.size)).mono ?_
    intro e2 w2 hd
    obtain ⟨ao, cap, rfl, -, -, hb2, -⟩ := hd.at'
    have HB2 := Lib.hid ((HB1.out.trans (hb2.mono HB1.out.size)).alloc (Nat.le_trans HB1.out.size hb2.size) (.cells #[.bool (decide (valZ y < 0)), .slice ao (ln 32 (valZ y).natAbs) cap, .int .i64 (pE y)] 25))
    clear hd hb2
    generalize decide (valZ y < 0) = ny at *
    generalize ln 32 (valZ y).natAbs = ly at *
    go_wp2_with fail
    refine (awake_any _ (HT.out.1.below HT.out.2 HB2.out) (Nat.lt_of_lt_of_le HT.out.2 HB2.out.size)).mono ?_
    rintro e3 w3 ⟨rfl, hb3⟩
    have HB3 := Lib.hid (HB2.out.trans (hb3.mono HB2.out.size))
    clear hb3
    go_wp2
    go_ret
    exact ⟨rfl, HB3.out⟩
  · have HY := Lib.hid fun W => dOf_bad y W hy (by simpa using fy)
    clear hx hy fx fy hT hTs
    go_enter Tryd.func3, Tryd.ntmps3
    go_wp2_with fail
    refine (HX.out _).mono ?_
    rintro e1 w1 ⟨rfl, hb1⟩
    have HB1 := Lib.hid (hb1.alloc hb1.size (.cells #[.bool false, .slice none 0 0, .int .i64 0] 25))
    clear hb1
    unfold DyV
    go_wp2_with fail
    refine (HY.out _).mono ?_
    rintro e2 w2 ⟨rfl, hb2⟩
    have HB2 := Lib.hid ((HB1.out.trans (hb2.mono HB1.out.size)).alloc (Nat.le_trans HB1.out.size hb2.size) (.cells #[.bool false, .slice none 0 0, .int .i64 0] 25))
    clear hb2
    unfold DyV
    go_wp2_with fail
    refine (awake_any _ (HT.out.1.below HT.out.2 HB2.out) (Nat.lt_of_lt_of_le HT.out.2 HB2.out.size)).mono ?_
    rintro e3 w3 ⟨rfl, hb3⟩
    have HB3 := Lib.hid (HB2.out.trans (hb3.mono HB2.out.size))
    clear hb3
    go_wp2
    go_ret
    exact ⟨rfl, HB3.out⟩

set_option maxRecDepth 100000 in
set_option maxHeartbeats 1600000 in
theorem fresh_bad2 (x y : Nat) (w : World) (hx : x < 18446744073709551616) (hy : y < 18446744073709551616) (hT : Tab64 w) (hTs : 1 < w.heap.size) (fx : finB x = true) (fy : finB y = false) :
    Calls Tryd.prog 3 #[.int .u64 x, .int .u64 y] w (Gives (.bool true) w) := by
  have HT := Lib.hid (And.intro hT hTs)
  have hf1 := ffrom_eq x
  have hf2 := ffrom_eq y
  have HX := Lib.hid fun W hW => dOf_any x W hx fx hW
  have HY := Lib.hid fun W => dOf_bad y W hy fy
  clear hx hy fx fy hT hTs
  go_enter Tryd.func3, Tryd.ntmps3
  go_wp2_with fail
  refine (HX.out _ HT.out.1 HT.out.2).mono ?_
  intro e1 w1 hd
  obtain ⟨ao, cap, rfl, -, -, hb1, -⟩ := hd.at'
  have HB1 := Lib.hid (hb1.alloc hb1.size (.cells #[.bool (decide (valZ x < 0)), .slice ao (ln 32 (valZ x).natAbs) cap, .int .i64 (pE x)] 25))
  clear hb1 hd
  generalize decide (valZ x < 0) = ny at *
  generalize ln 32 (valZ x).natAbs = ly at *
  go_wp2_with fail
  refine (HY.out _).mono ?_
  rintro e2 w2 ⟨rfl, hb2⟩
  have HB2 := Lib.hid ((HB1.out.trans (hb2.mono HB1.out.size)).alloc (Nat.le_trans HB1.out.size hb2.size) (.cells #[.bool false, .slice none 0 0, .int .i64 0] 25))
  clear hb2
  unfold DyV
  go_wp2_with fail
  refine (awake_any _ (HT.out.1.below HT.out.2 HB2.out) (Nat.lt_of_lt_of_le HT.out.2 HB2.out.size)).mono ?_
  rintro e3 w3 ⟨rfl, hb3⟩
  have HB3 := Lib.hid (HB2.out.trans (hb3.mono HB2.out.size))
  clear hb3
  go_wp2
  go_ret
  exact ⟨rfl, HB3.out⟩

end Go.Proofs.YtfcddnccmdjhfaaDoor
