/- Walks: anatomy's parts of a number. Printed by wip/gen/prt.py. -/
import Derived.Test.YtfcddnccmdjhfaaDoorCls
namespace Go.Proofs.YtfcddnccmdjhfaaDoor
open Go.RowKit

theorem canonB_fin {b : Nat} (h : expF b ≠ 2047) : canonB b = b := by
  have : nanB b = false := by
    unfold nanB kInf kSign; unfold expF kHid at h
    rw [decide_eq_false_iff_not]; omega
  unfold canonB; rw [this]; rfl

theorem fin_of_canonB {b : Nat} (h : expF (canonB b) ≠ 2047) : expF b ≠ 2047 := by
  intro h0
  by_cases hn : nanB b = true
  · unfold canonB at h; rw [if_pos hn] at h; exact h (by decide)
  · unfold canonB at h; rw [if_neg hn] at h; exact h h0

/-- The whole number that a finite number's fields are, and its last bit's exponent. -/
def mantB (b : Nat) : Nat := if expF b = 0 then fracF b else fracF b + kHid
def expB (b : Nat) : Int := (if expF b = 0 then 1 else (expF b : Int)) - 1075
/-- The same, made odd. -/
def pM (b : Nat) : Nat := mantB b / 2 ^ Lib.ctz 64 (mantB b)
def pE (b : Nat) : Int := if mantB b = 0 then 0 else expB b + Lib.ctz 64 (mantB b)
def PartsV (b : Nat) : Value := .tuple #[.agg #[.bool (sgnB b), .int .u64 (pM b : Nat), .int .i64 (pE b)], .int .i64 0]

theorem or_hid {f : Nat} (h : f < kHid) : bits .or .u64 (f : Int) (kHid : Int) = ((f + kHid : Nat) : Int) := by
  have h0 := bits_or_u64_nat f kHid (by unfold kHid at h; omega) (by decide)
  rw [h0, Nat.or_comm]
  congr 1
  have := Nat.two_pow_add_eq_or_of_lt (i := 52) (b := f) h 1
  rw [Nat.mul_one] at this
  show 2 ^ 52 ||| f = f + 2 ^ 52
  omega

/-- A block known whole, none of its cells frozen. -/
def Blk (w : World) (b : Nat) (cs : Array Value) : Prop := ∃ t, w.heap[b]? = some (.cells cs t (0, 0))

theorem Blk.lt {w : World} {b : Nat} {cs : Array Value} (h : Blk w b cs) : b < w.heap.size := by
  obtain ⟨t, h⟩ := h
  exact (Array.getElem?_eq_some_iff.1 h).1

theorem Blk.cell {w : World} {b : Nat} {cs : Array Value} (h : Blk w b cs) (i : Nat) : w.cell? ⟨b, i, none⟩ = cs[i]? := by
  obtain ⟨t, h⟩ := h
  simp [World.cell?, h]

theorem Blk.frozen {w : World} {b : Nat} {cs : Array Value} (h : Blk w b cs) (i : Nat) : w.frozen? ⟨b, i, none⟩ = false := by
  obtain ⟨t, h⟩ := h
  simp [World.frozen?, h]

theorem Blk.of_block {w w' : World} {b : Nat} {cs : Array Value} (h : Blk w b cs) (e : w'.heap[b]? = w.heap[b]?) : Blk w' b cs := by
  obtain ⟨t, h⟩ := h
  exact ⟨t, e.trans h⟩

theorem Blk.below {w w' : World} {b : Nat} {cs : Array Value} (h : Blk w b cs) (hb : Below w.heap.size w w') : Blk w' b cs := h.of_block (hb.block b h.lt)

theorem Blk.new (w : World) (cs : Array Value) (t : Nat) : Blk (w.alloc (.cells cs t)) w.heap.size cs :=
  ⟨t, by show (w.heap.push _)[w.heap.size]? = _; simp⟩

theorem Blk.alloc {w : World} {b : Nat} {cs : Array Value} (h : Blk w b cs) (o : Obj) : Blk (w.alloc o) b cs := h.below (Below.alloc_self _ _)

theorem Blk.set {w : World} {b i : Nat} {cs : Array Value} (h : Blk w b cs) (v : Value) : Blk (w.setCell ⟨b, i, none⟩ v) b (cs.setIfInBounds i v) := by
  obtain ⟨t, h⟩ := h
  refine ⟨t, ?_⟩
  show (w.heap.modify b _)[b]? = _
  rw [Array.getElem?_modify, if_pos rfl, h]; rfl

theorem Blk.setOther {w : World} {b c i : Nat} {cs : Array Value} (h : Blk w b cs) (hne : b ≠ c) (v : Value) : Blk (w.setCell ⟨c, i, none⟩ v) b cs := h.of_block (Below.heap_setCell _ _ _ _ hne)

theorem Blk.cells3 {w : World} {b : Nat} {x y z : Value} (h : Blk w b #[x, y, z]) :
    w.cell? ⟨b, 0, none⟩ = some x ∧ w.cell? ⟨b, 1, none⟩ = some y ∧ w.cell? ⟨b, 2, none⟩ = some z ∧ w.frozen? ⟨b, 0, none⟩ = false ∧ w.frozen? ⟨b, 1, none⟩ = false ∧ w.frozen? ⟨b, 2, none⟩ = false :=
  ⟨h.cell 0, h.cell 1, h.cell 2, h.frozen 0, h.frozen 1, h.frozen 2⟩

set_option maxRecDepth 100000 in
set_option maxHeartbeats 400000 in
theorem parts_zero (b : Nat) (w : World) (h : b < 18446744073709551616) (hc : clsB b = 3) :
    Calls Tryd.prog 65 #[.int .u64 b, F64] w (Gives (.tuple #[.agg #[.bool (sgnB (canonB b)), .int .u64 0, .int .i64 0], .int .i64 0]) w) := by
  have H0 := Lib.hid (Fmt3.new w 99)
  have HS := Lib.hid fun w => split_any b w h
  have HC := Lib.hid fun w => class_any b w h
  rw [hc] at HC
  unfold F64 at HS HC ⊢
  obtain ⟨c0, c1, c2⟩ := H0.out.2
  have hl : expF (canonB b) < 2048 := Nat.mod_lt _ (by decide)
  generalize sgnB (canonB b) = s at *
  generalize expF (canonB b) = e at *
  generalize fracF (canonB b) = f at *
  clear h hc
  go_enter Tryd.func65, Tryd.ntmps65
  go_wp2_with fail
  refine (HS.out _).mono ?_
  rintro e1 w1 ⟨rfl, hb1⟩
  have HB1 := Lib.hid (((Below.alloc_self w _).alloc (by simp) _).trans (hb1.mono (by simp; omega)))
  have HF1 := Lib.hid ((H0.out.below (Below.alloc_self _ _)).below hb1)
  have HR1 : Hid (Blk w1 (w.heap.size + 1) #[.bool false, .int .u64 0, .int .i64 0]) := Lib.hid ((by have := Blk.new (w.alloc (.cells #[.int .u64 52, .int .i64 2047, .int .i64 1075] 99)) #[.bool false, .int .u64 0, .int .i64 0] 75; simpa using this : Blk _ (w.heap.size + 1) _).below hb1)
  obtain ⟨-, d0, d1, d2⟩ := HF1.out
  have hsz := HR1.out.lt
  have hsz0 : w.heap.size < w1.heap.size := by omega
  have e0 := fun o => (World.cell?_alloc_lt w1 o ⟨w.heap.size, 0, none⟩ hsz0).trans d0
  have e1 := fun o => (World.cell?_alloc_lt w1 o ⟨w.heap.size, 1, none⟩ hsz0).trans d1
  have e2 := fun o => (World.cell?_alloc_lt w1 o ⟨w.heap.size, 2, none⟩ hsz0).trans d2
  clear c0 c1 c2 hb1
  go_wp2_with fail
  refine (HC.out _).mono ?_
  rintro e2 w2 ⟨rfl, hb2⟩
  have HB2 := Lib.hid ((HB1.out.alloc HB1.out.size _).trans (hb2.mono (by have := HB1.out.size; simp; omega)))
  have HR2 := Lib.hid ((HR1.out.alloc _).below hb2)
  have HP2 := Lib.hid ((Blk.new w1 _ _).below hb2)
  have HF2 := Lib.hid ((HF1.out.below (Below.alloc_self w1 _)).below hb2)
  obtain ⟨r0, r1, r2, r3, r4, r5⟩ := HR2.out.cells3
  clear hb2 e0 e1 e2 d0 d1 d2
  go_wp2
  refine bodyPost_ret (v := .tuple #[.agg #[.bool s, .int .u64 0, .int .i64 0], .int .i64 0]) (by simp [results, Tryd.results65, go_sem, r0, r1, r2]) rfl ⟨rfl, ?_⟩
  exact (((HB2.out.setCell (by simp) _).setCell (by simp) _).setCell (by simp) _)

theorem tab_set {w : World} (h : Tab64 w) {b : Nat} (hb : 1 ≠ b) (i : Nat) (v : Value) : Tab64 (w.setCell ⟨b, i, none⟩ v) :=
  fun j hj => (cellOther (fun e => hb (by simp only [Addr.mk.injEq] at e; exact e.1.symm))).trans (h j hj)

set_option maxRecDepth 100000 in
set_option maxHeartbeats 400000 in
theorem parts_bad1 (b : Nat) (w : World) (h : b < 18446744073709551616) (hc : clsB b = 1) :
    Calls Tryd.prog 65 #[.int .u64 b, F64] w (Gives (.tuple #[.agg #[.bool false, .int .u64 0, .int .i64 0], .int .i64 4]) w) := by
  have H0 := Lib.hid (Fmt3.new w 99)
  have HS := Lib.hid fun w => split_any b w h
  have HC := Lib.hid fun w => class_any b w h
  rw [hc] at HC
  unfold F64 at HS HC ⊢
  obtain ⟨c0, c1, c2⟩ := H0.out.2
  have hl : expF (canonB b) < 2048 := Nat.mod_lt _ (by decide)
  generalize sgnB (canonB b) = s at *
  generalize expF (canonB b) = e at *
  generalize fracF (canonB b) = f at *
  clear h hc
  go_enter Tryd.func65, Tryd.ntmps65
  go_wp2_with fail
  refine (HS.out _).mono ?_
  rintro e1 w1 ⟨rfl, hb1⟩
  have HB1 := Lib.hid (((Below.alloc_self w _).alloc (by simp) _).trans (hb1.mono (by simp; omega)))
  have HF1 := Lib.hid ((H0.out.below (Below.alloc_self _ _)).below hb1)
  have HR1 : Hid (Blk w1 (w.heap.size + 1) #[.bool false, .int .u64 0, .int .i64 0]) := Lib.hid ((by have := Blk.new (w.alloc (.cells #[.int .u64 52, .int .i64 2047, .int .i64 1075] 99)) #[.bool false, .int .u64 0, .int .i64 0] 75; simpa using this : Blk _ (w.heap.size + 1) _).below hb1)
  obtain ⟨-, d0, d1, d2⟩ := HF1.out
  have hsz := HR1.out.lt
  have hsz0 : w.heap.size < w1.heap.size := by omega
  have e0 := fun o => (World.cell?_alloc_lt w1 o ⟨w.heap.size, 0, none⟩ hsz0).trans d0
  have e1 := fun o => (World.cell?_alloc_lt w1 o ⟨w.heap.size, 1, none⟩ hsz0).trans d1
  have e2 := fun o => (World.cell?_alloc_lt w1 o ⟨w.heap.size, 2, none⟩ hsz0).trans d2
  clear c0 c1 c2 hb1
  go_wp2_with fail
  refine (HC.out _).mono ?_
  rintro e2 w2 ⟨rfl, hb2⟩
  have HB2 := Lib.hid ((HB1.out.alloc HB1.out.size _).trans (hb2.mono (by have := HB1.out.size; simp; omega)))
  have HR2 := Lib.hid ((HR1.out.alloc _).below hb2)
  have HP2 := Lib.hid ((Blk.new w1 _ _).below hb2)
  have HF2 := Lib.hid ((HF1.out.below (Below.alloc_self w1 _)).below hb2)
  obtain ⟨r0, r1, r2, r3, r4, r5⟩ := HR2.out.cells3
  clear hb2 e0 e1 e2 d0 d1 d2
  go_wp2
  refine bodyPost_ret (v := .tuple #[.agg #[.bool false, .int .u64 0, .int .i64 0], .int .i64 4]) (by simp [results, Tryd.results65, go_sem, r0, r1, r2]) rfl ⟨rfl, ?_⟩
  exact (((HB2.out.setCell (by simp) _).setCell (by simp) _).setCell (by simp) _)

set_option maxRecDepth 100000 in
set_option maxHeartbeats 400000 in
theorem parts_bad2 (b : Nat) (w : World) (h : b < 18446744073709551616) (hc : clsB b = 2) :
    Calls Tryd.prog 65 #[.int .u64 b, F64] w (Gives (.tuple #[.agg #[.bool false, .int .u64 0, .int .i64 0], .int .i64 4]) w) := by
  have H0 := Lib.hid (Fmt3.new w 99)
  have HS := Lib.hid fun w => split_any b w h
  have HC := Lib.hid fun w => class_any b w h
  rw [hc] at HC
  unfold F64 at HS HC ⊢
  obtain ⟨c0, c1, c2⟩ := H0.out.2
  have hl : expF (canonB b) < 2048 := Nat.mod_lt _ (by decide)
  generalize sgnB (canonB b) = s at *
  generalize expF (canonB b) = e at *
  generalize fracF (canonB b) = f at *
  clear h hc
  go_enter Tryd.func65, Tryd.ntmps65
  go_wp2_with fail
  refine (HS.out _).mono ?_
  rintro e1 w1 ⟨rfl, hb1⟩
  have HB1 := Lib.hid (((Below.alloc_self w _).alloc (by simp) _).trans (hb1.mono (by simp; omega)))
  have HF1 := Lib.hid ((H0.out.below (Below.alloc_self _ _)).below hb1)
  have HR1 : Hid (Blk w1 (w.heap.size + 1) #[.bool false, .int .u64 0, .int .i64 0]) := Lib.hid ((by have := Blk.new (w.alloc (.cells #[.int .u64 52, .int .i64 2047, .int .i64 1075] 99)) #[.bool false, .int .u64 0, .int .i64 0] 75; simpa using this : Blk _ (w.heap.size + 1) _).below hb1)
  obtain ⟨-, d0, d1, d2⟩ := HF1.out
  have hsz := HR1.out.lt
  have hsz0 : w.heap.size < w1.heap.size := by omega
  have e0 := fun o => (World.cell?_alloc_lt w1 o ⟨w.heap.size, 0, none⟩ hsz0).trans d0
  have e1 := fun o => (World.cell?_alloc_lt w1 o ⟨w.heap.size, 1, none⟩ hsz0).trans d1
  have e2 := fun o => (World.cell?_alloc_lt w1 o ⟨w.heap.size, 2, none⟩ hsz0).trans d2
  clear c0 c1 c2 hb1
  go_wp2_with fail
  refine (HC.out _).mono ?_
  rintro e2 w2 ⟨rfl, hb2⟩
  have HB2 := Lib.hid ((HB1.out.alloc HB1.out.size _).trans (hb2.mono (by have := HB1.out.size; simp; omega)))
  have HR2 := Lib.hid ((HR1.out.alloc _).below hb2)
  have HP2 := Lib.hid ((Blk.new w1 _ _).below hb2)
  have HF2 := Lib.hid ((HF1.out.below (Below.alloc_self w1 _)).below hb2)
  obtain ⟨r0, r1, r2, r3, r4, r5⟩ := HR2.out.cells3
  clear hb2 e0 e1 e2 d0 d1 d2
  go_wp2
  refine bodyPost_ret (v := .tuple #[.agg #[.bool false, .int .u64 0, .int .i64 0], .int .i64 4]) (by simp [results, Tryd.results65, go_sem, r0, r1, r2]) rfl ⟨rfl, ?_⟩
  exact (((HB2.out.setCell (by simp) _).setCell (by simp) _).setCell (by simp) _)

theorem clsOf_cases (e f : Nat) : (clsOf e f = 3 → e = 0 ∧ f = 0) ∧ (clsOf e f = 4 → e = 0 ∧ f ≠ 0) ∧ (clsOf e f = 5 → e ≠ 0 ∧ e ≠ 2047) ∧ (clsOf e f = 1 ∨ clsOf e f = 2 ∨ clsOf e f = 3 ∨ clsOf e f = 4 ∨ clsOf e f = 5) ∧ (e = 2047 ↔ clsOf e f = 1 ∨ clsOf e f = 2) := by
  unfold clsOf
  by_cases h1 : e = 2047
  · rw [if_pos h1]; by_cases h2 : f = 0
    · rw [if_pos h2]; simp [h1]
    · rw [if_neg h2]; simp [h1]
  · rw [if_neg h1]; by_cases h3 : e = 0
    · rw [if_pos h3]; by_cases h2 : f = 0
      · rw [if_pos h2]; simp [h3, h2]
      · rw [if_neg h2]; simp [h3, h2]
    · rw [if_neg h3]; simp [h1, h3]

set_option maxRecDepth 100000 in
set_option maxHeartbeats 400000 in
theorem parts_sub (b : Nat) (w : World) (h : b < 18446744073709551616) (hc : clsB b = 4) (hT : Tab64 w) (hTs : 1 < w.heap.size) :
    Calls Tryd.prog 65 #[.int .u64 b, F64] w (Gives (.tuple #[.agg #[.bool (sgnB (canonB b)), .int .u64 (fracF (canonB b) / 2 ^ Lib.ctz 64 (fracF (canonB b)) : Nat), .int .i64 (-1074 + Lib.ctz 64 (fracF (canonB b)))], .int .i64 0]) w) := by
  have H0 := Lib.hid (Fmt3.new w 99)
  have HS := Lib.hid fun w => split_any b w h
  have HC := Lib.hid fun w => class_any b w h
  rw [hc] at HC
  unfold F64 at HS HC ⊢
  obtain ⟨c0, c1, c2⟩ := H0.out.2
  have hl : expF (canonB b) < 2048 := Nat.mod_lt _ (by decide)
  obtain ⟨he, hf0⟩ := (clsOf_cases _ _).2.1 hc
  have hf1 : fracF (canonB b) < kHid := Nat.mod_lt _ (by decide)
  generalize sgnB (canonB b) = s at *
  generalize expF (canonB b) = e at *
  generalize fracF (canonB b) = f at *
  subst he
  have hct : Lib.ctz 64 f < 64 := (Lib.lowest_bit 64 f hf0 (by unfold kHid at hf1; omega)).2
  generalize htq : Lib.ctz 64 f = t at *
  have HTZ : Hid (∀ W : World, Tab64 W → Calls Tryd.prog 83 #[.int .u64 f] W fun e W' => e = .returned (.int .i64 t) ∧ W = W') :=
    Lib.hid fun W hW => by rw [← htq]; exact tz64_any f (by unfold kHid at hf1; omega) hf0 W hW
  have HT := Lib.hid hT
  have HTs := Lib.hid hTs
  clear h hc hf0 hf1 htq hT hTs
  go_enter Tryd.func65, Tryd.ntmps65
  go_wp2_with fail
  refine (HS.out _).mono ?_
  rintro e1 w1 ⟨rfl, hb1⟩
  have HB1 := Lib.hid (((Below.alloc_self w _).alloc (by simp) _).trans (hb1.mono (by simp; omega)))
  have HF1 := Lib.hid ((H0.out.below (Below.alloc_self _ _)).below hb1)
  have HR1 : Hid (Blk w1 (w.heap.size + 1) #[.bool false, .int .u64 0, .int .i64 0]) := Lib.hid ((by have := Blk.new (w.alloc (.cells #[.int .u64 52, .int .i64 2047, .int .i64 1075] 99)) #[.bool false, .int .u64 0, .int .i64 0] 75; simpa using this : Blk _ (w.heap.size + 1) _).below hb1)
  obtain ⟨-, d0, d1, d2⟩ := HF1.out
  have hsz := HR1.out.lt
  have hsz0 : w.heap.size < w1.heap.size := by omega
  have e0 := fun o => (World.cell?_alloc_lt w1 o ⟨w.heap.size, 0, none⟩ hsz0).trans d0
  have e1 := fun o => (World.cell?_alloc_lt w1 o ⟨w.heap.size, 1, none⟩ hsz0).trans d1
  have e2 := fun o => (World.cell?_alloc_lt w1 o ⟨w.heap.size, 2, none⟩ hsz0).trans d2
  clear c0 c1 c2 hb1
  go_wp2_with fail
  refine (HC.out _).mono ?_
  rintro e2 w2 ⟨rfl, hb2⟩
  have HB2 := Lib.hid ((HB1.out.alloc HB1.out.size _).trans (hb2.mono (by have := HB1.out.size; simp; omega)))
  have HR2 := Lib.hid ((HR1.out.alloc _).below hb2)
  have HP2 := Lib.hid ((Blk.new w1 _ _).below hb2)
  have HF2 := Lib.hid ((HF1.out.below (Below.alloc_self w1 _)).below hb2)
  obtain ⟨r0, r1, r2, r3, r4, r5⟩ := HR2.out.cells3
  clear hb2 e0 e1 e2 d0 d1 d2
  obtain ⟨p0, p1, p2, p3, p4, p5⟩ := HP2.out.cells3
  have HT2 : Hid (Tab64 w2) := Lib.hid fun j hj => (HB2.out.cell (p := ⟨_, j, none⟩) HTs.out).trans (HT.out j hj)
  have hT3 := tab_set HT2.out (show 1 ≠ w1.heap.size by have := HTs.out; omega) 2 (Value.int .i64 (-1074))
  go_wp2_with fail
  refine (HTZ.out _ hT3).mono ?_
  rintro e4 w4 ⟨rfl, hw4⟩
  have HB4 : Hid (Below w.heap.size w w4) := Lib.hid (hw4 ▸ HB2.out.setCell (by simp; omega) _)
  have HP4 : Hid (Blk w4 w1.heap.size #[.bool s, .int .u64 f, .int .i64 (-1074)]) := Lib.hid (hw4 ▸ HP2.out.set _)
  have HR4 : Hid (Blk w4 (w.heap.size + 1) #[.bool false, .int .u64 0, .int .i64 0]) := Lib.hid (hw4 ▸ HR2.out.setOther (by omega) _)
  clear hw4 hT3 p0 p1 p2 p3 p4 p5 r0 r1 r2 r3 r4 r5
  obtain ⟨z, hz1, hz2, HZ⟩ : ∃ z : Int, -1075 ≤ z ∧ z ≤ 2000 ∧ Hid ((-1074 : Int) = z) := ⟨_, by omega, by omega, Lib.hid rfl⟩
  have HP5 := HP4.out
  rw [HZ.out] at HP5
  obtain ⟨p0, p1, p2, p3, p4, p5⟩ := HP5.cells3
  obtain ⟨r0, r1, r2, r3, r4, r5⟩ := HR4.out.cells3
  have hne1 : ¬ w.heap.size + 1 = w1.heap.size := by omega
  have hne2 : ¬ w1.heap.size = w.heap.size + 1 := by omega
  clear HP5 hl
  go_wp2
  refine bodyPost_ret (v := .tuple #[.agg #[.bool s, .int .u64 (f / 2 ^ t : Nat), .int .i64 (z + (t : Int))], .int .i64 0]) ?_ rfl ⟨by rw [HZ.out], ?_⟩
  · simp [results, Tryd.results65, go_sem, r0, r1, r2]
  · exact (((((HB4.out.setCell (by simp; omega) _).setCell (by simp; omega) _).setCell (by simp) _).setCell (by simp) _).setCell (by simp) _)

end Go.Proofs.YtfcddnccmdjhfaaDoor
