/- Walks: sums and products of exact numbers. -/
import Derived.Test.YtfcddnccmdjhfaaDoorDy2
import Derived.Test.YtfcddnccmdjhfaaDoorLaw2
namespace Go.Proofs.YtfcddnccmdjhfaaDoor
open Go.RowKit

/-- The call hands an exact number back; its whole part may be an old one. -/
def ExAny (z e : Int) (w : World) (en : Ending) (w' : World) : Prop :=
  ∃ b, en = .returned (ExV b e) ∧ IntAt w' b 0 z ∧ Below w.heap.size w w'

theorem IntK.zero1 {k : IntKind} {s : Nat} (w : World) (o : _root_.Go.Obj) (t : Nat) (ht : ObjT t) : IntK k s ((w.alloc o).alloc (.cells #[.bool false, .slice none 0 0] t)) (w.heap.size + 1) 0 0 := by
  have := IntK.zero (k := k) (s := s) (w.alloc o) t ht
  simpa using this
theorem BlkT.new1 (w : World) (o : _root_.Go.Obj) (cs : Array Value) (t : Nat) : BlkT ((w.alloc o).alloc (.cells cs t)) (w.heap.size + 1) t cs := by
  have := BlkT.new (w.alloc o) cs t
  simpa using this
theorem BlkT.new2 (w : World) (o p : _root_.Go.Obj) (cs : Array Value) (t : Nat) : BlkT (((w.alloc o).alloc p).alloc (.cells cs t)) (w.heap.size + 1 + 1) t cs := by
  have := BlkT.new1 (w.alloc o) p cs t
  simpa using this
theorem BlkT.new3 (w : World) (o p q : _root_.Go.Obj) (cs : Array Value) (t : Nat) : BlkT ((((w.alloc o).alloc p).alloc q).alloc (.cells cs t)) (w.heap.size + 1 + 1 + 1) t cs := by
  have := BlkT.new2 (w.alloc o) p q cs t
  simpa using this
theorem below1 (w : World) (o : _root_.Go.Obj) : Below w.heap.size w (w.alloc o) := (Below.refl _ _).alloc (Nat.le_refl _) _
theorem below2 (w : World) (o p : _root_.Go.Obj) : Below w.heap.size w ((w.alloc o).alloc p) := (below1 w o).alloc (by simp) _
theorem below3 (w : World) (o p q : _root_.Go.Obj) : Below w.heap.size w (((w.alloc o).alloc p).alloc q) := (below2 w o p).alloc (by simp; omega) _

theorem Lsh_at (b o c p : Nat) (n : Nat) (m : Int) (X : Int) (w : World) (hz : Spot w b o) (hx : IntAt w c p X) (hl : ln 64 X.natAbs ≤ 68719476736) (hn : n ≤ 1099511627776) (hm : m = n) :
    Calls Tryd.prog 56 #[.pointer (some ⟨b, o, none⟩), .pointer (some ⟨c, p, none⟩), .int .u64 m] w (Puts .u64 64 b o (X * 2 ^ n) w) := by
  subst hm; exact Lsh_any b o c p n X w hz hx hl hn

theorem Rsh_at (b o c p : Nat) (n : Nat) (m : Int) (X : Int) (w : World) (hz : Spot w b o) (hx : IntAt w c p X) (hl : ln 64 X.natAbs ≤ 68719476736) (hn : n ≤ 1099511627776) (hm : m = n) :
    Calls Tryd.prog 47 #[.pointer (some ⟨b, o, none⟩), .pointer (some ⟨c, p, none⟩), .int .u64 m] w (Puts .u64 64 b o (X / 2 ^ n) w) := by
  subst hm; exact Rsh_any b o c p n X w hz hx hl hn

set_option maxRecDepth 100000 in
set_option maxHeartbeats 400000 in
theorem at_any (b : Nat) (z e f : Int) (w : World) (hx : IntAt w b 0 z) (hl : bl z.natAbs ≤ 68719476736) (h1 : -274877906944 ≤ f) (h2 : f ≤ e) (h3 : e ≤ 274877906944) :
    Calls Tryd.prog 50 #[ExV b e, .int .i64 f] w (News .u64 64 (z * 2 ^ (e - f).toNat) w) := by
  have HX := Lib.hid hx
  have HL := Lib.hid hl
  have HN : Hid (e - f = ((e - f).toNat : Int)) := Lib.hid (by omega)
  have HN2 : Hid ((e - f).toNat ≤ 1099511627776) := Lib.hid (by omega)
  generalize (e - f).toNat = n at *
  clear hx hl
  unfold ExV
  have HZ := Lib.hid (IntK.zero1 (k := .u64) (s := 64) w (.cells #[.pointer (some ⟨b, 0, none⟩), .int .i64 e] 51) _ objT_int)
  go_enter Tryd.func50, Tryd.ntmps50
  go_wp2_with fail
  refine (Lsh_at _ 0 _ 0 n _ z _ HZ.out.1 (HX.out.below (below2 _ _ _)) (ln_of_bl HL.out) HN2.out HN.out).mono ?_
  rintro e2 w2 ⟨rfl, hi2, hm2⟩
  have HI := Lib.hid hi2
  have HB := Lib.hid (hm2.below (below2 _ _ _) (by omega) (below2 _ _ _).size)
  clear hi2 hm2
  go_wp2
  go_ret
  exact ⟨_, rfl, by simp, HI.out, HB.out⟩

set_option maxRecDepth 100000 in
set_option maxHeartbeats 800000 in
theorem plus_zero (b c : Nat) (e y f : Int) (w : World) (hx : IntAt w b 0 0) (hy : IntAt w c 0 y) :
    Calls Tryd.prog 24 #[ExV b e, ExV c f] w (ExAny y f w) := by
  have HX := Lib.hid hx
  have HY := Lib.hid hy
  have hcy := hy.1.1
  clear hx hy
  unfold ExV
  have HS0 : Hid ((0 : Int).sign = 0) := Lib.hid rfl
  go_enter Tryd.func24, Tryd.ntmps24
  go_wp2_with fail
  refine (Sign_any _ 0 0 _ (HX.out.below (below3 _ _ _ _))).mono ?_
  rintro e2 w2 ⟨rfl, rfl⟩
  rw [HS0.out]
  go_wp2
  refine bodyPost_ret (v := ExV c f) (by simp [results, Tryd.results24, go_sem, ExV]) rfl ⟨c, rfl, HY.out.below (below3 _ _ _ _), below3 _ _ _ _⟩

set_option maxRecDepth 100000 in
set_option maxHeartbeats 800000 in
theorem plus_zero2 (b c : Nat) (z e f : Int) (w : World) (hx : IntAt w b 0 z) (hy : IntAt w c 0 0) (h0 : z ≠ 0) :
    Calls Tryd.prog 24 #[ExV b e, ExV c f] w (ExAny z e w) := by
  have HX := Lib.hid hx
  have HY := Lib.hid hy
  obtain ⟨sg, HS, hsg⟩ : ∃ sg, Hid (z.sign = sg) ∧ (sg == 0) = false := ⟨_, Lib.hid rfl, by have := sign_ne h0; simpa using this⟩
  clear hx hy h0
  unfold ExV
  have HS0 : Hid ((0 : Int).sign = 0) := Lib.hid rfl
  go_enter Tryd.func24, Tryd.ntmps24
  go_wp2_with fail
  refine (Sign_any _ 0 z _ (HX.out.below (below3 _ _ _ _))).mono ?_
  rintro e2 w2 ⟨rfl, rfl⟩
  rw [HS.out]
  go_wp2_with fail
  refine (Sign_any _ 0 0 _ (HY.out.below (below3 _ _ _ _))).mono ?_
  rintro e2 w2 ⟨rfl, rfl⟩
  rw [HS0.out]
  go_wp2
  refine bodyPost_ret (v := ExV b e) (by simp [results, Tryd.results24, go_sem, ExV]) rfl ⟨b, rfl, HX.out.below (below3 _ _ _ _), below3 _ _ _ _⟩

theorem bl_shl (z : Int) (k : Nat) : bl (z * 2 ^ k).natAbs ≤ bl z.natAbs + k := by
  rw [Int.natAbs_mul, natAbs_two_pow]; exact bl_mul_two_pow _ _

/-- Two boxes of exact numbers and a result's block, all of them the call's own. -/
def Box2 (s : Nat) (w0 W : World) (b c : Nat) (e f : Int) : Prop :=
  BlkT W s 51 #[.pointer (some ⟨b, 0, none⟩), .int .i64 e] ∧ BlkT W (s + 1) 51 #[.pointer (some ⟨c, 0, none⟩), .int .i64 f] ∧ BlkT W (s + 1 + 1) 51 #[.pointer none, .int .i64 0] ∧ Below w0.heap.size w0 W

theorem Box2.cells {s : Nat} {w0 W : World} {b c : Nat} {e f : Int} (h : Box2 s w0 W b c e f) :
    w0.heap.size ≤ W.heap.size ∧ (W.cell? ⟨s, 0, none⟩ = some (.pointer (some ⟨b, 0, none⟩)) ∧ W.cell? ⟨s, 1, none⟩ = some (.int .i64 e)) ∧ W.cell? ⟨s + 1, 0, none⟩ = some (.pointer (some ⟨c, 0, none⟩)) ∧ W.cell? ⟨s + 1, 1, none⟩ = some (.int .i64 f) :=
  ⟨h.2.2.2.size, ⟨h.1.cell 0, h.1.cell 1⟩, h.2.1.cell 0, h.2.1.cell 1⟩

theorem Box2.later {s : Nat} {w0 W V : World} {b c : Nat} {e f : Int} (h : Box2 s w0 W b c e f) (hb : Below W.heap.size W V) : Box2 s w0 V b c e f :=
  ⟨h.1.below hb, h.2.1.below hb, h.2.2.1.below hb, h.2.2.2.trans (hb.mono h.2.2.2.size)⟩

theorem Box2.mod {s ib : Nat} {w0 W V : World} {b c : Nat} {e f : Int} (h : Box2 s w0 W b c e f) (hm : Mod ib 0 W V) (hs : s + 1 + 1 < ib) (h0 : w0.heap.size ≤ ib) : Box2 s w0 V b c e f :=
  ⟨h.1.mod hm (by omega), h.2.1.mod hm (by omega), h.2.2.1.mod hm (by omega), hm.below h.2.2.2 h0 h.2.2.2.size⟩

theorem Box2.start (w : World) (b c : Nat) (e f : Int) : Box2 w.heap.size w (((w.alloc (.cells #[.pointer (some ⟨b, 0, none⟩), .int .i64 e] 51)).alloc (.cells #[.pointer (some ⟨c, 0, none⟩), .int .i64 f] 51)).alloc (.cells #[.pointer none, .int .i64 0] 51)).drew b c e f :=
  ⟨(((BlkT.new w _ _).alloc _).alloc _).below (drew_below _), ((BlkT.new1 w _ _ _).alloc _).below (drew_below _), (BlkT.new2 w _ _ _ _).below (drew_below _), (below3 _ _ _ _).drew⟩

set_option maxRecDepth 100000 in
set_option maxHeartbeats 800000 in
theorem plus_both (b c : Nat) (z e y f g : Int) (w : World) (hx : IntAt w b 0 z) (hy : IntAt w c 0 y) (hz : z ≠ 0) (h0 : y ≠ 0) (hg : min e f = g)
    (hl : bl z.natAbs ≤ 34359738368) (hl2 : bl y.natAbs ≤ 34359738368) (he1 : -8589934592 ≤ e) (he2 : e ≤ 8589934592) (hf1 : -8589934592 ≤ f) (hf2 : f ≤ 8589934592) :
    Calls Tryd.prog 24 #[ExV b e, ExV c f] w (ExAny (z * 2 ^ (e - g).toNat + y * 2 ^ (f - g).toNat) g w) := by
  have HX := Lib.hid hx
  have HY := Lib.hid hy
  obtain ⟨sg, HS, hsg⟩ : ∃ sg, Hid (z.sign = sg) ∧ (sg == 0) = false := ⟨_, Lib.hid rfl, by have := sign_ne hz; simpa using this⟩
  obtain ⟨sh, HS2, hsh⟩ : ∃ sg, Hid (y.sign = sg) ∧ (sg == 0) = false := ⟨_, Lib.hid rfl, by have := sign_ne h0; simpa using this⟩
  have HL := Lib.hid hl
  have HL2 := Lib.hid hl2
  have hg1 : g ≤ e := by omega
  have hg2 : g ≤ f := by omega
  have hg3 : -8589934592 ≤ g := by omega
  clear hx hy h0 hz hl hl2
  unfold ExV
  go_enter Tryd.func24, Tryd.ntmps24
  go_wp2_with fail
  refine (Sign_any _ 0 z _ (HX.out.below (below3 _ _ _ _))).mono ?_
  rintro e2 w2 ⟨rfl, rfl⟩
  rw [HS.out]
  go_wp2_with fail
  refine (Sign_any _ 0 y _ (HY.out.below (below3 _ _ _ _))).mono ?_
  rintro e2 w2 ⟨rfl, rfl⟩
  rw [HS2.out]
  go_wp2
  refine wp_region_pl (fun w' : World => (w'.cell? ⟨w.heap.size, 0, none⟩ = some (.pointer (some ⟨b, 0, none⟩)) ∧ w'.cell? ⟨w.heap.size, 1, none⟩ = some (.int .i64 e)) ∧ w'.cell? ⟨w.heap.size + 1, 0, none⟩ = some (.pointer (some ⟨c, 0, none⟩)) ∧ w'.cell? ⟨w.heap.size + 1, 1, none⟩ = some (.int .i64 f)) 10 (.take 1 (.take 2 (.take 4 (.take 5 (.take 8 (.fork 0 (.run 3 (.run 6 (.run 7 (.take 9 .nil)))) 3 (.fork 0 (.run 6 (.run 7 (.take 9 .nil))) 6 (.run 0 (.run 7 (.take 9 .nil)))))))))) (by kernel_rfl) (by kernel_rfl) ?_
  generalize hW : (((w.alloc (.cells #[.pointer (some ⟨b, 0, none⟩), .int .i64 e] 51)).alloc (.cells #[.pointer (some ⟨c, 0, none⟩), .int .i64 f] 51)).alloc (.cells #[.pointer none, .int .i64 0] 51)).drew = W0
  have HW : Hid (Box2 w.heap.size w W0 b c e f) := by subst hW; exact Lib.hid (Box2.start w b c e f)
  have hS : (fun w' : World => (w'.cell? ⟨w.heap.size, 0, none⟩ = some (.pointer (some ⟨b, 0, none⟩)) ∧ w'.cell? ⟨w.heap.size, 1, none⟩ = some (.int .i64 e)) ∧ w'.cell? ⟨w.heap.size + 1, 0, none⟩ = some (.pointer (some ⟨c, 0, none⟩)) ∧ w'.cell? ⟨w.heap.size + 1, 1, none⟩ = some (.int .i64 f)) W0 := HW.out.cells.2
  clear hW
  repeat (refine wpPl_take (v := ?_) rfl (fun _ _ _ h => h) rfl (fun w' hSw => ?_) hS ?_; rotate_left; focus (go_simp; with_reducible rfl); try simp only [Act.put, List.setIfInBounds_toArray, List.set_cons_zero, List.set_cons_succ])
  clear hS
  refine wpPl_fork ?_ ?_
  · as_aux_lemma =>
      refine wpPl_run rfl fun K' hK => ?_
      go_simp
      have HV := Lib.hid (HW.out.later (Below.alloc_self W0 (.cells #[.bool false, .slice none 0 0] 60)))
      refine hK _ _ HV.out.cells.2 ?_
      clear hK K'
      have HZ := Lib.hid (IntK.zero (k := .u64) (s := 64) W0 _ objT_int)
      have HI := Lib.hid (HW.out.2.2.1.lt)
      have HI0 := Lib.hid (HW.out.2.2.2.size)
      clear HW
      generalize hWn : W0.alloc (.cells #[.bool false, .slice none 0 0] 60) = W1 at *
      generalize W0.heap.size = ib at *
      clear hWn
      have HW := HV
      clear HV
      refine wpPl_run rfl fun K' hK => ?_
      go_simp
      refine (at_any b z e g _ (HX.out.below HW.out.2.2.2) (Nat.le_trans HL.out (by omega)) (by omega) hg1 (by omega)).mono ?_
      rintro e1 W2 ⟨p1, rfl, hp1, hi1, hb1⟩
      have HV := Lib.hid (HW.out.later hb1)
      refine hK _ _ HV.out.cells.2 ?_
      clear hK K' HW hp1
      have HP1 := Lib.hid hi1
      replace HZ := Lib.hid (HZ.out.below hb1)
      clear hi1 hb1
      have HW := HV
      clear HV
      refine wpPl_run rfl fun K' hK => ?_
      go_simp
      refine (at_any c y f g _ (HY.out.below HW.out.2.2.2) (Nat.le_trans HL2.out (by omega)) (by omega) hg2 (by omega)).mono ?_
      rintro e1 W3 ⟨p2, rfl, hp2, hi1, hb1⟩
      have HV := Lib.hid (HW.out.later hb1)
      refine hK _ _ HV.out.cells.2 ?_
      clear hK K' HW hp2
      have HP2 := Lib.hid hi1
      replace HZ := Lib.hid (HZ.out.below hb1)
      replace HP1 := Lib.hid (HP1.out.below hb1)
      clear hi1 hb1
      have HW := HV
      clear HV
      refine wpPl_run rfl fun K' hK => ?_
      go_simp
      refine (Add_any ib 0 p1 0 p2 0 _ _ _ HZ.out.1 HP1.out HP2.out ?_ ?_).mono ?_
      · exact ln_of_bl (Nat.le_trans (bl_shl _ _) (by have := HL.out; omega))
      · exact ln_of_bl (Nat.le_trans (bl_shl _ _) (by have := HL2.out; omega))
      rintro e1 wf ⟨rfl, hi3, hm3⟩
      have HO : Hid (Own2 w wf (w.heap.size + 1 + 1) 51 #[.pointer none, .int .i64 0] ib (z * 2 ^ (e - g).toNat + y * 2 ^ (f - g).toNat)) := by
        have h4 := HW.out.mod hm3 HI.out HI0.out
        exact Lib.hid ⟨hi3, h4.2.2.1, objT_exact, h4.2.2.2, by have := HI.out; omega, by omega, HI0.out⟩
      have HC3 := (HW.out.mod hm3 HI.out HI0.out).cells.2
      have hS : (fun w' : World => (w'.cell? ⟨w.heap.size, 0, none⟩ = some (.pointer (some ⟨b, 0, none⟩)) ∧ w'.cell? ⟨w.heap.size, 1, none⟩ = some (.int .i64 e)) ∧ w'.cell? ⟨w.heap.size + 1, 0, none⟩ = some (.pointer (some ⟨c, 0, none⟩)) ∧ w'.cell? ⟨w.heap.size + 1, 1, none⟩ = some (.int .i64 f)) wf := HC3
      refine hK _ _ HC3 ?_
      clear hK K' hi3 hm3 HC3
      repeat (refine wpPl_take (v := ?_) rfl (fun _ _ _ h => h) rfl (fun w' hSw => ?_) hS ?_; rotate_left; focus (go_simp; with_reducible rfl); try simp only [Act.put, List.setIfInBounds_toArray, List.set_cons_zero, List.set_cons_succ])
      clear hS
      refine wpPl_nil ?_
      simp only [List.drop_succ_cons, List.drop_zero]
      obtain ⟨r0, r1, r2, r3⟩ := HO.out.res.cells2
      generalize z * 2 ^ (e - g).toNat + y * 2 ^ (f - g).toNat = R at *
      clear HW HZ HP1 HP2
      go_wp2
      refine bodyPost_ret (v := ExV ib g) (by simp [results, Tryd.results24, go_sem, ExV, r0, r1]) rfl ⟨ib, rfl, (HO.out.store2 _ _).1, (HO.out.store2 _ _).2⟩
  · refine wpPl_run rfl fun K' hK => ?_
    go_simp
    refine (at_any b z e g _ (HX.out.below HW.out.2.2.2) (Nat.le_trans HL.out (by omega)) (by omega) hg1 (by omega)).mono ?_
    rintro e1 W1 ⟨p1, rfl, hp1, hi1, hb1⟩
    have HV := Lib.hid (HW.out.later hb1)
    refine hK _ _ HV.out.cells.2 ?_
    clear hK K' HW hp1
    have HP1 := Lib.hid hi1
    clear hi1 hb1
    have HW := HV
    clear HV
    refine wpPl_fork ?_ ?_
    · as_aux_lemma =>
        refine wpPl_run rfl fun K' hK => ?_
        go_simp
        have HV := Lib.hid (HW.out.later (Below.alloc_self W1 (.cells #[.bool false, .slice none 0 0] 60)))
        refine hK _ _ HV.out.cells.2 ?_
        clear hK K'
        have HZ := Lib.hid (IntK.zero (k := .u64) (s := 64) W1 _ objT_int)
        have HI := Lib.hid (HW.out.2.2.1.lt)
        have HI0 := Lib.hid (HW.out.2.2.2.size)
        replace HP1 := Lib.hid (HP1.out.below (Below.alloc_self W1 (.cells #[.bool false, .slice none 0 0] 60)))
        clear HW
        generalize hWn : W1.alloc (.cells #[.bool false, .slice none 0 0] 60) = W2 at *
        generalize W1.heap.size = ib at *
        clear hWn
        have HW := HV
        clear HV
        refine wpPl_run rfl fun K' hK => ?_
        go_simp
        refine (at_any c y f g _ (HY.out.below HW.out.2.2.2) (Nat.le_trans HL2.out (by omega)) (by omega) hg2 (by omega)).mono ?_
        rintro e1 W3 ⟨p2, rfl, hp2, hi1, hb1⟩
        have HV := Lib.hid (HW.out.later hb1)
        refine hK _ _ HV.out.cells.2 ?_
        clear hK K' HW hp2
        have HP2 := Lib.hid hi1
        replace HP1 := Lib.hid (HP1.out.below hb1)
        replace HZ := Lib.hid (HZ.out.below hb1)
        clear hi1 hb1
        have HW := HV
        clear HV
        refine wpPl_run rfl fun K' hK => ?_
        go_simp
        refine (Add_any ib 0 p1 0 p2 0 _ _ _ HZ.out.1 HP1.out HP2.out ?_ ?_).mono ?_
        · exact ln_of_bl (Nat.le_trans (bl_shl _ _) (by have := HL.out; omega))
        · exact ln_of_bl (Nat.le_trans (bl_shl _ _) (by have := HL2.out; omega))
        rintro e1 wf ⟨rfl, hi3, hm3⟩
        have HO : Hid (Own2 w wf (w.heap.size + 1 + 1) 51 #[.pointer none, .int .i64 0] ib (z * 2 ^ (e - g).toNat + y * 2 ^ (f - g).toNat)) := by
          have h4 := HW.out.mod hm3 HI.out HI0.out
          exact Lib.hid ⟨hi3, h4.2.2.1, objT_exact, h4.2.2.2, by have := HI.out; omega, by omega, HI0.out⟩
        have HC3 := (HW.out.mod hm3 HI.out HI0.out).cells.2
        have hS : (fun w' : World => (w'.cell? ⟨w.heap.size, 0, none⟩ = some (.pointer (some ⟨b, 0, none⟩)) ∧ w'.cell? ⟨w.heap.size, 1, none⟩ = some (.int .i64 e)) ∧ w'.cell? ⟨w.heap.size + 1, 0, none⟩ = some (.pointer (some ⟨c, 0, none⟩)) ∧ w'.cell? ⟨w.heap.size + 1, 1, none⟩ = some (.int .i64 f)) wf := HC3
        refine hK _ _ HC3 ?_
        clear hK K' hi3 hm3 HC3
        repeat (refine wpPl_take (v := ?_) rfl (fun _ _ _ h => h) rfl (fun w' hSw => ?_) hS ?_; rotate_left; focus (go_simp; with_reducible rfl); try simp only [Act.put, List.setIfInBounds_toArray, List.set_cons_zero, List.set_cons_succ])
        clear hS
        refine wpPl_nil ?_
        simp only [List.drop_succ_cons, List.drop_zero]
        obtain ⟨r0, r1, r2, r3⟩ := HO.out.res.cells2
        generalize z * 2 ^ (e - g).toNat + y * 2 ^ (f - g).toNat = R at *
        clear HW HZ HP1 HP2
        go_wp2
        refine bodyPost_ret (v := ExV ib g) (by simp [results, Tryd.results24, go_sem, ExV, r0, r1]) rfl ⟨ib, rfl, (HO.out.store2 _ _).1, (HO.out.store2 _ _).2⟩
    · as_aux_lemma =>
        refine wpPl_run rfl fun K' hK => ?_
        go_simp
        refine (at_any c y f g _ (HY.out.below HW.out.2.2.2) (Nat.le_trans HL2.out (by omega)) (by omega) hg2 (by omega)).mono ?_
        rintro e1 W2 ⟨p2, rfl, hp2, hi1, hb1⟩
        have HV := Lib.hid (HW.out.later hb1)
        refine hK _ _ HV.out.cells.2 ?_
        clear hK K' HW hp2
        have HP2 := Lib.hid hi1
        replace HP1 := Lib.hid (HP1.out.below hb1)
        clear hi1 hb1
        have HW := HV
        clear HV
        refine wpPl_run rfl fun K' hK => ?_
        go_simp
        have HV := Lib.hid (HW.out.later (Below.alloc_self W2 (.cells #[.bool false, .slice none 0 0] 60)))
        refine hK _ _ HV.out.cells.2 ?_
        clear hK K'
        have HZ := Lib.hid (IntK.zero (k := .u64) (s := 64) W2 _ objT_int)
        have HI := Lib.hid (HW.out.2.2.1.lt)
        have HI0 := Lib.hid (HW.out.2.2.2.size)
        replace HP1 := Lib.hid (HP1.out.below (Below.alloc_self W2 (.cells #[.bool false, .slice none 0 0] 60)))
        replace HP2 := Lib.hid (HP2.out.below (Below.alloc_self W2 (.cells #[.bool false, .slice none 0 0] 60)))
        clear HW
        generalize hWn : W2.alloc (.cells #[.bool false, .slice none 0 0] 60) = W3 at *
        generalize W2.heap.size = ib at *
        clear hWn
        have HW := HV
        clear HV
        refine wpPl_run rfl fun K' hK => ?_
        go_simp
        refine (Add_any ib 0 p1 0 p2 0 _ _ _ HZ.out.1 HP1.out HP2.out ?_ ?_).mono ?_
        · exact ln_of_bl (Nat.le_trans (bl_shl _ _) (by have := HL.out; omega))
        · exact ln_of_bl (Nat.le_trans (bl_shl _ _) (by have := HL2.out; omega))
        rintro e1 wf ⟨rfl, hi3, hm3⟩
        have HO : Hid (Own2 w wf (w.heap.size + 1 + 1) 51 #[.pointer none, .int .i64 0] ib (z * 2 ^ (e - g).toNat + y * 2 ^ (f - g).toNat)) := by
          have h4 := HW.out.mod hm3 HI.out HI0.out
          exact Lib.hid ⟨hi3, h4.2.2.1, objT_exact, h4.2.2.2, by have := HI.out; omega, by omega, HI0.out⟩
        have HC3 := (HW.out.mod hm3 HI.out HI0.out).cells.2
        have hS : (fun w' : World => (w'.cell? ⟨w.heap.size, 0, none⟩ = some (.pointer (some ⟨b, 0, none⟩)) ∧ w'.cell? ⟨w.heap.size, 1, none⟩ = some (.int .i64 e)) ∧ w'.cell? ⟨w.heap.size + 1, 0, none⟩ = some (.pointer (some ⟨c, 0, none⟩)) ∧ w'.cell? ⟨w.heap.size + 1, 1, none⟩ = some (.int .i64 f)) wf := HC3
        refine hK _ _ HC3 ?_
        clear hK K' hi3 hm3 HC3
        repeat (refine wpPl_take (v := ?_) rfl (fun _ _ _ h => h) rfl (fun w' hSw => ?_) hS ?_; rotate_left; focus (go_simp; with_reducible rfl); try simp only [Act.put, List.setIfInBounds_toArray, List.set_cons_zero, List.set_cons_succ])
        clear hS
        refine wpPl_nil ?_
        simp only [List.drop_succ_cons, List.drop_zero]
        obtain ⟨r0, r1, r2, r3⟩ := HO.out.res.cells2
        generalize z * 2 ^ (e - g).toNat + y * 2 ^ (f - g).toNat = R at *
        clear HW HZ HP1 HP2
        go_wp2
        refine bodyPost_ret (v := ExV ib g) (by simp [results, Tryd.results24, go_sem, ExV, r0, r1]) rfl ⟨ib, rfl, (HO.out.store2 _ _).1, (HO.out.store2 _ _).2⟩

theorem dyplus_any (b c : Nat) (z e y f : Int) (w : World) (hx : IntAt w b 0 z) (hy : IntAt w c 0 y)
    (hl : bl z.natAbs ≤ 34359738368) (hl2 : bl y.natAbs ≤ 34359738368) (he1 : -8589934592 ≤ e) (he2 : e ≤ 8589934592) (hf1 : -8589934592 ≤ f) (hf2 : f ≤ 8589934592) :
    Calls Tryd.prog 24 #[ExV b e, ExV c f] w (ExAny (plZ z e y f) (plE z e y f) w) := by
  unfold plZ plE
  by_cases hz : z = 0
  · subst hz; rw [if_pos rfl, if_pos rfl]; exact plus_zero b c e y f w hx hy
  · rw [if_neg hz, if_neg hz]
    by_cases h0 : y = 0
    · subst h0; rw [if_pos rfl, if_pos rfl]; exact plus_zero2 b c z e f w hx hy hz
    · rw [if_neg h0, if_neg h0]; exact plus_both b c z e y f _ w hx hy hz h0 rfl hl hl2 he1 he2 hf1 hf2

end Go.Proofs.YtfcddnccmdjhfaaDoor
