/- Plain: a matrix taken apart column by column, in whatever way. No program. -/
import Derived.Test.YtfmecpembnmnkaaGreatDoorLA
import Derived.Test.YtfmecpembnmnkaaGreatDoorGV
import Derived.Deep.CutRange
namespace Go.Proofs.YtfmecpembnmnkaaGreatDoor
section
open Go.RowKit
structure Way (V : Type) where
 zero : V
 less : (Nat → V) → V × Bool → V → V → Nat → V × Bool
 head : V × Bool → V × Int
 over : V × Bool → V → V × Bool
def upd2 {V : Type} (L : Nat → Nat → V) (i j : Nat) (v : V) : Nat → Nat → V := fun a b => if a = i ∧ b = j then v else L a b
theorem upd2_self {V : Type} (L : Nat → Nat → V) (i j : Nat) (v : V) : upd2 L i j v i j = v := if_pos ⟨rfl, rfl⟩
theorem upd2_ne {V : Type} {L : Nat → Nat → V} {i j a b : Nat} {v : V} (h : ¬(a = i ∧ b = j)) : upd2 L i j v a b = L a b := if_neg h
section
variable {V : Type} (W : Way V)
def Way.dw (L : Nat → Nat → V) (H : Nat → V) (i j : Nat) (s : V × Bool) (m : Nat) : V × Bool := itr (fun k s => W.less H s (L i k) (L j k) k) m s
def Way.row (a : Nat → Nat → V) (H : Nat → V) (h : V) (j i : Nat) (s : (Nat → Nat → V) × Bool) : (Nat → Nat → V) × Bool :=
 if i ≤ j then s else (upd2 s.1 i j (W.over (W.dw s.1 H i j (a i j, s.2) j) h).1, (W.over (W.dw s.1 H i j (a i j, s.2) j) h).2)
def Way.rows (a : Nat → Nat → V) (H : Nat → V) (h : V) (j m : Nat) (s : (Nat → Nat → V) × Bool) : (Nat → Nat → V) × Bool := itr (W.row a H h j) m s
end
structure WSt (V : Type) where
 L : Nat → Nat → V
 H : Nat → V
 f : Bool
 e : Int
 p : Nat
section
variable {V : Type} (W : Way V)
def Way.pv (a : Nat → Nat → V) (j : Nat) (s : WSt V) : V × Bool := W.dw s.L s.H j j (a j j, s.f) j
def Way.col (a : Nat → Nat → V) (n j : Nat) (s : WSt V) : WSt V :=
 if s.e ≠ 0 then s
 else if (W.head (W.pv a j s)).2 ≠ 0 then ⟨s.L, s.H, (W.pv a j s).2, (W.head (W.pv a j s)).2, j⟩
 else ⟨(W.rows a (updF s.H j (W.head (W.pv a j s)).1) (W.head (W.pv a j s)).1 j n (s.L, (W.pv a j s).2)).1, updF s.H j (W.head (W.pv a j s)).1, (W.rows a (updF s.H j (W.head (W.pv a j s)).1) (W.head (W.pv a j s)).1 j n (s.L, (W.pv a j s).2)).2, 0, 0⟩
def Way.all (a : Nat → Nat → V) (n m : Nat) : WSt V := itr (W.col a n) m ⟨fun _ _ => W.zero, fun _ => W.zero, false, 0, 0⟩
theorem Way.all_succ (a : Nat → Nat → V) (n m : Nat) : W.all a n (m + 1) = W.col a n m (W.all a n m) := rfl
theorem Way.all_stop (a : Nat → Nat → V) (n m : Nat) (h : (W.all a n m).e ≠ 0) : ∀ k, W.all a n (m + k) = W.all a n m
 | 0 => rfl
 | k + 1 => by
  show W.col a n (m + k) (W.all a n (m + k)) = _
  rw [Way.all_stop a n m h k]
  exact if_pos h
theorem Way.all_bad {a : Nat → Nat → V} {n m : Nat} (h0 : (W.all a n m).e = 0) (h : (W.head (W.pv a m (W.all a n m))).2 ≠ 0) :
  W.all a n (m + 1) = ⟨(W.all a n m).L, (W.all a n m).H, (W.pv a m (W.all a n m)).2, (W.head (W.pv a m (W.all a n m))).2, m⟩ := by
 rw [W.all_succ]
 unfold Way.col
 rw [if_neg (fun t => t h0), if_pos h]
theorem Way.all_good {a : Nat → Nat → V} {n m : Nat} (h0 : (W.all a n m).e = 0) (h : (W.head (W.pv a m (W.all a n m))).2 = 0) :
  W.all a n (m + 1) = ⟨(W.rows a (updF (W.all a n m).H m (W.head (W.pv a m (W.all a n m))).1) (W.head (W.pv a m (W.all a n m))).1 m n ((W.all a n m).L, (W.pv a m (W.all a n m)).2)).1, updF (W.all a n m).H m (W.head (W.pv a m (W.all a n m))).1,
   (W.rows a (updF (W.all a n m).H m (W.head (W.pv a m (W.all a n m))).1) (W.head (W.pv a m (W.all a n m))).1 m n ((W.all a n m).L, (W.pv a m (W.all a n m)).2)).2, 0, 0⟩ := by
 rw [W.all_succ]
 unfold Way.col
 rw [if_neg (fun t => t h0), if_neg (fun t => t h)]
theorem Way.rows_skip (a : Nat → Nat → V) (H : Nat → V) (h : V) (j : Nat) (s : (Nat → Nat → V) × Bool) : ∀ m, m ≤ j + 1 → W.rows a H h j m s = s
 | 0, _ => rfl
 | m + 1, hm => by
  show W.row a H h j m (W.rows a H h j m s) = s
  rw [Way.rows_skip a H h j s m (by omega)]
  exact if_pos (by omega)
theorem Way.rows_succ {a : Nat → Nat → V} {H : Nat → V} {h : V} {j m : Nat} {s : (Nat → Nat → V) × Bool} (hj : j < m) :
  W.rows a H h j (m + 1) s = (upd2 (W.rows a H h j m s).1 m j (W.over (W.dw (W.rows a H h j m s).1 H m j (a m j, (W.rows a H h j m s).2) j) h).1, (W.over (W.dw (W.rows a H h j m s).1 H m j (a m j, (W.rows a H h j m s).2) j) h).2) := by
 show W.row a H h j m (W.rows a H h j m s) = _
 exact if_neg (by omega)
variable {W}
def WSt.res (ov : Int) (s : WSt V) : Int × Nat := if s.e = 0 then (if s.f then (ov, 0) else (0, 0)) else (s.e, if s.e = ov then 0 else s.p)
end
def dgL {V : Type} (L : Nat → Nat → V) (D : Nat → V) (m : Nat) : Nat → Nat → V := fun i j => if i = j ∧ i < m then D i else L i j
def sqO (o : Fo) : Fo := match o with | some x => F6.sqrt x | none => none
def gtO (o : Fo) : Bool := match o with | some x => posB x | none => false
def chW : Way Fo where
 zero := some 0
 less := fun _ s a b _ => lesS s a b
 head := fun s => if s.2 then (some 0, 5) else if gtO s.1 then (sqO s.1, 0) else (some 0, 90)
 over := fun s h => (oA .quo s.1 h, ovr s.2 (oA .quo s.1 h))
end
section
open Go.RowKit
structure MBx (w0 W : World) (mb : Nat) (r c : Int) (sl : Value) : Prop where
 m : BlkT W mb 25 #[.int .i64 r, .int .i64 c, sl]
 b : Below w0.heap.size w0 W
theorem MBx.later {w0 W V : World} {mb : Nat} {r c : Int} {sl : Value} (h : MBx w0 W mb r c sl) (hb : Below W.heap.size W V) : MBx w0 V mb r c sl := ⟨h.m.below hb, h.b.trans (hb.mono h.b.size)⟩
theorem MBx.new (w : World) (r c : Int) (sl : Value) : MBx w (w.alloc (.cells #[.int .i64 r, .int .i64 c, sl] 25)) w.heap.size r c sl := ⟨BlkT.new w _ _, Below.alloc_self w _⟩
theorem MBx.m3 {w0 W : World} {mb : Nat} {r c : Int} {sl : Value} (h : MBx w0 W mb r c sl) : W.cell? ⟨mb, 0, none⟩ = some (.int .i64 r) ∧ W.cell? ⟨mb, 1, none⟩ = some (.int .i64 c) ∧ W.cell? ⟨mb, 2, none⟩ = some sl := ⟨h.m.cell 0, h.m.cell 1, h.m.cell 2⟩
theorem chk_b (r c : Int) (l : List Nat) : chkB r c l = bif decide (0 ≤ r ∧ r ≤ 12) then (bif decide (0 ≤ c ∧ c ≤ 12) then (bif (l.length : Int) == r * c then (bif l.all finB then 0 else 4) else 3) else 1) else 1 := by
 unfold chkB
 by_cases h1 : 0 ≤ r ∧ r ≤ 12
 ·rw [decide_eq_true h1]
  by_cases h2 : 0 ≤ c ∧ c ≤ 12
  ·rw [decide_eq_true h2, if_pos ⟨h1.1, h1.2, h2⟩]
   by_cases h3 : (l.length : Int) = r * c
   ·rw [if_pos h3, beq_iff_eq.2 h3]; cases l.all finB <;> rfl
   ·rw [if_neg h3, beq_eq_false_iff_ne.2 h3]; rfl
  ·rw [decide_eq_false h2, if_neg (fun h => h2 h.2.2)]; rfl
 ·rw [decide_eq_false h1, if_neg (fun h => h1 ⟨h.1, h.2.1⟩)]; rfl
theorem evn_b (r c : Int) (l : List Nat) : evnB r c l = bif chkB r c l == 0 then (bif r == c then 0 else 3) else chkB r c l := by
 unfold evnB
 by_cases h : chkB r c l = 0
 ·rw [if_neg (fun t => t h), beq_iff_eq.2 h]
  by_cases h3 : r = c
  ·rw [if_pos h3, beq_iff_eq.2 h3]; rfl
  ·rw [if_neg h3, beq_eq_false_iff_ne.2 h3]; rfl
 ·rw [if_pos h, beq_eq_false_iff_ne.2 h]; rfl
theorem fit_b (r : Int) (b : List Nat) : fitB r b = bif (b.length : Int) == r then (bif b.all finB then 0 else 4) else 3 := by
 unfold fitB
 by_cases h : (b.length : Int) = r
 ·rw [if_neg (fun t => t h), beq_iff_eq.2 h]; cases b.all finB <;> rfl
 ·rw [if_pos h, beq_eq_false_iff_ne.2 h]; rfl
theorem Sq.chk {n : Nat} {r c : Int} {l : List Nat} (h : Sq n r c l) : chkB r c l = 0 := by
 obtain ⟨rfl, rfl, h1, h2, h3⟩ := h
 unfold chkB
 rw [if_pos (by omega), if_pos (by rw [h2, Int.natCast_mul]), h3]; rfl
theorem Sq.evn {n : Nat} {r c : Int} {l : List Nat} (h : Sq n r c l) : evnB r c l = 0 := by
 have h1 := h.chk
 obtain ⟨rfl, rfl, -⟩ := h
 rw [evn_b, h1]; simp
theorem wrap_rc {r c : Int} (h1 : decide (0 ≤ r ∧ r ≤ 12) = true) (h2 : decide (0 ≤ c ∧ c ≤ 12) = true) : IntKind.i64.wrap (r * c) = r * c := by
 have h1 := of_decide_eq_true h1
 have h2 := of_decide_eq_true h2
 obtain ⟨n, rfl⟩ : ∃ n : Nat, r = n := ⟨r.toNat, by omega⟩
 obtain ⟨m, rfl⟩ : ∃ m : Nat, c = m := ⟨c.toNat, by omega⟩
 rw [← Int.natCast_mul]
 have : n * m ≤ 12 * 12 := Nat.mul_le_mul (by omega) (by omega)
 exact IntWalk.i64_in _ (by omega)
set_option maxRecDepth 100000 in
set_option maxHeartbeats 1600000 in
theorem check_any (r c : Int) (sl : Value) (l : List Nat) (w : World) (hl : FSl w sl l) :
  Calls Tryz.prog 84 #[MatV r c sl] w (Gives (.int .i64 (chkB r c l)) w) := by
 have HF := Lib.hid fun W (h : FSl W sl l) => Finite_any sl l W h
 have HS := Lib.hid fun (n : Int) W => size_any n W
 have HL := Lib.hid hl
 have HM := Lib.hid (MBx.new w r c sl)
 obtain ⟨ao, cap, rfl, hcap, hn, -, -⟩ := id hl
 have HB := Lib.hid (chk_b r c l)
 obtain ⟨rc, hrc⟩ : ∃ x, r * c = x := ⟨_, rfl⟩
 have HW := Lib.hid (fun h1 h2 => (wrap_rc (r := r) (c := c) h1 h2).trans hrc)
 rw [hrc] at HB
 generalize chkB r c l = B at *
 generalize hp1 : decide (0 ≤ r ∧ r ≤ 12) = p1 at *
 generalize hp2 : decide (0 ≤ c ∧ c ≤ 12) = p2 at *
 generalize hp4 : l.all finB = p4 at *
 have HS1 : Hid (∀ W, Calls Tryz.prog 122 #[.int .i64 r] W (Gives (.bool p1) W)) := Lib.hid fun W => by rw [← hp1]; exact HS.out r W
 have HS2 : Hid (∀ W, Calls Tryz.prog 122 #[.int .i64 c] W (Gives (.bool p2) W)) := Lib.hid fun W => by rw [← hp2]; exact HS.out c W
 have HN := Lib.hid hn
 clear hl hcap hn hp1 hp2 hp4 HS
 obtain ⟨p3, hp3⟩ : ∃ p, ((l.length : Int) == rc) = p := ⟨_, rfl⟩
 rw [hp3] at HB
 cases p1
 ·clear hrc hp3
  obtain ⟨q0, q1, q2⟩ := HM.out.m3
  go_enter Tryz.func84, Tryz.ntmps84
  go_wp2_with fail
  refine (HS1.out _).mono ?_
  rintro e1 w1 ⟨rfl, hb1⟩
  replace HM := Lib.hid (HM.out.later hb1)
  clear hb1 q0 q1 q2
  obtain ⟨q0, q1, q2⟩ := HM.out.m3
  go_wp2
  go_ret
  exact ⟨by rw [HB.out]; rfl, HM.out.b⟩
 ·cases p2
  ·clear hrc hp3
   obtain ⟨q0, q1, q2⟩ := HM.out.m3
   go_enter Tryz.func84, Tryz.ntmps84
   go_wp2_with fail
   refine (HS1.out _).mono ?_
   rintro e1 w1 ⟨rfl, hb1⟩
   replace HM := Lib.hid (HM.out.later hb1)
   replace HL := Lib.hid (HL.out.below ((Below.alloc_self w _).trans (hb1.mono (Below.alloc_self w _).size)))
   clear hb1 q0 q1 q2
   obtain ⟨q0, q1, q2⟩ := HM.out.m3
   go_wp2_with fail
   refine (HS2.out _).mono ?_
   rintro e2 w2 ⟨rfl, hb2⟩
   replace HM := Lib.hid (HM.out.later hb2)
   replace HL := Lib.hid (HL.out.below hb2)
   clear hb2 q0 q1 q2
   obtain ⟨q0, q1, q2⟩ := HM.out.m3
   go_wp2
   go_ret
   exact ⟨by rw [HB.out]; rfl, HM.out.b⟩
  ·have hw := HW.out rfl rfl
   skip
   obtain ⟨q0, q1, q2⟩ := HM.out.m3
   go_enter Tryz.func84, Tryz.ntmps84
   go_wp2_with fail
   refine (HS1.out _).mono ?_
   rintro e1 w1 ⟨rfl, hb1⟩
   replace HM := Lib.hid (HM.out.later hb1)
   replace HL := Lib.hid (HL.out.below ((Below.alloc_self w _).trans (hb1.mono (Below.alloc_self w _).size)))
   clear hb1 q0 q1 q2
   obtain ⟨q0, q1, q2⟩ := HM.out.m3
   go_wp2_with fail
   refine (HS2.out _).mono ?_
   rintro e2 w2 ⟨rfl, hb2⟩
   replace HM := Lib.hid (HM.out.later hb2)
   replace HL := Lib.hid (HL.out.below hb2)
   clear hb2 q0 q1 q2
   obtain ⟨q0, q1, q2⟩ := HM.out.m3
   have hn := HN.out
   clear hrc
   cases p3
   ·clear hn
    go_wp2
    go_ret
    exact ⟨by rw [HB.out]; rfl, HM.out.b⟩
   ·go_wp2_with fail
    refine (HF.out _ HL.out).mono ?_
    rintro e3 w3 ⟨rfl, hb3⟩
    replace HM := Lib.hid (HM.out.later hb3)
    clear hb3 q0 q1 q2 hw hp3 hn
    cases p4
    ·go_wp2
     go_ret
     exact ⟨by rw [HB.out]; rfl, HM.out.b⟩
    ·go_wp2
     go_ret
     exact ⟨by rw [HB.out]; rfl, HM.out.b⟩
set_option maxRecDepth 100000 in
set_option maxHeartbeats 1600000 in
theorem even_any (r c : Int) (sl : Value) (l : List Nat) (w : World) (hl : FSl w sl l) :
  Calls Tryz.prog 81 #[MatV r c sl] w (Gives (.int .i64 (evnB r c l)) w) := by
 have HC := Lib.hid fun W (h : FSl W sl l) => check_any r c sl l W h
 have HL := Lib.hid hl
 have HM := Lib.hid (MBx.new w r c sl)
 obtain ⟨ao, cap, rfl, -⟩ := id hl
 have HB := Lib.hid (evn_b r c l)
 replace HL := Lib.hid (HL.out.below (Below.alloc_self w (.cells #[.int .i64 r, .int .i64 c, .slice ao l.length cap] 25)))
 generalize evnB r c l = B at *
 generalize chkB r c l = k at *
 obtain ⟨p3, hp3⟩ : ∃ p, (r == c) = p := ⟨_, rfl⟩
 rw [hp3] at HB
 obtain ⟨p1, hp1⟩ : ∃ p, (k == 0) = p := ⟨_, rfl⟩
 rw [hp1] at HB
 clear hl
 cases p1
 ·clear hp3
  obtain ⟨q0, q1, q2⟩ := HM.out.m3
  go_enter Tryz.func81, Tryz.ntmps81
  go_wp2_with fail
  refine (HC.out _ HL.out).mono ?_
  rintro e1 w1 ⟨rfl, hb1⟩
  replace HM := Lib.hid (HM.out.later hb1)
  clear hb1 q0 q1 q2
  obtain ⟨q0, q1, q2⟩ := HM.out.m3
  go_wp2
  go_ret
  exact ⟨by rw [HB.out]; rfl, HM.out.b⟩
 ·obtain ⟨q0, q1, q2⟩ := HM.out.m3
  go_enter Tryz.func81, Tryz.ntmps81
  go_wp2_with fail
  refine (HC.out _ HL.out).mono ?_
  rintro e1 w1 ⟨rfl, hb1⟩
  replace HM := Lib.hid (HM.out.later hb1)
  clear hb1 q0 q1 q2
  obtain ⟨q0, q1, q2⟩ := HM.out.m3
  clear HL
  obtain rfl : k = 0 := by simpa using hp1
  cases p3
  ·go_wp2
   go_ret
   exact ⟨by rw [HB.out]; rfl, HM.out.b⟩
  ·go_wp2
   go_ret
   exact ⟨by rw [HB.out]; rfl, HM.out.b⟩
set_option maxRecDepth 100000 in
set_option maxHeartbeats 1600000 in
theorem fits_any (r : Int) (bv : Value) (b : List Nat) (w : World) (hb : FSl w bv b) :
  Calls Tryz.prog 82 #[.int .i64 r, bv] w (Gives (.int .i64 (fitB r b)) w) := by
 have HF := Lib.hid fun W (h : FSl W bv b) => Finite_any bv b W h
 have HL := Lib.hid hb
 obtain ⟨ao, cap, rfl, -, hn, -⟩ := id hb
 have HB := Lib.hid (fit_b r b)
 generalize fitB r b = B at *
 obtain ⟨p3, hp3⟩ : ∃ p, ((b.length : Int) == r) = p := ⟨_, rfl⟩
 rw [hp3] at HB
 generalize b.all finB = p4 at *
 clear hb
 cases p3
 ·go_enter Tryz.func82, Tryz.ntmps82
  go_wp2
  go_ret
  exact ⟨by rw [HB.out]; rfl, Below.refl _ _⟩
 ·go_enter Tryz.func82, Tryz.ntmps82
  go_wp2_with fail
  refine (HF.out _ HL.out).mono ?_
  rintro e1 w1 ⟨rfl, hb1⟩
  have HE := Lib.hid hb1
  clear hb1 hp3 hn HL HF
  cases p4
  ·go_wp2
   go_ret
   exact ⟨by rw [HB.out]; rfl, HE.out⟩
  ·go_wp2
   go_ret
   exact ⟨by rw [HB.out]; rfl, HE.out⟩
def shpB (r c : Int) (n : Nat) : Int := bif decide (0 ≤ r ∧ r ≤ 12) then (bif decide (0 ≤ c ∧ c ≤ 12) then (bif (n : Int) == r * c then 0 else 3) else 1) else 1
theorem chk_shp (r c : Int) (l : List Nat) : chkB r c l = bif shpB r c l.length == 0 then (bif l.all finB then 0 else 4) else shpB r c l.length := by
 rw [chk_b]; unfold shpB
 cases decide (0 ≤ r ∧ r ≤ 12) <;> cases decide (0 ≤ c ∧ c ≤ 12) <;> cases (l.length : Int) == r * c <;> cases l.all finB <;> rfl
set_option maxRecDepth 100000 in
set_option maxHeartbeats 1600000 in
theorem shape_any (r c : Int) (n : Nat) (w : World) :
  Calls Tryz.prog 90 #[.int .i64 r, .int .i64 c, .int .i64 n] w (Gives (.int .i64 (shpB r c n)) w) := by
 have HW := Lib.hid (fun h1 h2 => wrap_rc (r := r) (c := c) h1 h2)
 have HB : Hid (shpB r c n = bif decide (0 ≤ r ∧ r ≤ 12) then (bif decide (0 ≤ c ∧ c ≤ 12) then (bif (n : Int) == r * c then 0 else 3) else 1) else 1) := Lib.hid rfl
 generalize shpB r c n = B at *
 by_cases a1 : r < 0
 ·have g1 := decide_eq_true a1
  rw [decide_eq_false (show ¬ (0 ≤ r ∧ r ≤ 12) by omega)] at HB
  clear HW a1
  go_enter Tryz.func90, Tryz.ntmps90
  go_wp2
  go_ret
  exact ⟨by rw [HB.out]; rfl, Below.refl _ _⟩
 have g1 := decide_eq_false a1
 by_cases a2 : 12 < r
 ·have g2 := decide_eq_true a2
  rw [decide_eq_false (show ¬ (0 ≤ r ∧ r ≤ 12) by omega)] at HB
  clear HW a1 a2
  go_enter Tryz.func90, Tryz.ntmps90
  go_wp2
  go_ret
  exact ⟨by rw [HB.out]; rfl, Below.refl _ _⟩
 have g2 := decide_eq_false a2
 rw [decide_eq_true (show 0 ≤ r ∧ r ≤ 12 by omega)] at HB HW
 by_cases a3 : c < 0
 ·have g3 := decide_eq_true a3
  rw [decide_eq_false (show ¬ (0 ≤ c ∧ c ≤ 12) by omega)] at HB
  clear HW a1 a2 a3
  go_enter Tryz.func90, Tryz.ntmps90
  go_wp2
  go_ret
  exact ⟨by rw [HB.out]; rfl, Below.refl _ _⟩
 have g3 := decide_eq_false a3
 by_cases a4 : 12 < c
 ·have g4 := decide_eq_true a4
  rw [decide_eq_false (show ¬ (0 ≤ c ∧ c ≤ 12) by omega)] at HB
  clear HW a1 a2 a3 a4
  go_enter Tryz.func90, Tryz.ntmps90
  go_wp2
  go_ret
  exact ⟨by rw [HB.out]; rfl, Below.refl _ _⟩
 have g4 := decide_eq_false a4
 rw [decide_eq_true (show 0 ≤ c ∧ c ≤ 12 by omega)] at HB HW
 obtain ⟨rc, hrc⟩ : ∃ x, r * c = x := ⟨_, rfl⟩
 have hw := (HW.out rfl rfl).trans hrc
 rw [hrc] at HB
 clear a1 a2 a3 a4 HW hrc
 obtain ⟨p3, hp3⟩ : ∃ p, ((n : Int) == rc) = p := ⟨_, rfl⟩
 rw [hp3] at HB
 cases p3
 ·go_enter Tryz.func90, Tryz.ntmps90
  go_wp2
  go_ret
  exact ⟨by rw [HB.out]; rfl, Below.refl _ _⟩
 ·go_enter Tryz.func90, Tryz.ntmps90
  go_wp2
  go_ret
  exact ⟨by rw [HB.out]; rfl, Below.refl _ _⟩
set_option maxRecDepth 100000 in
set_option maxHeartbeats 1600000 in
theorem good_any (r c : Int) (sl : Value) (l : List Nat) (w : World) (hl : FSl w sl l) :
  Calls Tryz.prog 37 #[MatV r c sl] w (Gives (.int .i64 (chkB r c l)) w) := by
 have HF := Lib.hid fun W (h : FSl W sl l) => rAllFinite_any sl l W h
 have HS := Lib.hid fun W => shape_any r c l.length W
 have HL := Lib.hid hl
 have HM := Lib.hid (MBx.new w r c sl)
 obtain ⟨ao, cap, rfl, -⟩ := id hl
 have HB := Lib.hid (chk_shp r c l)
 replace HL := Lib.hid (HL.out.below (Below.alloc_self w (.cells #[.int .i64 r, .int .i64 c, .slice ao l.length cap] 25)))
 generalize chkB r c l = B at *
 generalize shpB r c l.length = k at *
 generalize l.all finB = p4 at *
 obtain ⟨p1, hp1⟩ : ∃ p, (k == 0) = p := ⟨_, rfl⟩
 rw [hp1] at HB
 clear hl
 cases p1
 ·obtain ⟨q0, q1, q2⟩ := HM.out.m3
  go_enter Tryz.func37, Tryz.ntmps37
  go_wp2_with fail
  refine (HS.out _).mono ?_
  rintro e1 w1 ⟨rfl, hb1⟩
  replace HM := Lib.hid (HM.out.later hb1)
  replace HL := Lib.hid (HL.out.below hb1)
  clear hb1 q0 q1 q2
  obtain ⟨q0, q1, q2⟩ := HM.out.m3
  go_wp2
  go_ret
  exact ⟨by rw [HB.out]; rfl, HM.out.b⟩
 ·obtain ⟨q0, q1, q2⟩ := HM.out.m3
  go_enter Tryz.func37, Tryz.ntmps37
  go_wp2_with fail
  refine (HS.out _).mono ?_
  rintro e1 w1 ⟨rfl, hb1⟩
  replace HM := Lib.hid (HM.out.later hb1)
  replace HL := Lib.hid (HL.out.below hb1)
  clear hb1 q0 q1 q2
  obtain ⟨q0, q1, q2⟩ := HM.out.m3
  obtain rfl : k = 0 := by simpa using hp1
  go_wp2_with fail
  refine (HF.out _ HL.out).mono ?_
  rintro e1 w1 ⟨rfl, hb1⟩
  replace HM := Lib.hid (HM.out.later hb1)
  clear hb1 HL HF q0 q1 q2
  cases p4
  ·go_wp2
   go_ret
   exact ⟨by rw [HB.out]; rfl, HM.out.b⟩
  ·go_wp2
   go_ret
   exact ⟨by rw [HB.out]; rfl, HM.out.b⟩
set_option maxRecDepth 100000 in
set_option maxHeartbeats 1600000 in
theorem aSame_any (x y : Nat) (w : World) (hx : x < 18446744073709551616) (hy : y < 18446744073709551616) (fx : finB x = true) (fy : finB y = true) :
  Calls Tryz.prog 132 #[.float .f64 x, .float .f64 y] w (Gives (.bool (x == y)) w) := by
 have HCX := Lib.hid fun w => canon_any x w hx
 have HCY := Lib.hid fun w => canon_any y w hy
 have HO := Lib.hid fun w => of_any w
 have h0 := fbits_eq x
 have h1 := fbits_eq y
 rw [canon_fin fx] at HCX
 rw [canon_fin fy] at HCY
 clear hx hy fx fy
 have HE : Hid (((x : Int) == (y : Int)) = (x == y)) := Lib.hid (by rw [Bool.eq_iff_iff, beq_iff_eq, beq_iff_eq]; omega)
 generalize hq : (x == y) = q at *
 unfold F64 at *
 go_enter Tryz.func132, Tryz.ntmps132
 have HB := Lib.hid (Below.refl w.heap.size w)
 go_wp2_with fail
 refine (HO.out _).mono ?_
 rintro e0 w0 ⟨rfl, hb1⟩
 replace HB := Lib.hid (HB.out.trans (hb1.mono HB.out.size))
 clear hb1
 go_wp2_with fail
 refine (HCX.out _).mono ?_
 rintro e1 w1 ⟨rfl, hb1⟩
 replace HB := Lib.hid (HB.out.trans (hb1.mono HB.out.size))
 clear hb1
 go_wp2_with fail
 refine (HO.out _).mono ?_
 rintro e2 w2 ⟨rfl, hb1⟩
 replace HB := Lib.hid (HB.out.trans (hb1.mono HB.out.size))
 clear hb1
 go_wp2_with fail
 refine (HCY.out _).mono ?_
 rintro e3 w3 ⟨rfl, hb1⟩
 replace HB := Lib.hid (HB.out.trans (hb1.mono HB.out.size))
 clear hb1
 have he := HE.out
 go_wp2
 go_ret
 exact ⟨by first | rfl | rw [he] | simp [he, hq], HB.out⟩
set_option maxRecDepth 100000 in
set_option maxHeartbeats 1600000 in
theorem rSame_any (x y : Nat) (w : World) (_hx : x < 18446744073709551616) (_hy : y < 18446744073709551616) (fx : finB x = true) (fy : finB y = true) :
  Calls Tryz.prog 89 #[.float .f64 x, .float .f64 y] w (Gives (.bool (x == y)) w) := by
 have HCX := Lib.hid fun w => rBits_any x w
 have HCY := Lib.hid fun w => rBits_any y w
 rw [canon_fin fx] at HCX
 rw [canon_fin fy] at HCY
 clear _hx _hy fx fy
 have HE : Hid (((x : Int) == (y : Int)) = (x == y)) := Lib.hid (by rw [Bool.eq_iff_iff, beq_iff_eq, beq_iff_eq]; omega)
 generalize hq : (x == y) = q at *
 go_enter Tryz.func89, Tryz.ntmps89
 have HB := Lib.hid (Below.refl w.heap.size w)
 go_wp2_with fail
 refine (HCX.out _).mono ?_
 rintro e0 w0 ⟨rfl, hb1⟩
 replace HB := Lib.hid (HB.out.trans (hb1.mono HB.out.size))
 clear hb1
 go_wp2_with fail
 refine (HCY.out _).mono ?_
 rintro e1 w1 ⟨rfl, hb1⟩
 replace HB := Lib.hid (HB.out.trans (hb1.mono HB.out.size))
 clear hb1
 have he := HE.out
 go_wp2
 go_ret
 exact ⟨by first | rfl | rw [he] | simp [he, hq], HB.out⟩
end
section
open Go.RowKit
set_option maxRecDepth 100000 in
theorem mAt_any (i j c k : Nat) (r : Int) (sl : Value) (l : List Nat) (w : World) (hl : FSl w sl l) (hk : i * c + j = k) (h : k < l.length) :
  Calls Tryz.prog 130 #[MatV r c sl, .int .i64 i, .int .i64 j] w (Gives (.float .f64 l[k]) w) := by
 obtain ⟨ao, cap, rfl, hcap, hn, -, hc⟩ := hl
 obtain ⟨b, off, rfl, hb, hcc⟩ := hc (by omega)
 obtain ⟨m, hm⟩ : ∃ m, i * c = m := ⟨_, rfl⟩
 rw [hm] at hk
 have hw1 : IntKind.i64.wrap ((i : Int) * (c : Int)) = (m : Int) := by rw [← Int.natCast_mul, hm]; exact IntWalk.i64_in _ (by omega)
 have hw2 : IntKind.i64.wrap ((m : Int) + (j : Int)) = (k : Int) := by rw [show (m : Int) + (j : Int) = (k : Int) by omega]; exact IntWalk.i64_in _ (by omega)
 have HB := Lib.hid (Below.alloc_self w (.cells #[.int .i64 r, .int .i64 c, .slice (some ⟨b, off, none⟩) l.length cap] 25))
 have hck := (HB.out.cell (p := ⟨b, off + k, none⟩) hb).trans (hcc k h)
 obtain ⟨q0, q1, q2, -⟩ := (BlkT.new w #[.int .i64 r, .int .i64 c, .slice (some ⟨b, off, none⟩) l.length cap] 25).cells3
 clear hcc hc hm hb
 generalize l[k] = x at *
 go_enter Tryz.func130, Tryz.ntmps130
 go_wp2
 go_ret
 exact ⟨rfl, HB.out⟩
def AtG (F n : Nat) (sl : Value) (l : List Nat) (w : World) : Prop := ∀ i j W, i < n → j < n → Below w.heap.size w W → Calls Tryz.prog F #[MatV n n sl, .int .i64 i, .int .i64 j] W (Gives (.float .f64 (atN n l i j)) W)
theorem atG_of {F n : Nat} {sl : Value} {l : List Nat} {w : World} (hl : FSl w sl l) (hll : l.length = n * n)
  (hF : ∀ (i j c k : Nat) (r : Int) (sl : Value) (l : List Nat) (w : World) (_ : FSl w sl l) (_ : i * c + j = k) (h : k < l.length), Calls Tryz.prog F #[MatV r c sl, .int .i64 i, .int .i64 j] w (Gives (.float .f64 l[k]) w)) : AtG F n sl l w := fun i j W hi hj hu => by
 have hk : i * n + j < l.length := by rw [hll]; exact at_lt hi hj
 have := hF i j n _ n sl l W (hl.below hu) rfl hk
 rwa [atN_get hk] at this
theorem Sq.fin_at {n : Nat} {r c : Int} {l : List Nat} (h : Sq n r c l) {i j : Nat} (hi : i < n) (hj : j < n) : finB (atN n l i j) = true := by
 have hk : i * n + j < l.length := by rw [h.len]; exact at_lt hi hj
 rw [← atN_get hk]
 exact List.all_eq_true.1 h.fin _ (List.getElem_mem hk)
theorem FSl.at_lt {n : Nat} {r c : Int} {l : List Nat} {w : World} {sl : Value} (h : FSl w sl l) (q : Sq n r c l) {i j : Nat} (hi : i < n) (hj : j < n) : atN n l i j < 18446744073709551616 := by
 have hk : i * n + j < l.length := by rw [q.len]; exact Go.Proofs.YtfmecpembnmnkaaGreatDoor.at_lt hi hj
 rw [← atN_get hk]
 obtain ⟨_, _, _, _, _, hx, _⟩ := h
 exact hx _ (List.getElem_mem hk)
theorem sym_step {n k q : Nat} {l : List Nat} (h : ∀ j, j < q → atN n l k j = atN n l j k) (e : (atN n l k q == atN n l q k) = true) : ∀ j, j < q + 1 → atN n l k j = atN n l j k := fun j hj => by
 rcases Nat.lt_or_eq_of_le (Nat.le_of_lt_succ hj) with h1 | rfl
 ·exact h j h1
 ·exact eq_of_beq e
theorem sym_row {n k : Nat} {l : List Nat} (h : ∀ i, i < k → ∀ j, j < i → atN n l i j = atN n l j i) (e : ∀ j, j < k → atN n l k j = atN n l j k) : ∀ i, i < k + 1 → ∀ j, j < i → atN n l i j = atN n l j i := fun i hi => by
 rcases Nat.lt_or_eq_of_le (Nat.le_of_lt_succ hi) with h1 | rfl
 ·exact h i h1
 ·exact e
theorem sym_no {n k q : Nat} {l : List Nat} (hk : k < n) (hq : q < k) (e : (atN n l k q == atN n l q k) = false) : decide (SymP n l) = false := decide_eq_false fun h => (beq_eq_false_iff_ne.1 e) (h k hk q hq)
set_option maxRecDepth 100000 in
set_option maxHeartbeats 1600000 in
theorem symm_any (n : Nat) (sl : Value) (l : List Nat) (w : World) (hl : FSl w sl l) (hq : Sq n n n l) :
  Calls Tryz.prog 92 #[MatV n n sl] w (Gives (.bool (decide (SymP n l))) w) := by
 have HAT := Lib.hid (atG_of (n := n) hl hq.len mAt_any)
 have HLT := Lib.hid fun (i j : Nat) (hi : i < n) (hj : j < n) => And.intro (hl.at_lt hq hi hj) (hq.fin_at hi hj)
 have HSA := Lib.hid fun (x y : Nat) W (hx : x < 18446744073709551616 ∧ finB x = true) (hy : y < 18446744073709551616 ∧ finB y = true) => aSame_any x y W hx.1 hy.1 hx.2 hy.2
 have HM := Lib.hid (MBx.new w n n sl)
 have HC := Lib.hid (check_any n n sl l _ (hl.below (Below.alloc_self w (.cells #[.int .i64 n, .int .i64 n, sl] 25))))
 rw [hq.chk] at HC
 have hn := hq.hn
 clear hl hq
 obtain ⟨q0, q1, q2⟩ := HM.out.m3
 go_enter Tryz.func92, Tryz.ntmps92
 go_wp2_with fail
 refine (HC.out).mono ?_
 rintro e1 w1 ⟨rfl, hb1⟩
 replace HM := Lib.hid (HM.out.later hb1)
 clear hb1 q0 q1 q2 HC
 obtain ⟨q0, q1, q2⟩ := HM.out.m3
 go_wp2
 go_loopw [17] (fun i wr => ∃ k : Nat, k ≤ n ∧ i = .int .i64 k ∧ Hid (∀ i, i < k → ∀ j, j < i → atN n l i j = atN n l j i) ∧ Hid (MBx w wr w.heap.size n n sl)) (fun i _ => n - (intOf i).toNat)
 case atStart => exact ⟨0, Nat.zero_le _, rfl, Lib.hid (fun _ h => absurd h (Nat.not_lt_zero _)), HM⟩
 case round =>
  clear HM
  obtain ⟨k, hk, rfl, HA, HM⟩ := hrel
  obtain ⟨q0, q1, q2⟩ := HM.out.m3
  by_cases hlt : k < n
  ·go_wp2
   go_loopw [21] (fun j wr => ∃ q : Nat, q ≤ k ∧ j = .int .i64 q ∧ Hid (∀ j, j < q → atN n l k j = atN n l j k) ∧ Hid (MBx w wr w.heap.size n n sl)) (fun j _ => k - (intOf j).toNat)
   case atStart => exact ⟨0, Nat.zero_le _, rfl, Lib.hid (fun _ h => absurd h (Nat.not_lt_zero _)), HM⟩
   case round =>
    clear HM q0 q1 q2
    obtain ⟨q, hq2, rfl, HI, HM⟩ := hrel
    obtain ⟨q0, q1, q2⟩ := HM.out.m3
    by_cases hql : q < k
    ·have hqn : q < n := by omega
     have HE := Lib.hid fun e => sym_step HI.out e
     have HN := Lib.hid fun e => sym_no (l := l) hlt hql e
     have HX := Lib.hid (HLT.out k q hlt hqn)
     have HY := Lib.hid (HLT.out q k hqn hlt)
     clear q0 q1 q2
     go_upto_region 9 with fail
     refine wp_region_pl (fun w' : World => w'.cell? ⟨w.heap.size, 0, none⟩ = some (.int .i64 n) ∧ w'.cell? ⟨w.heap.size, 1, none⟩ = some (.int .i64 n) ∧ w'.cell? ⟨w.heap.size, 2, none⟩ = some sl) 7 (.take 0 (.take 1 (.take 2 (.take 4 (.take 5 (.take 6 (.run 3 .nil))))))) (by kernel_rfl) (by kernel_rfl) ?_
     replace HM := Lib.hid (HM.out.later (drew_below _))
     generalize World.drew _ = W5 at HM ⊢
     repeat (refine tkL (v := ?_) rfl rfl rfl (fun w' hSw => ?_) HM.out.m3 ?_; rotate_left; (focus (go_simp; with_reducible rfl)); simp only [setL])
     refine wpPl_goL rfl rfl fun K' hK => ?_
     go_simp
     refine (HAT.out k q _ (by omega) (by omega) HM.out.b).mono ?_
     rintro e1 W5v1 ⟨rfl, hb1⟩
     replace HM := Lib.hid (HM.out.later hb1)
     refine hK _ _ HM.out.m3 ?_
     clear hK K' hb1
     try simp only [Act.put, setL]
     repeat (refine tkL (v := ?_) rfl rfl rfl (fun w' hSw => ?_) HM.out.m3 ?_; rotate_left; (focus (go_simp; with_reducible rfl)); simp only [setL])
     refine wpPl_nil ?_
     simp only [drL]
     go_wp2_with fail
     refine (HAT.out q k _ (by omega) (by omega) HM.out.b).mono ?_
     rintro e2 w2 ⟨rfl, hb1⟩
     replace HM := Lib.hid (HM.out.later hb1)
     clear hb1
     go_wp2_with fail
     refine (HSA.out _ _ _ HX.out HY.out).mono ?_
     rintro e3 w3 ⟨rfl, hb1⟩
     replace HM := Lib.hid (HM.out.later hb1)
     clear hb1 HX HY
     obtain ⟨b, hb⟩ : ∃ b, (atN n l k q == atN n l q k) = b := ⟨_, rfl⟩
     rw [hb] at HE HN ⊢
     cases b
     ·have HR := Lib.hid (HN.out rfl)
      clear hb
      go_wp2
      go_ret
      exact ⟨by rw [HR.out]; rfl, HM.out.b⟩
     ·have HR := Lib.hid (HE.out rfl)
      clear hb
      obtain ⟨q0, q1, q2⟩ := HM.out.m3
      go_wp2
      go_roundw
      case rel => exact ⟨q + 1, by omega, by go_num, HR, HM⟩
      case measure => simp [intOf]; omega
    ·obtain rfl : q = k := by omega
     go_wp2
     go_roundw
     case rel => exact ⟨q + 1, by omega, by go_num, Lib.hid (sym_row HA.out HI.out), HM⟩
     case measure => simp [intOf]; omega
  ·obtain rfl : k = n := by omega
   have HR : Hid (decide (SymP k l) = true) := Lib.hid (decide_eq_true HA.out)
   go_wp2
   go_ret
   exact ⟨by rw [HR.out]; rfl, HM.out.b⟩
theorem sqr_b (r c : Int) (l : List Nat) : sqrB r c l = bif chkB r c l == 0 then (bif r == c then (bif decide (SymP r.toNat l) then 0 else 91) else 3) else chkB r c l := by
 unfold sqrB
 have h0 := evn_b r c l
 by_cases h : chkB r c l = 0
 ·rw [beq_iff_eq.2 h] at h0 ⊢
  by_cases h3 : r = c
  ·rw [beq_iff_eq.2 h3] at h0 ⊢
   rw [show evnB r c l = 0 from h0, if_neg (fun t => t rfl)]
   by_cases h4 : SymP r.toNat l
   ·rw [if_pos h4, decide_eq_true h4]; rfl
   ·rw [if_neg h4, decide_eq_false h4]; rfl
  ·rw [beq_eq_false_iff_ne.2 h3] at h0 ⊢
   rw [show evnB r c l = 3 from h0, if_pos (by decide)]; rfl
 ·rw [beq_eq_false_iff_ne.2 h] at h0 ⊢
  rw [show evnB r c l = chkB r c l from h0, if_pos h]; rfl
theorem sq_of {r c : Int} {l : List Nat} (h1 : (chkB r c l == 0) = true) (h2 : (r == c) = true) : ∃ n : Nat, r = n ∧ c = n ∧ Sq n n n l := by
 have h : evnB r c l = 0 := by rw [evn_b, h1, h2]; rfl
 have hq := evn_zero h
 have h3 := hq.hr
 have h4 := hq.hc
 exact ⟨r.toNat, h3, h4, ⟨rfl, rfl, hq.hn, hq.len, hq.fin⟩⟩
theorem below_lit {w W : World} {o : _root_.Go.Obj} (h : Below (w.alloc o).heap.size (w.alloc o) W) : Below w.heap.size w W := (Below.alloc_self w o).trans (h.mono (Below.alloc_self w o).size)
set_option maxRecDepth 100000 in
set_option maxHeartbeats 1600000 in
theorem csquare_any (r c : Int) (sl : Value) (l : List Nat) (w : World) (hl : FSl w sl l) :
  Calls Tryz.prog 39 #[MatV r c sl] w (Gives (.int .i64 (sqrB r c l)) w) := by
 have HC := Lib.hid (even_any r c sl l _ (hl.below (Below.alloc_self w (.cells #[.int .i64 r, .int .i64 c, sl] 25))))
 have HM := Lib.hid (MBx.new w r c sl)
 have HB : Hid (sqrB r c l = _) := Lib.hid rfl
 generalize hS : sqrB r c l = B at *
 by_cases h : evnB r c l = 0
 ·have hq := evn_zero h
  rw [h] at HC
  obtain ⟨n, hn⟩ : ∃ n, r.toNat = n := ⟨_, rfl⟩
  have hr := hq.hr
  have hc := hq.hc
  rw [hn] at hq hr hc
  subst hr hc
  have HB2 : Hid (B = bif decide (SymP n l) then 0 else 91) := Lib.hid (by rw [← hS]; unfold sqrB; rw [if_neg (fun t => t h)]; simp only [Int.toNat_natCast]; by_cases h4 : SymP n l <;> simp [h4])
  have HSY := Lib.hid fun W (hb : Below w.heap.size w W) => symm_any n sl l W (hl.below hb) ⟨rfl, rfl, hq.hn, hq.len, hq.fin⟩
  generalize decide (SymP n l) = b at *
  clear HB hq hl h hn hS
  obtain ⟨q0, q1, q2⟩ := HM.out.m3
  go_enter Tryz.func39, Tryz.ntmps39
  go_wp2_with fail
  refine HC.out.mono ?_
  rintro e1 w1 ⟨rfl, hb1⟩
  replace HM := Lib.hid (HM.out.later hb1)
  have HBL := Lib.hid (below_lit hb1)
  clear hb1 q0 q1 q2
  obtain ⟨q0, q1, q2⟩ := HM.out.m3
  go_wp2_with fail
  refine (HSY.out _ HBL.out).mono ?_
  rintro e2 w2 ⟨rfl, hb1⟩
  replace HM := Lib.hid (HM.out.later hb1)
  clear hb1 q0 q1 q2 HSY
  cases b
  ·go_wp2
   go_ret
   exact ⟨by rw [HB2.out]; rfl, HM.out.b⟩
  ·go_wp2
   go_ret
   exact ⟨by rw [HB2.out]; rfl, HM.out.b⟩
 ·have HB2 : Hid (B = evnB r c l) := Lib.hid (by rw [← hS]; unfold sqrB; rw [if_pos h])
  have hp1 := beq_eq_false_iff_ne.2 h
  generalize evnB r c l = k at *
  clear HB h hl hS
  obtain ⟨q0, q1, q2⟩ := HM.out.m3
  go_enter Tryz.func39, Tryz.ntmps39
  go_wp2_with fail
  refine HC.out.mono ?_
  rintro e1 w1 ⟨rfl, hb1⟩
  replace HM := Lib.hid (HM.out.later hb1)
  have HBL := Lib.hid (below_lit hb1)
  clear hb1 q0 q1 q2
  obtain ⟨q0, q1, q2⟩ := HM.out.m3
  go_wp2
  go_ret
  exact ⟨by rw [HB2.out]; rfl, HM.out.b⟩
set_option maxRecDepth 100000 in
set_option maxHeartbeats 1600000 in
theorem rsymm_any (r c : Int) (sl : Value) (l : List Nat) (w : World) (hl : FSl w sl l) :
  Calls Tryz.prog 36 #[MatV r c sl] w (Gives (.int .i64 (sqrB r c l)) w) := by
 have HC := Lib.hid (good_any r c sl l _ (hl.below (Below.alloc_self w (.cells #[.int .i64 r, .int .i64 c, sl] 25))))
 have HM := Lib.hid (MBx.new w r c sl)
 have HB := Lib.hid (sqr_b r c l)
 have HSQ := Lib.hid (fun h1 h2 => sq_of (r := r) (c := c) (l := l) h1 h2)
 generalize sqrB r c l = B at *
 generalize hk : chkB r c l = k at *
 obtain ⟨p3, hp3⟩ : ∃ p, (r == c) = p := ⟨_, rfl⟩
 rw [hp3] at HB HSQ
 obtain ⟨p1, hp1⟩ : ∃ p, (k == 0) = p := ⟨_, rfl⟩
 rw [hp1] at HB HSQ
 cases p1
 ·clear hp3 hl HSQ
  obtain ⟨q0, q1, q2⟩ := HM.out.m3
  go_enter Tryz.func36, Tryz.ntmps36
  go_wp2_with fail
  refine HC.out.mono ?_
  rintro e1 w1 ⟨rfl, hb1⟩
  replace HM := Lib.hid (HM.out.later hb1)
  clear hb1 q0 q1 q2
  obtain ⟨q0, q1, q2⟩ := HM.out.m3
  go_wp2
  go_ret
  exact ⟨by rw [HB.out]; rfl, HM.out.b⟩
 ·obtain rfl : k = 0 := by simpa using hp1
  clear hp1
  cases p3
  ·clear hl HSQ
   obtain ⟨q0, q1, q2⟩ := HM.out.m3
   go_enter Tryz.func36, Tryz.ntmps36
   go_wp2_with fail
   refine HC.out.mono ?_
   rintro e1 w1 ⟨rfl, hb1⟩
   replace HM := Lib.hid (HM.out.later hb1)
   clear hb1 q0 q1 q2
   obtain ⟨q0, q1, q2⟩ := HM.out.m3
   go_wp2
   go_ret
   exact ⟨by rw [HB.out]; rfl, HM.out.b⟩
  ·obtain ⟨n, rfl, rfl, hq⟩ := HSQ.out rfl rfl
   clear HSQ hp3 hk
   have HB : Hid (B = bif decide (SymP n l) then 0 else 91) := Lib.hid (by simpa using HB.out)
   have HAT := Lib.hid (atG_of (n := n) hl hq.len rAt_any)
   have HLT := Lib.hid fun (i j : Nat) (hi : i < n) (hj : j < n) => And.intro (hl.at_lt hq hi hj) (hq.fin_at hi hj)
   have HSA := Lib.hid fun (x y : Nat) W (hx : x < 18446744073709551616 ∧ finB x = true) (hy : y < 18446744073709551616 ∧ finB y = true) => rSame_any x y W hx.1 hy.1 hx.2 hy.2
   have hn := hq.hn
   clear hl hq
   obtain ⟨q0, q1, q2⟩ := HM.out.m3
   go_enter Tryz.func36, Tryz.ntmps36
   go_wp2_with fail
   refine HC.out.mono ?_
   rintro e1 w1 ⟨rfl, hb1⟩
   replace HM := Lib.hid (HM.out.later hb1)
   clear hb1 q0 q1 q2
   obtain ⟨q0, q1, q2⟩ := HM.out.m3
   go_wp2
   go_loopw [4] (fun i wr => ∃ k : Nat, k ≤ n ∧ i = .int .i64 k ∧ Hid (∀ i, i < k → ∀ j, j < i → atN n l i j = atN n l j i) ∧ Hid (MBx w wr w.heap.size n n sl)) (fun i _ => n - (intOf i).toNat)
   case atStart => exact ⟨0, Nat.zero_le _, rfl, Lib.hid (fun _ h => absurd h (Nat.not_lt_zero _)), HM⟩
   case round =>
    clear HM
    obtain ⟨k, hk, rfl, HA, HM⟩ := hrel
    obtain ⟨q0, q1, q2⟩ := HM.out.m3
    by_cases hlt : k < n
    ·go_wp2
     go_loopw [5] (fun j wr => ∃ q : Nat, q ≤ k ∧ j = .int .i64 q ∧ Hid (∀ j, j < q → atN n l k j = atN n l j k) ∧ Hid (MBx w wr w.heap.size n n sl)) (fun j _ => k - (intOf j).toNat)
     case atStart => exact ⟨0, Nat.zero_le _, rfl, Lib.hid (fun _ h => absurd h (Nat.not_lt_zero _)), HM⟩
     case round =>
      clear HM q0 q1 q2
      obtain ⟨q, hq2, rfl, HI, HM⟩ := hrel
      obtain ⟨q0, q1, q2⟩ := HM.out.m3
      by_cases hql : q < k
      ·have hqn : q < n := by omega
       have HE := Lib.hid fun e => sym_step HI.out e
       have HN := Lib.hid fun e => sym_no (l := l) hlt hql e
       have HX := Lib.hid (HLT.out k q hlt hqn)
       have HY := Lib.hid (HLT.out q k hqn hlt)
       clear q0 q1 q2
       go_upto_region 12 with fail
       refine wp_region_pl (fun w' : World => w'.cell? ⟨w.heap.size, 0, none⟩ = some (.int .i64 n) ∧ w'.cell? ⟨w.heap.size, 1, none⟩ = some (.int .i64 n) ∧ w'.cell? ⟨w.heap.size, 2, none⟩ = some sl) 7 (.take 0 (.take 1 (.take 2 (.take 4 (.take 5 (.take 6 (.run 3 .nil))))))) (by kernel_rfl) (by kernel_rfl) ?_
       replace HM := Lib.hid (HM.out.later (drew_below _))
       generalize World.drew _ = W5 at HM ⊢
       repeat (refine tkL (v := ?_) rfl rfl rfl (fun w' hSw => ?_) HM.out.m3 ?_; rotate_left; (focus (go_simp; with_reducible rfl)); simp only [setL])
       refine wpPl_goL rfl rfl fun K' hK => ?_
       go_simp
       refine (HAT.out k q _ (by omega) (by omega) HM.out.b).mono ?_
       rintro e1 W5v1 ⟨rfl, hb1⟩
       replace HM := Lib.hid (HM.out.later hb1)
       refine hK _ _ HM.out.m3 ?_
       clear hK K' hb1
       try simp only [Act.put, setL]
       repeat (refine tkL (v := ?_) rfl rfl rfl (fun w' hSw => ?_) HM.out.m3 ?_; rotate_left; (focus (go_simp; with_reducible rfl)); simp only [setL])
       refine wpPl_nil ?_
       simp only [drL]
       go_wp2_with fail
       refine (HAT.out q k _ (by omega) (by omega) HM.out.b).mono ?_
       rintro e2 w2 ⟨rfl, hb1⟩
       replace HM := Lib.hid (HM.out.later hb1)
       clear hb1
       go_wp2_with fail
       refine (HSA.out _ _ _ HX.out HY.out).mono ?_
       rintro e3 w3 ⟨rfl, hb1⟩
       replace HM := Lib.hid (HM.out.later hb1)
       clear hb1 HX HY
       obtain ⟨b, hb⟩ : ∃ b, (atN n l k q == atN n l q k) = b := ⟨_, rfl⟩
       rw [hb] at HE HN ⊢
       cases b
       ·have HR := Lib.hid (HN.out rfl)
        clear hb
        rw [HR.out] at HB
        go_wp2
        go_ret
        exact ⟨by rw [HB.out]; rfl, HM.out.b⟩
       ·have HR := Lib.hid (HE.out rfl)
        clear hb
        obtain ⟨q0, q1, q2⟩ := HM.out.m3
        go_wp2
        go_roundw
        case rel => exact ⟨q + 1, by omega, by go_num, HR, HM⟩
        case measure => simp [intOf]; omega
      ·obtain rfl : q = k := by omega
       go_wp2
       go_roundw
       case rel => exact ⟨q + 1, by omega, by go_num, Lib.hid (sym_row HA.out HI.out), HM⟩
       case measure => simp [intOf]; omega
    ·obtain rfl : k = n := by omega
     have HR : Hid (decide (SymP k l) = true) := Lib.hid (decide_eq_true HA.out)
     rw [HR.out] at HB
     go_wp2
     go_ret
     exact ⟨by rw [HB.out]; rfl, HM.out.b⟩
end
end Go.Proofs.YtfmecpembnmnkaaGreatDoor
