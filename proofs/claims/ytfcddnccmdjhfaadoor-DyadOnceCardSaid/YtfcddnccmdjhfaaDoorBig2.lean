/- Walks: big's less, compare. -/
import Derived.Test.YtfcddnccmdjhfaaDoorBig1
import Derived.Deep.RegionHeld3
import Derived.Deep.QuietTactic
import Derived.BigQuiet
namespace Go.Proofs.YtfcddnccmdjhfaaDoor
open Go.RowKit

theorem _root_.Go.Calls.flip {P : Program} {f : FuncId} {args : Array Value} {w : World} {p : Ending → Prop} (h : Calls P f args w fun e w' => p e ∧ w = w') : Calls P f args w fun e w' => p e ∧ w' = w :=
  h.mono fun _ _ ⟨h1, h2⟩ => ⟨h1, h2.symm⟩

/-- After k digits of a difference. -/
def LessRel (X Y m b0 k C : Nat) (wr : World) : Prop :=
  C ≤ 1 ∧ X % 2 ^ (64 * k) + C * 2 ^ (64 * k) = (X - Y) % 2 ^ (64 * k) + Y % 2 ^ (64 * k) ∧
    wr.rowIs b0 (ety .u64) m (fun j => .int .u64 ((if j < k then dg 64 (X - Y) j else 0 : Nat)))

theorem LessRel.step {X Y m b0 k C : Nat} {wr : World} (hXY : Y ≤ X) (h : LessRel X Y m b0 k C wr) :
    LessRel X Y m b0 (k + 1) (bw64 (dg 64 X k) (dg 64 Y k) C) (wr.setCell ⟨b0, k, none⟩ (.int .u64 (sb64 (dg 64 X k) (dg 64 Y k) C : Nat))) := by
  obtain ⟨h1, h2, h3⟩ := h
  obtain ⟨b', h4, h5⟩ := sub_step hXY h2
  rw [two64] at h4
  have hx := dg64_lt X k
  have hy := dg64_lt Y k
  have hz := dg64_lt (X - Y) k
  have hb : bw64 (dg 64 X k) (dg 64 Y k) C = b' := by unfold bw64; split <;> omega
  have hd : sb64 (dg 64 X k) (dg 64 Y k) C = dg 64 (X - Y) k := by unfold sb64; omega
  rw [hb, hd]
  refine ⟨by omega, h5, ?_⟩
  refine (h3.set k _).congr fun i hi => ?_
  by_cases e : i = k
  · subst e; simp
  · rw [if_neg e]
    by_cases e2 : i < k
    · rw [if_pos e2, if_pos (by omega)]
    · rw [if_neg e2, if_neg (by omega)]

set_option maxRecDepth 100000 in
set_option maxHeartbeats 400000 in
theorem less_any (vx vy : Value) (nx ny X Y : Nat) (w : World) (hx : Raw .u64 64 w vx nx X) (hy : Raw .u64 64 w vy ny Y) (hn : nx ≤ 274877906944 ∧ ny ≤ 274877906944) (hXY : Y ≤ X) :
    Calls Tryd.prog 88 #[vx, vy] w (Makes .u64 64 (ln 64 (X - Y)) (X - Y) w) := by
  have HX := Lib.hid hx
  have HY := Lib.hid hy
  have HXY := Lib.hid hXY
  have HD : Hid (X - Y < 2 ^ (64 * nx)) := by obtain ⟨_, _, _, _, h, _⟩ := hx; exact Lib.hid (by omega)
  clear hXY
  have hmk := run_make_row' (P := Tryd.prog) 58 22 (.int .u64 0) 8 Tryd.underlying58 Tryd.info22 rfl .i64 .i64 nx (by omega) (by omega)
  obtain ⟨ax, cx, rfl, -, -, -, hcx⟩ := hx
  have HCX := Lib.hid hcx
  obtain ⟨ay, cy, rfl, -⟩ := hy
  clear hcx
  go_enter Tryd.func88, Tryd.ntmps88
  go_wp2
  clear hmk
  have hR : LessRel X Y nx w.heap.size 0 0 (w.alloc (.cells (madeCells #[.int .u64 0] nx) 22)) := by
    refine ⟨by omega, by simp [Nat.mod_one], (World.rowIs_made _ _ _ _).congr fun i hi => by simp⟩
  have HR := Lib.hid hR
  clear hR
  go_loopw [6, 13] (fun c i wr => ∃ k C : Nat, k ≤ nx ∧ i = .int .i64 k ∧ c = .int .u64 C ∧ Hid (LessRel X Y nx w.heap.size k C wr) ∧ Below w.heap.size w wr)
    (fun _ i _ => nx - (intOf i).toNat)
  case atStart => exact ⟨0, 0, Nat.zero_le _, rfl, rfl, HR, (Below.refl _ _).alloc (Nat.le_refl _) _⟩
  case round =>
    obtain ⟨k, C, hk, rfl, rfl, HR, hbel⟩ := hrel
    have hC := HR.out.1
    have hrow := HR.out.2.2
    have hs := hrow.lt
    by_cases hlt : k < nx
    · obtain ⟨bx, ox, rfl, hbx, -, hcx⟩ := HCX.out (by omega)
      have hsub := sub64_eq (dg 64 X k) (dg 64 Y k) C hC
      have hcxk : wr.cell? ⟨bx, ox + k, none⟩ = some (.int .u64 (dg 64 X k : Nat)) := (hbel.cell (p := ⟨bx, ox + k, none⟩) hbx).trans (hcx k hlt)
      have hf := hrow.frozen k
      have hck : ∃ v, wr.cell? ⟨w.heap.size, k, none⟩ = some v := ⟨_, hrow.cell (by omega)⟩
      obtain ⟨v0, hck⟩ := hck
      have HB := Lib.hid hbel
      clear hrow hbel hcx
      go_wp2_with fail
      have hne1 : ¬ (bx = w.heap.size) := by omega
      have hne2 : ¬ (w.heap.size = bx) := by omega
      have HD2 : Hid (Raw .u64 64 wr.drew (.slice ay ny cy) ny Y) := Lib.hid (HY.out.below HB.out.drew)
      go_region_held3 (fun w' => w'.cell? ⟨bx, ox + k, none⟩ = some (.int .u64 (dg 64 X k : Nat))) (go_keep) (first | (go_at_call 78; refine (digit_any _ _ Y k _ HD2.out (by omega)).mono ?_; rintro e w1 ⟨rfl, rfl⟩))
      go_wp2
      go_roundw
      case rel => exact ⟨k + 1, _, by omega, by go_num, rfl, Lib.hid (HR.out.step HXY.out), HB.out.drew.setCell (Nat.le_refl _) _⟩
      case measure => simp [intOf]; omega
    · obtain rfl : k = nx := by omega
      have hraw : Raw .u64 64 wr (.slice (some ⟨w.heap.size, 0, none⟩) k k) k (X - Y) :=
        Raw.of_row hrow (fun i hi => by rw [if_pos hi]) HD.out (by omega)
      have HB := Lib.hid hbel
      clear hrow hbel
      go_wp2_with fail
      refine (norm_any _ _ (X - Y) _ hraw).mono ?_
      rintro e w1 ⟨v, rfl, rfl, hraw⟩
      have HRaw := Lib.hid hraw
      clear hraw
      go_wp2
      go_ret
      exact ⟨v, rfl, HB.out, HRaw.out⟩

theorem cmpZ_lt {a b : Int} (h : a < b) : cmpZ a b = -1 := by unfold cmpZ; rw [if_pos h]
theorem cmpZ_gt {a b : Int} (h : b < a) : cmpZ a b = 1 := by unfold cmpZ; rw [if_neg (by omega), if_pos h]
theorem cmpZ_eq {a b : Int} (h : a = b) : cmpZ a b = 0 := by unfold cmpZ; rw [if_neg (by omega), if_neg (by omega)]

/-- The answer, and a world that parts from the first in draws alone. -/
def Tells (v : Value) (w : World) (e : Ending) (w' : World) : Prop := e = .returned v ∧ ∃ n, w' = w.drewN n

set_option maxRecDepth 100000 in
set_option maxHeartbeats 400000 in
theorem compare_any (vx vy : Value) (X Y : Nat) (w : World) (hx : Raw .u64 64 w vx (ln 64 X) X) (hy : Raw .u64 64 w vy (ln 64 Y) Y) :
    Calls Tryd.prog 87 #[vx, vy] w (Tells (.int .i64 (cmpZ X Y)) w) := by
  obtain ⟨ax, cx, rfl, -, hX, hnx, hcx⟩ := hx
  obtain ⟨ay, cy, rfl, -, hY, hny, hcy⟩ := hy
  have HCX := Lib.hid hcx
  have HCY := Lib.hid hcy
  have hlx : Hid (ln 64 X < ln 64 Y → X < Y) := Lib.hid (lt_of_ln (by decide))
  have hly : Hid (ln 64 Y < ln 64 X → Y < X) := Lib.hid (lt_of_ln (by decide))
  have HX := Lib.hid hX
  have HY := Lib.hid hY
  clear hcx hcy hX hY
  generalize ln 64 X = nx at *
  generalize ln 64 Y = ny at *
  by_cases hlt : nx < ny
  · have hr := cmpZ_lt (a := (X : Int)) (b := Y) (by have := hlx.out hlt; omega)
    have hne : ((nx : Int) != (ny : Int)) = true := by simp; omega
    rw [hr]
    clear hr
    go_enter Tryd.func87, Tryd.ntmps87
    go_wp2
    go_ret
    exact ⟨rfl, 0, rfl⟩
  by_cases hgt : ny < nx
  · have hr := cmpZ_gt (a := (X : Int)) (b := Y) (by have := hly.out hgt; omega)
    have hne : ((nx : Int) != (ny : Int)) = true := by simp; omega
    rw [hr]
    clear hr
    go_enter Tryd.func87, Tryd.ntmps87
    go_wp2
    go_ret
    exact ⟨rfl, 0, rfl⟩
  obtain rfl : nx = ny := by omega
  clear hlt hgt hlx hly
  have hne : ((nx : Int) != (nx : Int)) = false := by simp
  go_enter Tryd.func87, Tryd.ntmps87
  go_wp2
  go_loopw [5] (fun i wr => ∃ k q : Nat, k ≤ nx ∧ i = .int .i64 ((k : Int) - 1) ∧ wr = w.drewN q ∧ X / 2 ^ (64 * k) = Y / 2 ^ (64 * k)) (fun i _ => (intOf i + 1).toNat)
  case atStart => exact ⟨nx, 0, Nat.le_refl _, rfl, rfl, by rw [Nat.div_eq_of_lt HX.out, Nat.div_eq_of_lt HY.out]⟩
  case round =>
    obtain ⟨k, q, hk, rfl, rfl, hdiv⟩ := hrel
    have HD := Lib.hid hdiv
    clear hdiv hne
    by_cases hk0 : 0 < k
    · obtain ⟨j, rfl⟩ : ∃ j, k = j + 1 := ⟨k - 1, by omega⟩
      obtain ⟨bx, ox, rfl, hbx, -, hcx⟩ := HCX.out (by omega)
      obtain ⟨by', oy, rfl, hby, -, hcy⟩ := HCY.out (by omega)
      have h1 := hcx j (by omega)
      have h2 := hcy j (by omega)
      have ej : ((j + 1 : Nat) : Int) - 1 = (j : Int) := by omega
      rw [ej]
      have hb1 : (0 : Int) ≤ (j : Int) := by omega
      have hb2 : (j : Int) < (nx : Int) := by omega
      clear hcx hcy ej
      by_cases hd : dg 64 X j = dg 64 Y j
      · rw [hd] at h1
        have hnd : (((dg 64 Y j : Nat) : Int) != ((dg 64 Y j : Nat) : Int)) = false := by simp
        have HDE := Lib.hid (div_eq_of_dg HD.out hd)
        clear hd
        go_wp2
        go_quiet (fail)
        go_wp2
        go_roundw
        case rel => exact ⟨j, _, by omega, rfl, rfl, HDE.out⟩
        case measure => simp [intOf]
      · by_cases hl : dg 64 X j < dg 64 Y j
        · have hr := cmpZ_lt (a := (X : Int)) (b := Y) (by have := div_lt_of_dg HD.out hl; omega)
          have HR := Lib.hid hr
          have hnd : (((dg 64 X j : Nat) : Int) != ((dg 64 Y j : Nat) : Int)) = true := by simp; omega
          clear hr hd
          go_wp2
          go_quiet (fail)
          go_wp2
          go_quiet (fail)
          go_wp2
          go_ret
          rw [HR.out]
          exact ⟨rfl, _, by rw [World.drewN_drewN, World.drewN_drewN]⟩
        · have hr := cmpZ_gt (a := (X : Int)) (b := Y) (by have := div_lt_of_dg HD.out.symm (by omega : dg 64 Y j < dg 64 X j); omega)
          have HR := Lib.hid hr
          have hnd : (((dg 64 X j : Nat) : Int) != ((dg 64 Y j : Nat) : Int)) = true := by simp; omega
          clear hr hd
          go_wp2
          go_quiet (fail)
          go_wp2
          go_quiet (fail)
          go_wp2
          go_ret
          rw [HR.out]
          exact ⟨rfl, _, by rw [World.drewN_drewN, World.drewN_drewN]⟩
    · obtain rfl : k = 0 := by omega
      have hr := cmpZ_eq (a := (X : Int)) (b := Y) (by have := HD.out; simp at this; omega)
      have HR := Lib.hid hr
      clear hr
      go_wp2
      go_ret
      rw [HR.out]
      exact ⟨rfl, _, rfl⟩

end Go.Proofs.YtfcddnccmdjhfaaDoor
