/- Walks: the dot product in order (program, references). -/
import Derived.Test.YtjoajbbapfgaoaaGreatDoorZFl2
import Derived.Test.YtjoajbbapfgaoaaGreatDoorGC
namespace Go.Proofs.YtjoajbbapfgaoaaGreatDoor
open Go.RowKit

/-- The dot product of the first k, in order. -/
def dotU (l m : List Nat) : Nat → Option Nat
  | 0 => some 0
  | k + 1 => oA .add (dotU l m k) (oA .mul (some (l.getD k 0)) (some (m.getD k 0)))

theorem getD_at {l : List Nat} {k : Nat} (h : k < l.length) : l.getD k 0 = l[k] := by simp [h]

theorem dotU_at {l m : List Nat} {k : Nat} (h : k < l.length) (h2 : k < m.length) : dotU l m (k + 1) = oA .add (dotU l m k) (oA .mul (some l[k]) (some m[k])) := by
  show oA .add (dotU l m k) (oA .mul (some (l.getD k 0)) (some (m.getD k 0))) = _
  rw [getD_at h, getD_at h2]

theorem fN_two (o1 o2 : BinOp) (a b c d : Nat) {w wr : World} (h : Below w.heap.size w wr) : Below w.heap.size w (fN o1 a b (fN o2 c d wr)) :=
  h.trans (((fN_below o2 c d wr).trans ((fN_below o1 a b _).mono (fN_below o2 c d wr).size)).mono h.size)

set_option maxRecDepth 100000 in
set_option maxHeartbeats 400000 in
theorem dot_bad (va vb : Value) (l m : List Nat) (w : World) (hl : FSl w va l) (hm : FSl w vb m) (hlm : l.length ≠ m.length) :
    Calls Tryz.prog 76 #[va, vb] w (Gives (.tuple #[.float .f64 0, .int .i64 3]) w) := by
  obtain ⟨ao, cap, rfl, -⟩ := hl
  obtain ⟨bo, dap, rfl, -⟩ := hm
  have hne : ((l.length : Int) != (m.length : Int)) = true := by simp; omega
  clear hlm
  go_enter Tryz.func76, Tryz.ntmps76
  go_wp2
  go_ret2
  exact ⟨rfl, Below.refl _ _⟩

set_option maxRecDepth 100000 in
set_option maxHeartbeats 400000 in
theorem rdot_bad (va vb : Value) (l m : List Nat) (w : World) (hl : FSl w va l) (hm : FSl w vb m) (hlm : l.length ≠ m.length) :
    Calls Tryz.prog 77 #[va, vb] w (Gives (.tuple #[.float .f64 0, .int .i64 3]) w) := by
  obtain ⟨ao, cap, rfl, -⟩ := hl
  obtain ⟨bo, dap, rfl, -⟩ := hm
  have hne : ((l.length : Int) != (m.length : Int)) = true := by simp; omega
  clear hlm
  go_enter Tryz.func77, Tryz.ntmps77
  go_wp2
  go_ret2
  exact ⟨rfl, Below.refl _ _⟩

set_option maxRecDepth 100000 in
set_option maxHeartbeats 1600000 in
theorem dot_ok (va vb : Value) (l m : List Nat) (w : World) (hl : FSl w va l) (hm : FSl w vb m) (hlm : l.length = m.length) :
    Calls Tryz.prog 76 #[va, vb] w (Gives (.tuple #[.float .f64 (cO (dotU l m l.length)), .int .i64 0]) w) := by
  obtain ⟨ao, cap, rfl, hcap, hn, hx, hc⟩ := hl
  obtain ⟨bo, dap, rfl, hdap, hn2, hx2, hc2⟩ := hm
  have hne : ((l.length : Int) != (m.length : Int)) = false := by simp; omega
  have HC := Lib.hid hc
  have HX := Lib.hid hx
  have HC2 := Lib.hid hc2
  have HX2 := Lib.hid hx2
  have HLM := Lib.hid hlm
  have hadd : ∀ t u v w, (binOp .add t (.float .f64 u) (.float .f64 v)).run Tryz.prog w = .ok (.float .f64 (fV .add u v w)) (fN .add u v w) := fun t u v w => run_float_any .add (.inl rfl) t u v w
  have hmul : ∀ t u v w, (binOp .mul t (.float .f64 u) (.float .f64 v)).run Tryz.prog w = .ok (.float .f64 (fV .mul u v w)) (fN .mul u v w) := fun t u v w => run_float_any .mul (.inr (.inr (.inl rfl))) t u v w
  have hml : l.length ≤ m.length := by omega
  clear hc hx hc2 hx2 hlm
  go_enter Tryz.func76, Tryz.ntmps76
  go_wp2
  go_loopw [6, 16] (fun s i wr => ∃ (k u : Nat), k ≤ l.length ∧ i = .int .i64 k ∧ s = .float .f64 u ∧ Hid (Rep (dotU l m k) u) ∧ Hid (Below w.heap.size w wr)) (fun _ i _ => l.length - (intOf i).toNat)
  case atStart => exact ⟨0, 0, Nat.zero_le _, rfl, rfl, Lib.hid ⟨by decide, rfl⟩, Lib.hid (Below.refl _ _)⟩
  case round =>
    obtain ⟨k, u, hk, rfl, rfl, HR, HB⟩ := hrel
    by_cases hlt : k < l.length
    · have hlt2 : k < m.length := by omega
      obtain ⟨b, off, rfl, hb, hcc⟩ := HC.out (by omega)
      obtain ⟨b2, off2, rfl, hb2, hcc2⟩ := HC2.out (by omega)
      have hck := (HB.out.cell (p := ⟨b, off + k, none⟩) hb).trans (hcc k hlt)
      have hck2 := (HB.out.cell (p := ⟨b2, off2 + k, none⟩) hb2).trans (hcc2 k hlt2)
      have HR2 : Hid (∀ W V, Rep (dotU l m (k + 1)) (fV .add u (fV .mul l[k] m[k] W) V)) := Lib.hid fun W V => by
        rw [dotU_at hlt hlt2]
        exact HR.out.op ((Rep.of (HX.out _ (List.getElem_mem hlt))).op (Rep.of (HX2.out _ (List.getElem_mem hlt2))) W) V
      clear hcc hcc2
      generalize l[k] = x at *
      generalize m[k] = y at *
      go_wp2
      go_roundw
      case rel => exact ⟨k + 1, _, by omega, by go_num, rfl, Lib.hid (HR2.out _ _), Lib.hid (fN_two _ _ _ _ _ _ HB.out)⟩
      case measure => simp [intOf]; omega
    · obtain rfl : k = l.length := by omega
      have HCN := Lib.hid HR.out.canon
      go_wp2_with fail
      refine (aCanon_any u _ HR.out.1).mono ?_
      rintro e1 w1 ⟨rfl, hb⟩
      rw [HCN.out]
      have HB2 := Lib.hid (HB.out.trans (hb.mono HB.out.size))
      clear hb
      go_wp2
      go_ret2
      exact ⟨rfl, HB2.out⟩

set_option maxRecDepth 100000 in
set_option maxHeartbeats 1600000 in
theorem rdot_ok (va vb : Value) (l m : List Nat) (w : World) (hl : FSl w va l) (hm : FSl w vb m) (hlm : l.length = m.length) :
    Calls Tryz.prog 77 #[va, vb] w (Gives (.tuple #[.float .f64 (cO (dotU l m l.length)), .int .i64 0]) w) := by
  obtain ⟨ao, cap, rfl, hcap, hn, hx, hc⟩ := hl
  obtain ⟨bo, dap, rfl, hdap, hn2, hx2, hc2⟩ := hm
  have hne : ((l.length : Int) != (m.length : Int)) = false := by simp; omega
  have HC := Lib.hid hc
  have HX := Lib.hid hx
  have HC2 := Lib.hid hc2
  have HX2 := Lib.hid hx2
  have HLM := Lib.hid hlm
  have hadd : ∀ t u v w, (binOp .add t (.float .f64 u) (.float .f64 v)).run Tryz.prog w = .ok (.float .f64 (fV .add u v w)) (fN .add u v w) := fun t u v w => run_float_any .add (.inl rfl) t u v w
  have hmul : ∀ t u v w, (binOp .mul t (.float .f64 u) (.float .f64 v)).run Tryz.prog w = .ok (.float .f64 (fV .mul u v w)) (fN .mul u v w) := fun t u v w => run_float_any .mul (.inr (.inr (.inl rfl))) t u v w
  have hml : l.length ≤ m.length := by omega
  clear hc hx hc2 hx2 hlm
  go_enter Tryz.func77, Tryz.ntmps77
  go_wp2
  go_loopw [6, 15] (fun s i wr => ∃ (k u : Nat), k ≤ l.length ∧ i = .int .i64 k ∧ s = .float .f64 u ∧ Hid (Rep (dotU l m k) u) ∧ Hid (Below w.heap.size w wr)) (fun _ i _ => l.length - (intOf i).toNat)
  case atStart => exact ⟨0, 0, Nat.zero_le _, rfl, rfl, Lib.hid ⟨by decide, rfl⟩, Lib.hid (Below.refl _ _)⟩
  case round =>
    obtain ⟨k, u, hk, rfl, rfl, HR, HB⟩ := hrel
    by_cases hlt : k < l.length
    · have hlt2 : k < m.length := by omega
      obtain ⟨b, off, rfl, hb, hcc⟩ := HC.out (by omega)
      obtain ⟨b2, off2, rfl, hb2, hcc2⟩ := HC2.out (by omega)
      have HCK : Hid (∀ W, Below w.heap.size w W → W.cell? ⟨b, off + k, none⟩ = some (.float .f64 l[k]) ∧ W.cell? ⟨b2, off2 + k, none⟩ = some (.float .f64 m[k])) :=
        Lib.hid fun W hW => ⟨(hW.cell (p := ⟨b, off + k, none⟩) hb).trans (hcc k hlt), (hW.cell (p := ⟨b2, off2 + k, none⟩) hb2).trans (hcc2 k hlt2)⟩
      have HR2 : Hid (∀ W V, Rep (dotU l m (k + 1)) (fV .add u (fV .mul l[k] m[k] W) V)) := Lib.hid fun W V => by
        rw [dotU_at hlt hlt2]
        exact HR.out.op ((Rep.of (HX.out _ (List.getElem_mem hlt))).op (Rep.of (HX2.out _ (List.getElem_mem hlt2))) W) V
      have hk1 : (0 : Int) ≤ (k : Int) := by omega
      have hk2 : (k : Int) < (l.length : Int) := by omega
      have hk3 : (k : Int) < (m.length : Int) := by omega
      clear hcc hcc2
      generalize l[k] = x at *
      generalize m[k] = y at *
      go_wp2
      refine wp_region_pl (fun w' : World => w'.cell? ⟨b, off + k, none⟩ = some (.float .f64 x) ∧ w'.cell? ⟨b2, off2 + k, none⟩ = some (.float .f64 y)) 10 (.take 0 (.take 1 (.take 2 (.take 3 (.take 4 (.take 5 (.take 6 (.take 7 (.take 8 (.run 9 .nil)))))))))) (by kernel_rfl) (by kernel_rfl) ?_
      replace HB := Lib.hid (HB.out.trans ((drew_below wr).mono HB.out.size))
      generalize wr.drew = W3 at HB ⊢
      have hS : (fun w' : World => w'.cell? ⟨b, off + k, none⟩ = some (.float .f64 x) ∧ w'.cell? ⟨b2, off2 + k, none⟩ = some (.float .f64 y)) W3 := HCK.out _ HB.out
      repeat (refine wpPl_takeL (v := ?_) rfl rfl (fun _ _ _ h => h) rfl (fun w' hSw => ?_) hS ?_; rotate_left; (focus (go_simp; with_reducible rfl)); simp only [List.setIfInBounds_toArray, List.set_cons_zero, List.set_cons_succ])
      clear hS
      refine wpPl_goL rfl rfl fun K' hK => ?_
      go_simp
      refine hK _ _ (HCK.out _ (HB.out.trans ((fN_below _ _ _ _).mono HB.out.size))) ?_
      clear hK K'
      refine wpPl_nil ?_
      simp only [List.drop_succ_cons, List.drop_zero]
      go_wp2
      go_roundw
      case rel => exact ⟨k + 1, _, by omega, by go_num, rfl, Lib.hid (HR2.out _ _), Lib.hid (fN_two _ _ _ _ _ _ HB.out)⟩
      case measure => simp [intOf]; omega
    · obtain rfl : k = l.length := by omega
      have HCN := Lib.hid HR.out.canon
      go_wp2_with fail
      refine (rCanon_any u _).mono ?_
      rintro e1 w1 ⟨rfl, hb⟩
      rw [HCN.out]
      have HB2 := Lib.hid (HB.out.trans (hb.mono HB.out.size))
      clear hb
      go_wp2
      go_ret2
      exact ⟨rfl, HB2.out⟩

/-- The dot product in order: of lists of whatever lengths. -/
def dotV (l m : List Nat) : Value := if l.length = m.length then .tuple #[.float .f64 (cO (dotU l m l.length)), .int .i64 0] else .tuple #[.float .f64 0, .int .i64 3]

theorem dot5_any (va vb : Value) (l m : List Nat) (w : World) (hl : FSl w va l) (hm : FSl w vb m) : Calls Tryz.prog 76 #[va, vb] w (Gives (dotV l m) w) := by
  unfold dotV
  by_cases h : l.length = m.length
  · rw [if_pos h]; exact dot_ok va vb l m w hl hm h
  · rw [if_neg h]; exact dot_bad va vb l m w hl hm h

theorem rdot5_any (va vb : Value) (l m : List Nat) (w : World) (hl : FSl w va l) (hm : FSl w vb m) : Calls Tryz.prog 77 #[va, vb] w (Gives (dotV l m) w) := by
  unfold dotV
  by_cases h : l.length = m.length
  · rw [if_pos h]; exact rdot_ok va vb l m w hl hm h
  · rw [if_neg h]; exact rdot_bad va vb l m w hl hm h

end Go.Proofs.YtjoajbbapfgaoaaGreatDoor
