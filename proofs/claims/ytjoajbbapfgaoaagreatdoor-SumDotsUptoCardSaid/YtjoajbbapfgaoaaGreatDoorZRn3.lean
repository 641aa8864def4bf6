/- Walks: the references' round; Copysign, IsInf, Inf. -/
import Derived.Test.YtjoajbbapfgaoaaGreatDoorZRn2
import Derived.Test.YtjoajbbapfgaoaaGreatDoorGQ
import Derived.Test.YtjoajbbapfgaoaaGreatDoorGM
namespace Go.Proofs.YtjoajbbapfgaoaaGreatDoor
open Go.RowKit

/-- The call hands the multiple of a power of 2 back, and its exponent. -/
def RRounds (z e digits least mode : Int) (w : World) (en : Ending) (w' : World) : Prop :=
  ∃ p, en = .returned (.tuple #[.pointer (some ⟨p, 0, none⟩), .int .i64 (lastE z e digits least)]) ∧ RInt w' p (nearZ z (lastE z e digits least - e) mode) ∧ Below w.heap.size w w'

def RdB (w0 W : World) (p : Nat) (z e : Int) : Prop :=
  BlkT W w0.heap.size 34 #[.pointer (some ⟨p, 0, none⟩), .int .i64 e] ∧ RInt W p z ∧ Below w0.heap.size w0 W

theorem RdB.later {w0 W V : World} {p : Nat} {z e : Int} (h : RdB w0 W p z e) (hb : Below W.heap.size W V) : RdB w0 V p z e :=
  ⟨h.1.below hb, h.2.1.below hb, h.2.2.trans (hb.mono h.2.2.size)⟩

theorem RdB.cells {w0 W : World} {p : Nat} {z e : Int} (h : RdB w0 W p z e) : W.cell? ⟨w0.heap.size, 0, none⟩ = some (.pointer (some ⟨p, 0, none⟩)) ∧ W.cell? ⟨w0.heap.size, 1, none⟩ = some (.int .i64 e) := ⟨h.1.cell 0, h.1.cell 1⟩

set_option maxRecDepth 100000 in
set_option maxHeartbeats 1600000 in
theorem rround_any (b : Nat) (z e digits least mode : Int) (w : World) (hx : RInt w b z) (hl : bl z.natAbs ≤ 10000000) (he1 : -10000000 ≤ e) (he2 : e ≤ 10000000) (hd1 : 0 ≤ digits) (hd2 : digits ≤ 100) (hs1 : -2000 ≤ least) (hs2 : least ≤ 0)
    (hmode : mode = 0 ∨ mode = 1 ∨ mode = 2 ∨ mode = 3 ∨ mode = 4) (hT : Tab32 w) (hTs : 2 < w.heap.size) :
    Calls Tryz.prog 109 #[ExV b e, .int .i64 digits, .int .i64 least, .int .i64 mode] w (RRounds (hvZ z) (nrE z e) digits least mode w) := by
  have HX := Lib.hid hx
  have HT := Lib.hid hT
  have HTs := Lib.hid hTs
  have HL : Hid (bl z.natAbs ≤ 68719476736) := Lib.hid (Nat.le_trans hl (by decide))
  have hblz : bl (hvZ z).natAbs ≤ 10000000 := Nat.le_trans (bl_mono hvZ_natAbs_le) hl
  have hE1 : -20000000 ≤ nrE z e := by unfold nrE hvE; split <;> omega
  have hE2 : nrE z e ≤ 20000000 := by
    have := tzb_le (N := z.natAbs)
    unfold nrE hvE; split <;> omega
  have HE : Hid (-1099511627776 ≤ e ∧ e ≤ 1099511627776) := Lib.hid ⟨by omega, by omega⟩
  have HOD := Lib.hid fun W h hT hTs => rOdd_any b z e W h HL.out HE.out.1 HE.out.2 hT hTs
  generalize hvZ z = z' at *
  generalize nrE z e = e' at *
  have HC : Hid (∀ (p : Nat) (W : World), RInt W p z' → Calls Tryz.prog 35 #[.pointer (some ⟨p, 0, none⟩), .int .i64 (lastE z' e' digits least - e'), .int .i64 mode] W (News .u32 32 (nearZ z' (lastE z' e' digits least - e') mode) W)) := by
    refine Lib.hid fun p W h => rNear_any p _ _ _ W h (Nat.le_trans hblz (by decide)) ?_ ?_ hmode
    · unfold lastE; omega
    · unfold lastE; omega
  unfold RRounds
  obtain ⟨last, hlast⟩ : ∃ last, lastE z' e' digits least = last := ⟨_, rfl⟩
  have hmax : max least (e' + (bl z'.natAbs : Int) - digits) = last := by rw [Int.max_comm]; exact hlast
  rw [hlast] at HC ⊢
  obtain ⟨q, hq⟩ : ∃ q, bl z'.natAbs = q := ⟨_, rfl⟩
  rw [hq] at hmax
  have HBL := Lib.hid hq
  have hb1 : -60000000 ≤ last := by omega
  have hb2 : last ≤ 60000000 := by omega
  have hw1 : IntKind.i64.wrap (e' + (q : Int)) = e' + q := IntWalk.i64_in _ (by omega)
  have hw2 : IntKind.i64.wrap (e' + (q : Int) - digits) = e' + q - digits := IntWalk.i64_in _ (by omega)
  have hw3 : IntKind.i64.wrap (last - e') = last - e' := IntWalk.i64_in _ (by omega)
  have HM := Lib.hid hmax
  have HW := Lib.hid (And.intro hw1 (And.intro hw2 hw3))
  clear hx hl hmax hq hlast hw1 hw2 hw3 hmode hT hTs hblz hE1 hE2 HL HE
  generalize nearZ z' (last - e') mode = R at *
  unfold ExV
  go_enter Tryz.func109, Tryz.ntmps109
  go_wp2_with fail
  refine (HOD.out _ (HX.out.below (below1 _ _)) (HT.out.below HTs.out (below1 _ _)) (Nat.lt_of_lt_of_le HTs.out (below1 _ _).size)).mono ?_
  rintro e1 W ⟨p, rfl, hp, hi, hb⟩
  have HP : Hid (RdB w ((W.setCell ⟨w.heap.size, 0, none⟩ (.pointer (some ⟨p, 0, none⟩))).setCell ⟨w.heap.size, 1, none⟩ (.int .i64 e')) p z' e') := by
    have k1 := BlkT.new w #[.pointer (some ⟨b, 0, none⟩), .int .i64 e] 34
    have k3 := k1.below hb
    have hpp : w.heap.size < p := by simp at hp; omega
    refine Lib.hid ⟨(k3.set _).set _, (hi.setOther k3 objT_rexact (by omega) _).setOther (k3.set _) objT_rexact (by omega) _, ?_⟩
    exact (((below1 w _).trans (hb.mono (by simp))).setCell (Nat.le_refl _) _).setCell (Nat.le_refl _) _
  have HWB : Hid (BlkT W w.heap.size 34 #[.pointer (some ⟨b, 0, none⟩), .int .i64 e]) := Lib.hid (BlkT.below (BlkT.new w _ _) hb)
  obtain ⟨x0, x1, x2, x3⟩ := HWB.out.cells2
  clear hp hi hb HOD
  unfold ExV
  go_wp2_with fail
  refine wp_region_pl (fun w' : World => w'.cell? ⟨w.heap.size, 0, none⟩ = some (.pointer (some ⟨p, 0, none⟩)) ∧ w'.cell? ⟨w.heap.size, 1, none⟩ = some (.int .i64 e')) 9 (.take 0 (.take 1 (.take 2 (.take 3 (.take 4 (.take 7 (.run 5 (.take 6 (.take 8 .nil))))))))) (by kernel_rfl) (by kernel_rfl) ?_
  generalize hV : (W.setCell ⟨w.heap.size, 0, none⟩ (.pointer (some ⟨p, 0, none⟩))).setCell ⟨w.heap.size, 1, none⟩ (.int .i64 e') = V at HP ⊢
  clear hV x0 x1 x2 x3 HWB
  have HP2 := Lib.hid (HP.out.later (drew_below V))
  clear HP
  generalize V.drew = V2 at HP2 ⊢
  have hS : (fun w' : World => w'.cell? ⟨w.heap.size, 0, none⟩ = some (.pointer (some ⟨p, 0, none⟩)) ∧ w'.cell? ⟨w.heap.size, 1, none⟩ = some (.int .i64 e')) V2 := HP2.out.cells
  repeat (refine wpPl_take (v := ?_) rfl (fun _ _ _ h => h) rfl (fun w' hSw => ?_) hS ?_; rotate_left; focus (go_simp; with_reducible rfl); try simp only [Act.put, List.setIfInBounds_toArray, List.set_cons_zero, List.set_cons_succ])
  refine wpPl_run rfl fun K' hK => ?_
  go_simp
  refine (rBitLen_any p 0 z' _ HP2.out.2.1).mono ?_
  rintro e2 w2 ⟨rfl, hb2⟩
  rw [HBL.out]
  have HP3 := Lib.hid (HP2.out.later hb2)
  clear hb2 hS HP2
  have hS : (fun w' : World => w'.cell? ⟨w.heap.size, 0, none⟩ = some (.pointer (some ⟨p, 0, none⟩)) ∧ w'.cell? ⟨w.heap.size, 1, none⟩ = some (.int .i64 e')) w2 := HP3.out.cells
  refine hK _ _ hS ?_
  clear hK K'
  have hw1 := HW.out.1
  have hw2 := HW.out.2.1
  have hmax := HM.out
  repeat (refine wpPl_take (v := ?_) rfl (fun _ _ _ h => h) rfl (fun w' hSw => ?_) hS ?_; rotate_left; focus (go_simp; with_reducible rfl); try simp only [Act.put, List.setIfInBounds_toArray, List.set_cons_zero, List.set_cons_succ])
  clear hS
  refine wpPl_nil ?_
  simp only [List.drop_succ_cons, List.drop_zero]
  obtain ⟨x0, x1⟩ := HP3.out.cells
  have hw3 := HW.out.2.2
  go_wp2_with fail
  refine (HC.out p _ HP3.out.2.1).mono ?_
  rintro e4 w4 ⟨p2, rfl, hp2, hi4, hb4⟩
  have HI := Lib.hid hi4
  have HB := Lib.hid (HP3.out.2.2.trans (hb4.mono HP3.out.2.2.size))
  clear hi4 hb4 hp2 x0 x1
  go_wp2
  go_ret2
  exact ⟨p2, rfl, HI.out, HB.out⟩

end Go.Proofs.YtjoajbbapfgaoaaGreatDoor
