/- Walks: rounding an exact number to so many digits. -/
import Derived.Test.YtfcddnccmdjhfaaDoorDyb
namespace Go.Proofs.YtfcddnccmdjhfaaDoor
open Go.RowKit

theorem cut_any (b N : Nat) (down : Int) (neg : Bool) (mode : Int) (w : World) (hx : IntAt w b 0 (N : Int)) (hl : bl N ≤ 34359738368) (h1 : -1099511627776 ≤ down) (h2 : down ≤ 17179869184) (hmode : mode = 0 ∨ mode = 1 ∨ mode = 2 ∨ mode = 3 ∨ mode = 4) :
    Calls Tryd.prog 58 #[.pointer (some ⟨b, 0, none⟩), .int .i64 down, .bool neg, .int .i64 mode] w (News .u64 64 (cutZ N down neg mode : Nat) w) := by
  by_cases h : down ≤ 0
  · exact cut_shl b N down neg mode w hx hl h h1
  · obtain ⟨d, rfl⟩ : ∃ d : Nat, down = d := ⟨down.toNat, by omega⟩
    have := cut_shr b N d neg mode w hx hl (by omega) (by omega) hmode
    unfold cutZ
    rw [if_neg h, Int.toNat_natCast]
    exact this

/-- The last digit's exponent of a rounding. -/
def lastE (z e digits least : Int) : Int := max (e + bl z.natAbs - digits) least
/-- The rounded amount. -/
def roundZ (z e digits least mode : Int) : Nat := cutZ z.natAbs (lastE z e digits least - e) (decide (z < 0)) mode

def Rounds (z e digits least mode : Int) (w : World) (en : Ending) (w' : World) : Prop :=
  ∃ p, en = .returned (.tuple #[.pointer (some ⟨p, 0, none⟩), .int .i64 (lastE z e digits least)]) ∧ IntAt w' p 0 (roundZ z e digits least mode : Nat) ∧ Below w.heap.size w w'

set_option maxRecDepth 100000 in
set_option maxHeartbeats 1600000 in
theorem rounded_any (b : Nat) (z e digits least mode : Int) (w : World) (hx : IntAt w b 0 z) (hl : bl z.natAbs ≤ 1000000) (he1 : -1000000 ≤ e) (he2 : e ≤ 1000000) (hd1 : 0 ≤ digits) (hd2 : digits ≤ 100) (hs1 : -2000 ≤ least) (hs2 : least ≤ 0)
    (hmode : mode = 0 ∨ mode = 1 ∨ mode = 2 ∨ mode = 3 ∨ mode = 4) :
    Calls Tryd.prog 32 #[ExV b e, .int .i64 digits, .int .i64 least, .int .i64 mode] w (Rounds z e digits least mode w) := by
  have HX := Lib.hid hx
  have HC : Hid (∀ (p : Nat) (W : World), IntAt W p 0 (z.natAbs : Int) → Calls Tryd.prog 58 #[.pointer (some ⟨p, 0, none⟩), .int .i64 (lastE z e digits least - e), .bool (decide (z < 0)), .int .i64 mode] W (News .u64 64 (roundZ z e digits least mode : Nat) W)) := by
    refine Lib.hid fun p W h => cut_any p _ _ _ _ W h (Nat.le_trans hl (by decide)) ?_ ?_ hmode
    · unfold lastE; omega
    · unfold lastE; omega
  obtain ⟨last, hlast⟩ : ∃ last, lastE z e digits least = last := ⟨_, rfl⟩
  have hmax : max (e + (bl z.natAbs : Int) - digits) least = last := hlast
  have HLE := Lib.hid hlast
  obtain ⟨sg, HS, hneg⟩ : ∃ sg, Hid (z.sign = sg) ∧ decide (sg < 0) = decide (z < 0) := ⟨_, Lib.hid rfl, sg_neg z⟩
  obtain ⟨neg, hneg2⟩ : ∃ neg, decide (z < 0) = neg := ⟨_, rfl⟩
  rw [hneg2] at hneg
  obtain ⟨q, hq⟩ : ∃ q, bl z.natAbs = q := ⟨_, rfl⟩
  rw [hq] at hmax
  have HBL : Hid (bl ((z.natAbs : Nat) : Int).natAbs = q) := Lib.hid (by rw [Int.natAbs_natCast]; exact hq)
  have HLZ : Hid (ln 64 z.natAbs ≤ 68719476736) := Lib.hid (ln_of_bl (Nat.le_trans hl (by decide)))
  have hb1 : -3000000 ≤ last := by omega
  have hb2 : last ≤ 3000000 := by omega
  have hq2 : q ≤ 1000000 := by omega
  rw [hlast, hneg2] at HC
  have hw1 : IntKind.i64.wrap (e + (q : Int)) = e + q := IntWalk.i64_in _ (by omega)
  have hw2 : IntKind.i64.wrap (e + (q : Int) - digits) = e + q - digits := IntWalk.i64_in _ (by omega)
  have hw3 : IntKind.i64.wrap (last - e) = last - e := IntWalk.i64_in _ (by omega)
  have HM := Lib.hid hmax
  have HW := Lib.hid (And.intro hw1 (And.intro hw2 hw3))
  have HNG := Lib.hid hneg
  have HBX : Hid (BlkT ((w.alloc (.cells #[.pointer (some ⟨b, 0, none⟩), .int .i64 e] 51)).alloc (.cells #[.bool false, .slice none 0 0] 60)) w.heap.size 51 #[.pointer (some ⟨b, 0, none⟩), .int .i64 e]) := Lib.hid ((BlkT.new w _ _).alloc _)
  have HZ := Lib.hid (IntK.zero1 (k := .u64) (s := 64) w (.cells #[.pointer (some ⟨b, 0, none⟩), .int .i64 e] 51) _ objT_int)
  clear hx hl hmax hq hlast hneg hneg2 hw1 hw2 hw3 hmode
  unfold ExV
  go_enter Tryd.func32, Tryd.ntmps32
  go_wp2_with fail
  refine (Abs_any _ 0 _ 0 z _ HZ.out.1 (HX.out.below (below2 _ _ _)) HLZ.out).mono ?_
  rintro e1 w1 ⟨rfl, hi1, hm1⟩
  have HB1 := Lib.hid (hm1.below (below2 w (.cells #[.pointer (some ⟨b, 0, none⟩), .int .i64 e] 51) _) (by omega) (below2 _ _ _).size)
  have HP1 := Lib.hid (HBX.out.mod hm1 (by omega))
  have HA1 := Lib.hid hi1
  clear hi1 hm1 HBX HZ
  generalize w.heap.size + 1 = ab at *
  go_wp2
  refine wp_region_pl (fun w' : World => w'.cell? ⟨w.heap.size, 0, none⟩ = some (.pointer (some ⟨b, 0, none⟩)) ∧ w'.cell? ⟨w.heap.size, 1, none⟩ = some (.int .i64 e)) 9 (.take 0 (.take 1 (.take 2 (.take 5 (.take 7 (.run 3 (.take 4 (.take 6 (.take 8 .nil))))))))) (by kernel_rfl) (by kernel_rfl) ?_
  have HB2 := Lib.hid (HB1.out.drew)
  have HP2 := Lib.hid (HP1.out.below (drew_below w1))
  have HA2 := Lib.hid (HA1.out.below (drew_below w1))
  clear HB1 HP1 HA1
  generalize w1.drew = W at HB2 HP2 HA2 ⊢
  have hS : (fun w' : World => w'.cell? ⟨w.heap.size, 0, none⟩ = some (.pointer (some ⟨b, 0, none⟩)) ∧ w'.cell? ⟨w.heap.size, 1, none⟩ = some (.int .i64 e)) W := ⟨HP2.out.cell 0, HP2.out.cell 1⟩
  repeat (refine wpPl_take (v := ?_) rfl (fun _ _ _ h => h) rfl (fun w' hSw => ?_) hS ?_; rotate_left; focus (go_simp; with_reducible rfl); try simp only [Act.put, List.setIfInBounds_toArray, List.set_cons_zero, List.set_cons_succ])
  refine wpPl_run rfl fun K' hK => ?_
  go_simp
  refine (BitLen_any ab 0 _ _ HA2.out).mono ?_
  rintro e2 w2 ⟨rfl, rfl⟩
  rw [HBL.out]
  refine hK _ _ hS ?_
  clear hK K'
  have hw1 := HW.out.1
  have hw2 := HW.out.2.1
  have hmax := HM.out
  repeat (refine wpPl_take (v := ?_) rfl (fun _ _ _ h => h) rfl (fun w' hSw => ?_) hS ?_; rotate_left; focus (go_simp; with_reducible rfl); try simp only [Act.put, List.setIfInBounds_toArray, List.set_cons_zero, List.set_cons_succ])
  clear hS
  refine wpPl_nil ?_
  simp only [List.drop_succ_cons, List.drop_zero]
  clear hw1 hw2 hmax
  go_wp2
  refine wp_region_pl (fun w' : World => w'.cell? ⟨w.heap.size, 0, none⟩ = some (.pointer (some ⟨b, 0, none⟩)) ∧ w'.cell? ⟨w.heap.size, 1, none⟩ = some (.int .i64 e)) 13 (.take 0 (.take 1 (.take 2 (.take 3 (.take 4 (.take 5 (.take 6 (.take 9 (.take 11 (.run 7 (.take 8 (.run 10 (.take 12 .nil))))))))))))) (by kernel_rfl) (by kernel_rfl) ?_
  have HB3 := Lib.hid (HB2.out.drew)
  have HP3 := Lib.hid (HP2.out.below (drew_below W))
  have HA3 := Lib.hid (HA2.out.below (drew_below W))
  clear HB2 HP2 HA2
  generalize W.drew = V at HB3 HP3 HA3 ⊢
  have hS : (fun w' : World => w'.cell? ⟨w.heap.size, 0, none⟩ = some (.pointer (some ⟨b, 0, none⟩)) ∧ w'.cell? ⟨w.heap.size, 1, none⟩ = some (.int .i64 e)) V := ⟨HP3.out.cell 0, HP3.out.cell 1⟩
  have hw3 := HW.out.2.2
  repeat (refine wpPl_take (v := ?_) rfl (fun _ _ _ h => h) rfl (fun w' hSw => ?_) hS ?_; rotate_left; focus (go_simp; with_reducible rfl); try simp only [Act.put, List.setIfInBounds_toArray, List.set_cons_zero, List.set_cons_succ])
  clear hw3
  refine wpPl_run rfl fun K' hK => ?_
  go_simp
  refine (Sign_any b 0 _ _ (HX.out.below HB3.out)).mono ?_
  rintro e2 w2 ⟨rfl, rfl⟩
  rw [HS.out]
  refine hK _ _ hS ?_
  clear hK K'
  have hneg := HNG.out
  repeat (refine wpPl_take (v := ?_) rfl (fun _ _ _ h => h) rfl (fun w' hSw => ?_) hS ?_; rotate_left; focus (go_simp; with_reducible rfl); try simp only [Act.put, List.setIfInBounds_toArray, List.set_cons_zero, List.set_cons_succ])
  clear hS hneg
  refine wpPl_run rfl fun K' hK => ?_
  go_simp
  refine (HC.out ab _ HA3.out).mono ?_
  rintro e3 w3 ⟨p, rfl, hp, hi3, hb3⟩
  have HB4 := Lib.hid (HB3.out.trans (hb3.mono HB3.out.size))
  have HP4 := Lib.hid (HP3.out.below hb3)
  have HI4 := Lib.hid hi3
  have hS : (fun w' : World => w'.cell? ⟨w.heap.size, 0, none⟩ = some (.pointer (some ⟨b, 0, none⟩)) ∧ w'.cell? ⟨w.heap.size, 1, none⟩ = some (.int .i64 e)) w3 := ⟨HP4.out.cell 0, HP4.out.cell 1⟩
  refine hK _ _ hS ?_
  clear hK K' hp hi3 hb3
  repeat (refine wpPl_take (v := ?_) rfl (fun _ _ _ h => h) rfl (fun w' hSw => ?_) hS ?_; rotate_left; focus (go_simp; with_reducible rfl); try simp only [Act.put, List.setIfInBounds_toArray, List.set_cons_zero, List.set_cons_succ])
  clear hS
  refine wpPl_nil ?_
  simp only [List.drop_succ_cons, List.drop_zero]
  go_wp2
  go_ret2
  exact ⟨p, by rw [HLE.out]; rfl, HI4.out, HB4.out⟩

end Go.Proofs.YtfcddnccmdjhfaaDoor
