/- Walks: a number made of parts. -/
import Derived.Test.YtfcddnccmdjhfaaDoorDyd
namespace Go.Proofs.YtfcddnccmdjhfaaDoor
open Go.RowKit

theorem hid_lt_u64 {a D : Nat} (h : a * 2 ^ D < 18446744073709551616) : IntKind.u64.wrap ((a : Int) * 2 ^ D) = ((a * 2 ^ D : Nat) : Int) := by
  have e : ((a : Int) * 2 ^ D) = ((a * 2 ^ D : Nat) : Int) := by simp
  rw [e]; exact wrap_u64_lt _ h

set_option maxRecDepth 100000 in
set_option maxHeartbeats 1600000 in
theorem made_walk (neg : Bool) (m t a L D M : Nat) (e e' : Int) (w : World) (hm0 : m ≠ 0) (hm : m < 18446744073709551616) (ht : Lib.ctz 64 m = t) (ha : m / 2 ^ t = a) (he : e + t = e') (hL : bl a = L) (hD : min (53 - (L : Int)) (e' + 1074) = D) (hM : a * 2 ^ D = M)
    (hL53 : L ≤ 53) (he' : -1074 ≤ e') (hb1 : -2150 ≤ e) (hb2 : e ≤ 2150) (hM53 : M < 9007199254740992) (hE : ¬ M < kHid → e' - D + 1075 < 2047) (hE1 : ¬ M < kHid → 1 ≤ e' - D + 1075)
    (hT : Tab64 w) (hTs : 1 < w.heap.size) :
    Calls Tryd.prog 61 #[.agg #[.bool neg, .int .u64 m, .int .i64 e], F64] w (Gives (.tuple #[.int .u64 ((if M < kHid then joinB neg 0 M else joinB neg (e' - D + 1075).toNat (M - kHid) : Nat) : Int), .int .i64 0]) w) := by
  obtain ⟨R, hR⟩ : ∃ R, (if M < kHid then joinB neg 0 M else joinB neg (e' - D + 1075).toNat (M - kHid)) = R := ⟨_, rfl⟩
  rw [hR]
  have HR : Hid ((M < kHid → R = joinB neg 0 M) ∧ (¬ M < kHid → R = joinB neg (e' - D + 1075).toNat (M - kHid))) := Lib.hid ⟨fun h => by rw [← hR, if_pos h], fun h => by rw [← hR, if_neg h]⟩
  clear hR
  have HTZ : Hid (∀ W : World, Tab64 W → Calls Tryd.prog 83 #[.int .u64 m] W fun e W' => e = .returned (.int .i64 t) ∧ W = W') :=
    Lib.hid fun W hW => by rw [← ht]; exact tz64_any m hm hm0 W hW
  have ha64 : a < 18446744073709551616 := by rw [← ha]; exact Nat.lt_of_le_of_lt (Nat.div_le_self _ _) hm
  have HLN : Hid (∀ W : World, Calls Tryd.prog 81 #[.int .u64 a] W fun e W' => e = .returned (.int .i64 L) ∧ W = W') :=
    Lib.hid fun W => by rw [← hL]; exact len64_any a ha64 W
  have HSH : Hid (IntKind.u64.wrap ((a : Int) * 2 ^ D) = (M : Int)) := Lib.hid (by rw [hid_lt_u64 (by omega), hM])
  have HSR : Hid ((m : Int) / 2 ^ t = (a : Int)) := Lib.hid (by rw [← ha]; simp)
  have ht64 : t < 64 := by rw [← ht]; exact (Lib.lowest_bit 64 m hm0 hm).2
  have HH := Lib.hid fun w => hidden_any w
  have HJ0 : Hid (M < kHid → ∀ W, Calls Tryd.prog 82 #[.bool neg, .int .i64 0, .int .u64 M, F64] W (Gives (.tuple #[.int .u64 (joinB neg 0 M : Nat), .int .i64 0]) W)) :=
    Lib.hid fun h W => join_any neg 0 M W (by decide) h
  have HJ1 : Hid (¬ M < kHid → ∀ W, Calls Tryd.prog 82 #[.bool neg, .int .i64 (e' - D + 1075), .int .u64 ((M : Int) - kHid), F64] W (Gives (.tuple #[.int .u64 (joinB neg (e' - D + 1075).toNat (M - kHid) : Nat), .int .i64 0]) W)) := by
    refine Lib.hid fun h W => ?_
    have h1 := hE h
    have h2 := hE1 h
    have := join_any neg (e' - D + 1075).toNat (M - kHid) W (by omega) (by unfold kHid at *; omega)
    rw [show (((e' - D + 1075).toNat : Nat) : Int) = e' - D + 1075 by omega, show ((M - kHid : Nat) : Int) = (M : Int) - kHid by omega] at this
    exact this
  have HWR : Hid (¬ M < kHid → IntKind.u64.wrap ((M : Int) - kHid) = (M : Int) - kHid) := by
    refine Lib.hid fun h => ?_
    rw [IntKind.wrap_u64]; unfold kHid at *; omega
  have hD0 : D ≤ 53 := by omega
  have hmz : ((m : Int) == 0) = false := by simp; omega
  have hw1 : IntKind.i64.wrap (e + (t : Int)) = e' := by rw [IntWalk.i64_in _ (by omega)]; exact he
  have HW1 := Lib.hid hw1
  have HHD := Lib.hid hD
  have HEE := Lib.hid (And.intro hE hE1)
  have HTT := Lib.hid (And.intro hT hTs)
  have he2 : e' ≤ 2214 := by omega
  have hq1 : decide ((2150 : Int) < e) = false := by simp; omega
  have hq2 : decide (e < (-2150 : Int)) = false := by simp; omega
  have hq3 : decide ((53 : Int) < (L : Int)) = false := by simp; omega
  have hq4 : decide (e' < (-1074 : Int)) = false := by simp; omega
  unfold F64 at *
  have HF0 : Hid (BlkT ((w.alloc (.cells #[.bool neg, .int .u64 m, .int .i64 e] 75)).alloc (.cells #[.int .u64 52, .int .i64 2047, .int .i64 1075] 99)) w.heap.size 75 #[.bool neg, .int .u64 m, .int .i64 e] ∧
     BlkT ((w.alloc (.cells #[.bool neg, .int .u64 m, .int .i64 e] 75)).alloc (.cells #[.int .u64 52, .int .i64 2047, .int .i64 1075] 99)) (w.heap.size + 1) 99 #[.int .u64 52, .int .i64 2047, .int .i64 1075] ∧
     Below w.heap.size w ((w.alloc (.cells #[.bool neg, .int .u64 m, .int .i64 e] 75)).alloc (.cells #[.int .u64 52, .int .i64 2047, .int .i64 1075] 99))) := Lib.hid ⟨(BlkT.new w _ _).alloc _, BlkT.new1 w _ _ _, below2 _ _ _⟩
  clear hm0 hm ht ha he hL hD hM hM53 hE hE1 hT hTs ha64 hw1
  go_enter Tryd.func61, Tryd.ntmps61
  go_wp2_with fail
  refine (HTZ.out _ (HTT.out.1.below HTT.out.2 HF0.out.2.2)).mono ?_
  rintro e1 w1 ⟨rfl, rfl⟩
  go_wp2
  generalize hW : ((w.alloc (.cells #[.bool neg, .int .u64 m, .int .i64 e] 75)).alloc (.cells #[.int .u64 52, .int .i64 2047, .int .i64 1075] 99)) = W at HF0 ⊢
  clear hW
  refine wp_region_pl (fun w' : World => w'.cell? ⟨w.heap.size, 1, none⟩ = some (.int .u64 m) ∧ w'.cell? ⟨w.heap.size, 2, none⟩ = some (.int .i64 e)) 9 (.take 0 (.take 1 (.take 2 (.take 3 (.take 4 (.take 5 (.take 6 (.take 7 (.take 8 .nil))))))))) (by kernel_rfl) (by kernel_rfl) ?_
  have HF1 : Hid (BlkT W.drew w.heap.size 75 #[.bool neg, .int .u64 m, .int .i64 e] ∧ BlkT W.drew (w.heap.size + 1) 99 #[.int .u64 52, .int .i64 2047, .int .i64 1075] ∧ Below w.heap.size w W.drew) :=
    Lib.hid ⟨HF0.out.1.below (drew_below _), HF0.out.2.1.below (drew_below _), HF0.out.2.2.drew⟩
  clear HF0
  generalize W.drew = V at HF1 ⊢
  have hS : (fun w' : World => w'.cell? ⟨w.heap.size, 1, none⟩ = some (.int .u64 m) ∧ w'.cell? ⟨w.heap.size, 2, none⟩ = some (.int .i64 e)) V := ⟨HF1.out.1.cell 1, HF1.out.1.cell 2⟩
  have hw1 := HW1.out
  have hsr := HSR.out
  repeat (refine wpPl_take (v := ?_) rfl (fun _ _ _ h => h) rfl (fun w' hSw => ?_) hS ?_; rotate_left; focus (go_simp; with_reducible rfl); try simp only [Act.put, List.setIfInBounds_toArray, List.set_cons_zero, List.set_cons_succ])
  clear hS hw1 hsr
  refine wpPl_nil ?_
  simp only [List.drop_succ_cons, List.drop_zero]
  have hw4 : IntKind.i64.wrap (e' - (D : Int)) = e' - D := IntWalk.i64_in _ (by omega)
  have hmin := HHD.out
  go_wp2_with fail
  refine (HLN.out _).mono ?_
  rintro e2 w2 ⟨rfl, rfl⟩
  obtain ⟨x0, x1, x2, x3, x4, x5⟩ := HF1.out.1.cells3
  obtain ⟨y0, y1, y2, y3, y4, y5⟩ := HF1.out.2.1.cells3
  go_wp2_with fail
  rw [HSH.out]
  refine (HH.out _).mono ?_
  rintro e3 w3 ⟨rfl, hb3⟩
  have HF3 : Hid (BlkT w3 w.heap.size 75 #[.bool neg, .int .u64 m, .int .i64 e] ∧ BlkT w3 (w.heap.size + 1) 99 #[.int .u64 52, .int .i64 2047, .int .i64 1075] ∧ Below w.heap.size w w3) :=
    Lib.hid ⟨HF1.out.1.below hb3, HF1.out.2.1.below hb3, HF1.out.2.2.trans (hb3.mono HF1.out.2.2.size)⟩
  clear hb3 x0 x1 x2 x3 x4 x5 y0 y1 y2 y3 y4 y5 hq1 hq2 hq3 hq4 hmin hmz HF1
  generalize kHid = kh at *
  obtain ⟨x0, x1, x2, x3, x4, x5⟩ := HF3.out.1.cells3
  obtain ⟨y0, y1, y2, y3, y4, y5⟩ := HF3.out.2.1.cells3
  by_cases hlt : M < kh
  · have hlt2 : decide (M < kh) = true := decide_eq_true hlt
    have HJ := Lib.hid (HJ0.out hlt)
    have HRR := Lib.hid (HR.out.1 hlt)
    clear hlt
    go_wp2_with fail
    refine (HJ.out _).mono ?_
    rintro e4 w4 ⟨rfl, hb4⟩
    have HB4 := Lib.hid (HF3.out.2.2.trans (hb4.mono HF3.out.2.2.size))
    clear hb4
    go_wp2
    go_ret2
    exact ⟨by rw [HRR.out]; rfl, HB4.out⟩
  · have hlt2 : decide (M < kh) = false := decide_eq_false hlt
    have HJ := Lib.hid (HJ1.out hlt)
    have HRR := Lib.hid (HR.out.2 hlt)
    have hE1 := HEE.out.1 hlt
    have HWW := Lib.hid (HWR.out hlt)
    clear hlt
    go_wp2
    refine wp_region_pl (fun w' : World => w'.cell? ⟨w.heap.size, 0, none⟩ = some (.bool neg) ∧ (w'.cell? ⟨w.heap.size + 1, 0, none⟩ = some (.int .u64 52) ∧ w'.cell? ⟨w.heap.size + 1, 1, none⟩ = some (.int .i64 2047)) ∧ w'.cell? ⟨w.heap.size + 1, 2, none⟩ = some (.int .i64 1075)) 11 (.take 0 (.take 1 (.take 2 (.take 3 (.take 4 (.take 7 (.run 5 (.take 6 (.run 8 (.take 9 (.take 10 .nil))))))))))) (by kernel_rfl) (by kernel_rfl) ?_
    have HF4 : Hid (BlkT w3.drew w.heap.size 75 #[.bool neg, .int .u64 m, .int .i64 e] ∧ BlkT w3.drew (w.heap.size + 1) 99 #[.int .u64 52, .int .i64 2047, .int .i64 1075] ∧ Below w.heap.size w w3.drew) :=
      Lib.hid ⟨HF3.out.1.below (drew_below _), HF3.out.2.1.below (drew_below _), HF3.out.2.2.drew⟩
    clear x0 x1 x2 x3 x4 x5 y0 y1 y2 y3 y4 y5 HF3 hlt2
    generalize w3.drew = V4 at HF4 ⊢
    have hS : (fun w' : World => w'.cell? ⟨w.heap.size, 0, none⟩ = some (.bool neg) ∧ (w'.cell? ⟨w.heap.size + 1, 0, none⟩ = some (.int .u64 52) ∧ w'.cell? ⟨w.heap.size + 1, 1, none⟩ = some (.int .i64 2047)) ∧ w'.cell? ⟨w.heap.size + 1, 2, none⟩ = some (.int .i64 1075)) V4 := ⟨HF4.out.1.cell 0, ⟨HF4.out.2.1.cell 0, HF4.out.2.1.cell 1⟩, HF4.out.2.1.cell 2⟩
    repeat (refine wpPl_take (v := ?_) rfl (fun _ _ _ h => h) rfl (fun w' hSw => ?_) hS ?_; rotate_left; focus (go_simp; with_reducible rfl); try simp only [Act.put, List.setIfInBounds_toArray, List.set_cons_zero, List.set_cons_succ])
    clear hS
    refine wpPl_run rfl fun K' hK => ?_
    go_simp
    refine (HH.out _).mono ?_
    rintro e5 w5 ⟨rfl, hb5⟩
    have HF5 : Hid (BlkT w5 w.heap.size 75 #[.bool neg, .int .u64 m, .int .i64 e] ∧ BlkT w5 (w.heap.size + 1) 99 #[.int .u64 52, .int .i64 2047, .int .i64 1075] ∧ Below w.heap.size w w5) :=
      Lib.hid ⟨HF4.out.1.below hb5, HF4.out.2.1.below hb5, HF4.out.2.2.trans (hb5.mono HF4.out.2.2.size)⟩
    have hS : (fun w' : World => w'.cell? ⟨w.heap.size, 0, none⟩ = some (.bool neg) ∧ (w'.cell? ⟨w.heap.size + 1, 0, none⟩ = some (.int .u64 52) ∧ w'.cell? ⟨w.heap.size + 1, 1, none⟩ = some (.int .i64 2047)) ∧ w'.cell? ⟨w.heap.size + 1, 2, none⟩ = some (.int .i64 1075)) w5 := ⟨HF5.out.1.cell 0, ⟨HF5.out.2.1.cell 0, HF5.out.2.1.cell 1⟩, HF5.out.2.1.cell 2⟩
    refine hK _ _ hS ?_
    clear hK K' hb5 HF4
    have hww := HWW.out
    repeat (refine wpPl_take (v := ?_) rfl (fun _ _ _ h => h) rfl (fun w' hSw => ?_) hS ?_; rotate_left; focus (go_simp; with_reducible rfl); try simp only [Act.put, List.setIfInBounds_toArray, List.set_cons_zero, List.set_cons_succ])
    clear hS hww
    refine wpPl_run rfl fun K' hK => ?_
    go_simp
    refine (HJ.out _).mono ?_
    rintro e6 w6 ⟨rfl, hb6⟩
    have HF6 : Hid (BlkT w6 w.heap.size 75 #[.bool neg, .int .u64 m, .int .i64 e] ∧ BlkT w6 (w.heap.size + 1) 99 #[.int .u64 52, .int .i64 2047, .int .i64 1075] ∧ Below w.heap.size w w6) :=
      Lib.hid ⟨HF5.out.1.below hb6, HF5.out.2.1.below hb6, HF5.out.2.2.trans (hb6.mono HF5.out.2.2.size)⟩
    have hS : (fun w' : World => w'.cell? ⟨w.heap.size, 0, none⟩ = some (.bool neg) ∧ (w'.cell? ⟨w.heap.size + 1, 0, none⟩ = some (.int .u64 52) ∧ w'.cell? ⟨w.heap.size + 1, 1, none⟩ = some (.int .i64 2047)) ∧ w'.cell? ⟨w.heap.size + 1, 2, none⟩ = some (.int .i64 1075)) w6 := ⟨HF6.out.1.cell 0, ⟨HF6.out.2.1.cell 0, HF6.out.2.1.cell 1⟩, HF6.out.2.1.cell 2⟩
    refine hK _ _ hS ?_
    clear hK K' hb6 HF5
    repeat (refine wpPl_take (v := ?_) rfl (fun _ _ _ h => h) rfl (fun w' hSw => ?_) hS ?_; rotate_left; focus (go_simp; with_reducible rfl); try simp only [Act.put, List.setIfInBounds_toArray, List.set_cons_zero, List.set_cons_succ])
    clear hS
    refine wpPl_nil ?_
    simp only [List.drop_succ_cons, List.drop_zero]
    go_wp2
    go_ret2
    exact ⟨by rw [HRR.out]; rfl, HF6.out.2.2⟩

end Go.Proofs.YtfcddnccmdjhfaaDoor
