/- Walks: a single made of parts: made, number32, Of32. Printed by wip/gen/sng.py. -/
import Derived.Test.YtjoajbbapfgaoaaGreatDoorZSng
namespace Go.Proofs.YtjoajbbapfgaoaaGreatDoor
open Go.RowKit

set_option maxRecDepth 100000 in
set_option maxHeartbeats 1600000 in
theorem madeS_walk (neg : Bool) (m t a L D M : Nat) (e e' : Int) (w : World) (hm0 : m ≠ 0) (hm : m < 18446744073709551616) (ht : Lib.ctz 64 m = t) (ha : m / 2 ^ t = a) (he : e + t = e') (hL : bl a = L) (hD : min (24 - (L : Int)) (e' + 149) = D) (hM : a * 2 ^ D = M)
    (hL24 : L ≤ 24) (he' : -149 ≤ e') (hb1 : -300 ≤ e) (hb2 : e ≤ 300) (hM24 : M < 16777216) (hE : ¬ M < jHid → e' - D + 150 < 255) (hE1 : ¬ M < jHid → 1 ≤ e' - D + 150)
    (hT : Tab64 w) (hTs : 1 < w.heap.size) :
    Calls Tryz.prog 168 #[.agg #[.bool neg, .int .u64 m, .int .i64 e], F32v] w (Gives (.tuple #[.int .u32 ((if M < jHid then joinS neg 0 M else joinS neg (e' - D + 150).toNat (M - jHid) : Nat) : Int), .int .i64 0]) w) := by
  obtain ⟨R, hR⟩ : ∃ R, (if M < jHid then joinS neg 0 M else joinS neg (e' - D + 150).toNat (M - jHid)) = R := ⟨_, rfl⟩
  rw [hR]
  have HR : Hid ((M < jHid → R = joinS neg 0 M) ∧ (¬ M < jHid → R = joinS neg (e' - D + 150).toNat (M - jHid))) := Lib.hid ⟨fun h => by rw [← hR, if_pos h], fun h => by rw [← hR, if_neg h]⟩
  clear hR
  have HTZ : Hid (∀ W : World, Tab64 W → Calls Tryz.prog 213 #[.int .u64 m] W fun e W' => e = .returned (.int .i64 t) ∧ W = W') :=
    Lib.hid fun W hW => by rw [← ht]; exact tz64_any m hm hm0 W hW
  have ha64 : a < 18446744073709551616 := by rw [← ha]; exact Nat.lt_of_le_of_lt (Nat.div_le_self _ _) hm
  have HLN : Hid (∀ W : World, Calls Tryz.prog 214 #[.int .u64 a] W fun e W' => e = .returned (.int .i64 L) ∧ W = W') :=
    Lib.hid fun W => by rw [← hL]; exact len64_any a ha64 W
  have HSH : Hid (IntKind.u64.wrap ((a : Int) * 2 ^ D) = (M : Int)) := Lib.hid (by rw [hid_lt_u64 (by omega), hM])
  have HSR : Hid ((m : Int) / 2 ^ t = (a : Int)) := Lib.hid (by rw [← ha]; simp)
  have ht64 : t < 64 := by rw [← ht]; exact (Lib.lowest_bit 64 m hm0 hm).2
  have HH := Lib.hid fun w => hiddenS_any w
  have HJ0 : Hid (M < jHid → ∀ W, Calls Tryz.prog 218 #[.bool neg, .int .i64 0, .int .u32 M, F32v] W (Gives (.tuple #[.int .u32 (joinS neg 0 M : Nat), .int .i64 0]) W)) :=
    Lib.hid fun h W => joinS_any neg 0 M W (by decide) h
  have HJ1 : Hid (¬ M < jHid → ∀ W, Calls Tryz.prog 218 #[.bool neg, .int .i64 (e' - D + 150), .int .u32 ((M : Int) - jHid), F32v] W (Gives (.tuple #[.int .u32 (joinS neg (e' - D + 150).toNat (M - jHid) : Nat), .int .i64 0]) W)) := by
    refine Lib.hid fun h W => ?_
    have h1 := hE h
    have h2 := hE1 h
    have := joinS_any neg (e' - D + 150).toNat (M - jHid) W (by omega) (by unfold jHid at *; omega)
    rw [show (((e' - D + 150).toNat : Nat) : Int) = e' - D + 150 by omega, show ((M - jHid : Nat) : Int) = (M : Int) - jHid by omega] at this
    exact this
  have HWR : Hid (¬ M < jHid → IntKind.u64.wrap ((M : Int) - jHid) = (M : Int) - jHid) := by
    refine Lib.hid fun h => ?_
    rw [IntKind.wrap_u64]; unfold jHid at *; omega
  have HW32 : Hid (IntKind.u32.wrap (M : Int) = M) := Lib.hid (wrap_u32_lt M (by omega))
  have HWR32 : Hid (¬ M < jHid → IntKind.u32.wrap ((M : Int) - jHid) = (M : Int) - jHid) := by
    refine Lib.hid fun h => ?_
    rw [IntKind.wrap_u32]; unfold jHid at *; omega
  have hD0 : D ≤ 24 := by omega
  have hmz : ((m : Int) == 0) = false := by simp; omega
  have hw1 : IntKind.i64.wrap (e + (t : Int)) = e' := by rw [IntWalk.i64_in _ (by omega)]; exact he
  have HW1 := Lib.hid hw1
  have HHD := Lib.hid hD
  have HEE := Lib.hid (And.intro hE hE1)
  have HTT := Lib.hid (And.intro hT hTs)
  have he2 : e' ≤ 364 := by omega
  have hq1 : decide ((300 : Int) < e) = false := by simp; omega
  have hq2 : decide (e < (-300 : Int)) = false := by simp; omega
  have hq3 : decide ((24 : Int) < (L : Int)) = false := by simp; omega
  have hq4 : decide (e' < (-149 : Int)) = false := by simp; omega
  unfold F32v at *
  have HF0 : Hid (BlkT ((w.alloc (.cells #[.bool neg, .int .u64 m, .int .i64 e] 110)).alloc (.cells #[.int .u64 23, .int .i64 255, .int .i64 150] 178)) w.heap.size 110 #[.bool neg, .int .u64 m, .int .i64 e] ∧
     BlkT ((w.alloc (.cells #[.bool neg, .int .u64 m, .int .i64 e] 110)).alloc (.cells #[.int .u64 23, .int .i64 255, .int .i64 150] 178)) (w.heap.size + 1) 178 #[.int .u64 23, .int .i64 255, .int .i64 150] ∧
     Below w.heap.size w ((w.alloc (.cells #[.bool neg, .int .u64 m, .int .i64 e] 110)).alloc (.cells #[.int .u64 23, .int .i64 255, .int .i64 150] 178))) := Lib.hid ⟨(BlkT.new w _ _).alloc _, BlkT.new1 w _ _ _, below2 _ _ _⟩
  clear hm0 hm ht ha he hL hD hM hM24 hE hE1 hT hTs ha64 hw1
  go_enter Tryz.func168, Tryz.ntmps168
  go_wp2_with fail
  refine (HTZ.out _ (HTT.out.1.below HTT.out.2 HF0.out.2.2)).mono ?_
  rintro e1 w1 ⟨rfl, rfl⟩
  go_wp2
  generalize hW : ((w.alloc (.cells #[.bool neg, .int .u64 m, .int .i64 e] 110)).alloc (.cells #[.int .u64 23, .int .i64 255, .int .i64 150] 178)) = W at HF0 ⊢
  clear hW
  refine wp_region_pl (fun w' : World => w'.cell? ⟨w.heap.size, 1, none⟩ = some (.int .u64 m) ∧ w'.cell? ⟨w.heap.size, 2, none⟩ = some (.int .i64 e)) 9 (.take 0 (.take 1 (.take 2 (.take 3 (.take 4 (.take 5 (.take 6 (.take 7 (.take 8 .nil))))))))) (by kernel_rfl) (by kernel_rfl) ?_
  have HF1 : Hid (BlkT W.drew w.heap.size 110 #[.bool neg, .int .u64 m, .int .i64 e] ∧ BlkT W.drew (w.heap.size + 1) 178 #[.int .u64 23, .int .i64 255, .int .i64 150] ∧ Below w.heap.size w W.drew) :=
    Lib.hid ⟨HF0.out.1.below (drew_below _), HF0.out.2.1.below (drew_below _), HF0.out.2.2.drew⟩
  clear HF0
  generalize W.drew = V at HF1 ⊢
  have hS : (fun w' : World => w'.cell? ⟨w.heap.size, 1, none⟩ = some (.int .u64 m) ∧ w'.cell? ⟨w.heap.size, 2, none⟩ = some (.int .i64 e)) V := ⟨HF1.out.1.cell 1, HF1.out.1.cell 2⟩
  have hw1 := HW1.out
  have hsr := HSR.out
  repeat (refine wpPl_take (v := ?_) rfl (fun _ _ _ h => h) rfl (fun w' hSw => ?_) hS ?_; rotate_left; focus (go_simp; with_reducible rfl); try simp only [Act.put, List.setIfInBounds_toArray, List.set_cons_zero, List.set_cons_succ])
  clear hS hw1 hsr
  refine wpPl_nil ?_
  simp only [List.drop_succ_cons, List.drop_zero]
  have hw4 : IntKind.i64.wrap (e' - (D : Int)) = e' - D := IntWalk.i64_in _ (by omega)
  have hmin := HHD.out
  go_wp2_with fail
  refine (HLN.out _).mono ?_
  rintro e2 w2 ⟨rfl, rfl⟩
  obtain ⟨x0, x1, x2, x3, x4, x5⟩ := HF1.out.1.cells3
  obtain ⟨y0, y1, y2, y3, y4, y5⟩ := HF1.out.2.1.cells3
  go_wp2_with fail
  rw [HSH.out]
  refine (HH.out _).mono ?_
  rintro e3 w3 ⟨rfl, hb3⟩
  have HF3 : Hid (BlkT w3 w.heap.size 110 #[.bool neg, .int .u64 m, .int .i64 e] ∧ BlkT w3 (w.heap.size + 1) 178 #[.int .u64 23, .int .i64 255, .int .i64 150] ∧ Below w.heap.size w w3) :=
    Lib.hid ⟨HF1.out.1.below hb3, HF1.out.2.1.below hb3, HF1.out.2.2.trans (hb3.mono HF1.out.2.2.size)⟩
  clear hb3 x0 x1 x2 x3 x4 x5 y0 y1 y2 y3 y4 y5 hq1 hq2 hq3 hq4 hmin hmz HF1
  generalize jHid = kh at *
  obtain ⟨x0, x1, x2, x3, x4, x5⟩ := HF3.out.1.cells3
  obtain ⟨y0, y1, y2, y3, y4, y5⟩ := HF3.out.2.1.cells3
  by_cases hlt : M < kh
  · have hlt2 : decide (M < kh) = true := decide_eq_true hlt
    have HJ := Lib.hid (HJ0.out hlt)
    have HRR := Lib.hid (HR.out.1 hlt)
    have hw32 := HW32.out
    clear hlt
    go_wp2_with fail
    refine (HJ.out _).mono ?_
    rintro e4 w4 ⟨rfl, hb4⟩
    have HB4 := Lib.hid (HF3.out.2.2.trans (hb4.mono HF3.out.2.2.size))
    clear hb4
    go_wp2
    go_ret2
    exact ⟨by rw [HRR.out]; rfl, HB4.out⟩
  · have hlt2 : decide (M < kh) = false := decide_eq_false hlt
    have HJ := Lib.hid (HJ1.out hlt)
    have HRR := Lib.hid (HR.out.2 hlt)
    have hE1 := HEE.out.1 hlt
    have HWW := Lib.hid (HWR.out hlt)
    have HWW32 := Lib.hid (HWR32.out hlt)
    clear hlt
    go_wp2
    refine wp_region_pl (fun w' : World => w'.cell? ⟨w.heap.size, 0, none⟩ = some (.bool neg) ∧ (w'.cell? ⟨w.heap.size + 1, 0, none⟩ = some (.int .u64 23) ∧ w'.cell? ⟨w.heap.size + 1, 1, none⟩ = some (.int .i64 255)) ∧ w'.cell? ⟨w.heap.size + 1, 2, none⟩ = some (.int .i64 150)) 12 (.take 0 (.take 1 (.take 2 (.take 3 (.take 4 (.take 8 (.run 5 (.take 6 (.take 7 (.run 9 (.take 10 (.take 11 .nil)))))))))))) (by kernel_rfl) (by kernel_rfl) ?_
    have HF4 : Hid (BlkT w3.drew w.heap.size 110 #[.bool neg, .int .u64 m, .int .i64 e] ∧ BlkT w3.drew (w.heap.size + 1) 178 #[.int .u64 23, .int .i64 255, .int .i64 150] ∧ Below w.heap.size w w3.drew) :=
      Lib.hid ⟨HF3.out.1.below (drew_below _), HF3.out.2.1.below (drew_below _), HF3.out.2.2.drew⟩
    clear x0 x1 x2 x3 x4 x5 y0 y1 y2 y3 y4 y5 HF3 hlt2
    generalize w3.drew = V4 at HF4 ⊢
    have hS : (fun w' : World => w'.cell? ⟨w.heap.size, 0, none⟩ = some (.bool neg) ∧ (w'.cell? ⟨w.heap.size + 1, 0, none⟩ = some (.int .u64 23) ∧ w'.cell? ⟨w.heap.size + 1, 1, none⟩ = some (.int .i64 255)) ∧ w'.cell? ⟨w.heap.size + 1, 2, none⟩ = some (.int .i64 150)) V4 := ⟨HF4.out.1.cell 0, ⟨HF4.out.2.1.cell 0, HF4.out.2.1.cell 1⟩, HF4.out.2.1.cell 2⟩
    repeat (refine wpPl_take (v := ?_) rfl (fun _ _ _ h => h) rfl (fun w' hSw => ?_) hS ?_; rotate_left; focus (go_simp; with_reducible rfl); try simp only [Act.put, List.setIfInBounds_toArray, List.set_cons_zero, List.set_cons_succ])
    clear hS
    refine wpPl_run rfl fun K' hK => ?_
    go_simp
    refine (HH.out _).mono ?_
    rintro e5 w5 ⟨rfl, hb5⟩
    have HF5 : Hid (BlkT w5 w.heap.size 110 #[.bool neg, .int .u64 m, .int .i64 e] ∧ BlkT w5 (w.heap.size + 1) 178 #[.int .u64 23, .int .i64 255, .int .i64 150] ∧ Below w.heap.size w w5) :=
      Lib.hid ⟨HF4.out.1.below hb5, HF4.out.2.1.below hb5, HF4.out.2.2.trans (hb5.mono HF4.out.2.2.size)⟩
    have hS : (fun w' : World => w'.cell? ⟨w.heap.size, 0, none⟩ = some (.bool neg) ∧ (w'.cell? ⟨w.heap.size + 1, 0, none⟩ = some (.int .u64 23) ∧ w'.cell? ⟨w.heap.size + 1, 1, none⟩ = some (.int .i64 255)) ∧ w'.cell? ⟨w.heap.size + 1, 2, none⟩ = some (.int .i64 150)) w5 := ⟨HF5.out.1.cell 0, ⟨HF5.out.2.1.cell 0, HF5.out.2.1.cell 1⟩, HF5.out.2.1.cell 2⟩
    refine hK _ _ hS ?_
    clear hK K' hb5 HF4
    have hww := HWW.out
    have hww32 := HWW32.out
    repeat (refine wpPl_take (v := ?_) rfl (fun _ _ _ h => h) rfl (fun w' hSw => ?_) hS ?_; rotate_left; focus (go_simp; with_reducible rfl); try simp only [Act.put, List.setIfInBounds_toArray, List.set_cons_zero, List.set_cons_succ])
    clear hS hww hww32
    refine wpPl_run rfl fun K' hK => ?_
    go_simp
    refine (HJ.out _).mono ?_
    rintro e6 w6 ⟨rfl, hb6⟩
    have HF6 : Hid (BlkT w6 w.heap.size 110 #[.bool neg, .int .u64 m, .int .i64 e] ∧ BlkT w6 (w.heap.size + 1) 178 #[.int .u64 23, .int .i64 255, .int .i64 150] ∧ Below w.heap.size w w6) :=
      Lib.hid ⟨HF5.out.1.below hb6, HF5.out.2.1.below hb6, HF5.out.2.2.trans (hb6.mono HF5.out.2.2.size)⟩
    have hS : (fun w' : World => w'.cell? ⟨w.heap.size, 0, none⟩ = some (.bool neg) ∧ (w'.cell? ⟨w.heap.size + 1, 0, none⟩ = some (.int .u64 23) ∧ w'.cell? ⟨w.heap.size + 1, 1, none⟩ = some (.int .i64 255)) ∧ w'.cell? ⟨w.heap.size + 1, 2, none⟩ = some (.int .i64 150)) w6 := ⟨HF6.out.1.cell 0, ⟨HF6.out.2.1.cell 0, HF6.out.2.1.cell 1⟩, HF6.out.2.1.cell 2⟩
    refine hK _ _ hS ?_
    clear hK K' hb6 HF5
    repeat (refine wpPl_take (v := ?_) rfl (fun _ _ _ h => h) rfl (fun w' hSw => ?_) hS ?_; rotate_left; focus (go_simp; with_reducible rfl); try simp only [Act.put, List.setIfInBounds_toArray, List.set_cons_zero, List.set_cons_succ])
    clear hS
    refine wpPl_nil ?_
    simp only [List.drop_succ_cons, List.drop_zero]
    go_wp2
    go_ret2
    exact ⟨by rw [HRR.out]; rfl, HF6.out.2.2⟩

/-- There is such a single. -/
def FitsS (m : Nat) (e : Int) : Prop := m ≠ 0 → m < 18446744073709551616 ∧ bl (m / 2 ^ Lib.ctz 64 m) ≤ 24 ∧ -149 ≤ e + Lib.ctz 64 m ∧ e + bl m ≤ 128 ∧ -300 ≤ e ∧ e ≤ 300

theorem madeS_any (neg : Bool) (m : Nat) (e : Int) (w : World) (hf : FitsS m e) (hT : Tab64 w) (hTs : 1 < w.heap.size) :
    Calls Tryz.prog 168 #[.agg #[.bool neg, .int .u64 m, .int .i64 e], F32v] w (Gives (.tuple #[.int .u32 (mkS neg m e : Nat), .int .i64 0]) w) := by
  unfold mkS
  by_cases h0 : m = 0
  · subst h0; rw [if_pos rfl]; exact madeS_zero neg e w
  · rw [if_neg h0]
    obtain ⟨h1, h2, h3, h4, h5, h6⟩ := hf h0
    obtain ⟨k1, k2⟩ := ctz_spec h0 h1
    have hb : bl m = bl (m / 2 ^ Lib.ctz 64 m) + Lib.ctz 64 m := by
      conv => lhs; rw [k1]
      exact bl_mul_pow (by omega) _
    have ha := lt_bl (m / 2 ^ Lib.ctz 64 m)
    have ha0 : m / 2 ^ Lib.ctz 64 m ≠ 0 := by omega
    have hML : ∀ D : Nat, bl (m / 2 ^ Lib.ctz 64 m * 2 ^ D) = bl (m / 2 ^ Lib.ctz 64 m) + D := fun D => bl_mul_pow ha0 D
    obtain ⟨D, hD⟩ : ∃ D : Nat, min (24 - (bl (m / 2 ^ Lib.ctz 64 m) : Int)) (e + Lib.ctz 64 m + 149) = (D : Int) := ⟨(min (24 - (bl (m / 2 ^ Lib.ctz 64 m) : Int)) (e + Lib.ctz 64 m + 149)).toNat, by omega⟩
    have hm1 : m / 2 ^ Lib.ctz 64 m * 2 ^ D < 2 ^ 24 := (bl_le_iff (k := 24)).1 (by rw [hML]; omega)
    have hE : ¬ m / 2 ^ Lib.ctz 64 m * 2 ^ D < jHid → 24 ≤ bl (m / 2 ^ Lib.ctz 64 m) + D := by
      intro h
      rcases Nat.lt_or_ge (bl (m / 2 ^ Lib.ctz 64 m) + D) 24 with h7 | h7
      · exact absurd ((bl_le_iff (k := 23)).1 (by rw [hML]; omega)) h
      · exact h7
    have := madeS_walk neg m (Lib.ctz 64 m) (m / 2 ^ Lib.ctz 64 m) (bl (m / 2 ^ Lib.ctz 64 m)) D _ e (e + Lib.ctz 64 m) w h0 h1 rfl rfl rfl rfl hD rfl h2 h3 h5 h6 hm1
      (fun h => by have := hE h; omega) (fun h => by omega) hT hTs
    simp only [hD, Int.toNat_natCast]
    exact this

theorem ffrom32_eq (n : Nat) (w : World) : (callFunc 217 #[.int .u32 n]).run Tryz.prog w = .ok (.value (.float .f32 n)) w := by
  rw [run_callFunc_extern Tryz.func217 (by kernel_rfl) (by kernel_rfl) (by kernel_rfl) (e := Extern.MathFloatBits.float32frombits) (by kernel_rfl)]
  rfl

theorem fbits32_eq (n : Nat) (w : World) : (callFunc 31 #[.float .f32 n]).run Tryz.prog w = .ok (.value (.int .u32 n)) w := by
  rw [run_callFunc_extern Tryz.func31 (by kernel_rfl) (by kernel_rfl) (by kernel_rfl) (e := Extern.MathFloatBits.float32bits) (by kernel_rfl)]
  rfl

set_option maxRecDepth 100000 in
set_option maxHeartbeats 400000 in
theorem numberS_any (b : Nat) (k : Int) (w : World) :
    Calls Tryz.prog 167 #[.int .u32 b, .int .i64 k] w fun e w' => e = .returned (.tuple #[.float .f32 b, .int .i64 k]) ∧ w = w' := by
  have hf := ffrom32_eq b
  go_enter Tryz.func167, Tryz.ntmps167
  go_wp2
  go_ret2
  exact ⟨rfl, rfl⟩

set_option maxRecDepth 100000 in
set_option maxHeartbeats 800000 in
theorem aOfS_any (neg : Bool) (m : Nat) (e : Int) (w : World) (hf : FitsS m e) (hT : Tab64 w) (hTs : 1 < w.heap.size) :
    Calls Tryz.prog 104 #[.agg #[.bool neg, .int .u64 m, .int .i64 e]] w (Gives (.tuple #[.float .f32 (mkS neg m e), .int .i64 0]) w) := by
  have HC := Lib.hid fun W hW => madeS_any neg m e W hf hW
  have HO := Lib.hid fun w => ofS_any w
  have HT := Lib.hid (And.intro hT hTs)
  have HN := Lib.hid fun b k w => numberS_any b k w
  unfold F32v at *
  generalize mkS neg m e = R at *
  have HW0 := Lib.hid (BlkT.new w #[.bool neg, .int .u64 m, .int .i64 e] 110)
  clear hf hT hTs
  go_enter Tryz.func104, Tryz.ntmps104
  go_wp2
  refine wp_region_pl (fun w' : World => (w'.cell? ⟨w.heap.size, 0, none⟩ = some (.bool neg) ∧ w'.cell? ⟨w.heap.size, 1, none⟩ = some (.int .u64 m)) ∧ w'.cell? ⟨w.heap.size, 2, none⟩ = some (.int .i64 e)) 8 (.take 0 (.run 1 (.run 2 (.take 3 (.take 4 (.run 5 (.take 6 (.take 7 .nil)))))))) (by kernel_rfl) (by kernel_rfl) ?_
  have HW1 : Hid (BlkT (w.alloc (.cells #[.bool neg, .int .u64 m, .int .i64 e] 110)).drew w.heap.size 110 #[.bool neg, .int .u64 m, .int .i64 e] ∧ Below w.heap.size w (w.alloc (.cells #[.bool neg, .int .u64 m, .int .i64 e] 110)).drew) := Lib.hid ⟨HW0.out.below (drew_below _), (below1 _ _).drew⟩
  clear HW0
  generalize (w.alloc (.cells #[.bool neg, .int .u64 m, .int .i64 e] 110)).drew = W at HW1 ⊢
  have hS : (fun w' : World => (w'.cell? ⟨w.heap.size, 0, none⟩ = some (.bool neg) ∧ w'.cell? ⟨w.heap.size, 1, none⟩ = some (.int .u64 m)) ∧ w'.cell? ⟨w.heap.size, 2, none⟩ = some (.int .i64 e)) W := ⟨⟨HW1.out.1.cell 0, HW1.out.1.cell 1⟩, HW1.out.1.cell 2⟩
  repeat (refine wpPl_take (v := ?_) rfl (fun _ _ _ h => h) rfl (fun w' hSw => ?_) hS ?_; rotate_left; focus (go_simp; with_reducible rfl); try simp only [Act.put, List.setIfInBounds_toArray, List.set_cons_zero, List.set_cons_succ])
  clear hS
  refine wpPl_run rfl fun K' hK => ?_
  go_simp
  refine (HO.out _).mono ?_
  rintro e1 w1 ⟨rfl, hb1⟩
  have HW2 : Hid (BlkT w1 w.heap.size 110 #[.bool neg, .int .u64 m, .int .i64 e] ∧ Below w.heap.size w w1) := Lib.hid ⟨HW1.out.1.below hb1, HW1.out.2.trans (hb1.mono HW1.out.2.size)⟩
  refine hK _ _ ⟨⟨HW2.out.1.cell 0, HW2.out.1.cell 1⟩, HW2.out.1.cell 2⟩ ?_
  clear hK K' hb1 HW1
  refine wpPl_run rfl fun K' hK => ?_
  go_simp
  refine (HC.out _ (HT.out.1.below HT.out.2 HW2.out.2) (Nat.lt_of_lt_of_le HT.out.2 HW2.out.2.size)).mono ?_
  rintro e2 w2 ⟨rfl, hb2⟩
  have HW3 : Hid (BlkT w2 w.heap.size 110 #[.bool neg, .int .u64 m, .int .i64 e] ∧ Below w.heap.size w w2) := Lib.hid ⟨HW2.out.1.below hb2, HW2.out.2.trans (hb2.mono HW2.out.2.size)⟩
  have hS : (fun w' : World => (w'.cell? ⟨w.heap.size, 0, none⟩ = some (.bool neg) ∧ w'.cell? ⟨w.heap.size, 1, none⟩ = some (.int .u64 m)) ∧ w'.cell? ⟨w.heap.size, 2, none⟩ = some (.int .i64 e)) w2 := ⟨⟨HW3.out.1.cell 0, HW3.out.1.cell 1⟩, HW3.out.1.cell 2⟩
  refine hK _ _ hS ?_
  clear hK K' hb2 HW2
  repeat (refine wpPl_take (v := ?_) rfl (fun _ _ _ h => h) rfl (fun w' hSw => ?_) hS ?_; rotate_left; focus (go_simp; with_reducible rfl); try simp only [Act.put, List.setIfInBounds_toArray, List.set_cons_zero, List.set_cons_succ])
  refine wpPl_run rfl fun K' hK => ?_
  go_simp
  refine (HN.out R 0 _).mono ?_
  rintro e3 w3 ⟨rfl, rfl⟩
  refine hK _ _ hS ?_
  clear hK K'
  repeat (refine wpPl_take (v := ?_) rfl (fun _ _ _ h => h) rfl (fun w' hSw => ?_) hS ?_; rotate_left; focus (go_simp; with_reducible rfl); try simp only [Act.put, List.setIfInBounds_toArray, List.set_cons_zero, List.set_cons_succ])
  clear hS
  refine wpPl_nil ?_
  simp only [List.drop_succ_cons, List.drop_zero]
  go_wp2
  go_ret2
  exact ⟨rfl, HW3.out.2⟩

theorem fits_roundS {z e mode : Int} (h : lastE z e 24 (-149) + bl (roundZ z e 24 (-149) mode) ≤ 128) (h2 : lastE z e 24 (-149) ≤ 300) : FitsS (roundZ z e 24 (-149) mode) (lastE z e 24 (-149)) := by
  intro h0
  have h1 := roundS_le z e mode
  have h3 : -149 ≤ lastE z e 24 (-149) := by unfold lastE; omega
  generalize roundZ z e 24 (-149) mode = m at *
  generalize lastE z e 24 (-149) = last at *
  refine ⟨by omega, ?_, by omega, h, by omega, h2⟩
  by_cases h4 : m = 16777216
  · subst h4; rw [ctz_two_pow24]; decide
  · exact bl_le_of_lt (Nat.lt_of_le_of_lt (Nat.div_le_self _ _) (by omega))

end Go.Proofs.YtjoajbbapfgaoaaGreatDoor
