/- What the law asks of sums, products, quotients: as calls that answer true. Blocks in a list: three filled at once. -/
import Derived.Test.YtjokekmbnffpfaaGreatDoorZIwv
namespace Go.Proofs.YtjokekmbnffpfaaGreatDoor
open Go.RowKit

theorem objT_iv : ObjT 34 := by intro k; cases k <;> decide
theorem RInt.ne_iv {w : World} {p b t : Nat} {z : Int} {k : FloatKind} {x : Nat} {y : Value} (h : RInt w p z) (hb : BlkT w b t #[.float k x, y]) : p ≠ b := by
  rintro rfl
  have h1 := h.2.1
  rw [hb.cell 0] at h1
  cases Option.some.inj h1
theorem RInt.stI {W : World} {b p x y : Nat} {z : Int} (h : RInt W p z) (hr : BlkT W b 34 #[.float .f64 x, .float .f64 y]) (u v : Nat) : RInt ((W.setCell ⟨b, 0, none⟩ (.float .f64 u)).setCell ⟨b, 1, none⟩ (.float .f64 v)) p z :=
  (h.setOther hr objT_iv (h.ne_iv hr) _).setOther (hr.set (i := 0) (.float .f64 u)) objT_iv (h.ne_iv hr) _

theorem RInt.stI3 {W : World} {x y z p a b c d e f : Nat} {n : Int} (h : RInt W p n) (hx : BlkT W x 34 #[.float .f64 a, .float .f64 b]) (hy : BlkT W y 34 #[.float .f64 c, .float .f64 d]) (hz : BlkT W z 34 #[.float .f64 e, .float .f64 f])
    (hxy : x ≠ y) (hxz : x ≠ z) (hyz : y ≠ z) (u0 u1 u2 u3 u4 u5 : Nat) :
    RInt ((((((W.setCell ⟨x, 0, none⟩ (.float .f64 u0)).setCell ⟨x, 1, none⟩ (.float .f64 u1)).setCell ⟨y, 0, none⟩ (.float .f64 u2)).setCell ⟨y, 1, none⟩ (.float .f64 u3)).setCell ⟨z, 0, none⟩ (.float .f64 u4)).setCell ⟨z, 1, none⟩ (.float .f64 u5)) p n :=
  ((h.stI hx u0 u1).stI ((hy.setOther hxy.symm _).setOther hxy.symm _) u2 u3).stI ((((hz.setOther hxz.symm _).setOther hxz.symm _).setOther hyz.symm _).setOther hyz.symm _) u4 u5

theorem Bks.fill3 {w0 W : World} {l : List (Nat × Nat × Array Value)} {x y z t u v : Nat} {a b c d e f : Value} (h : Bks w0 W l) (hx : BlkT W x t #[a, b]) (hy : BlkT W y u #[c, d]) (hz : BlkT W z v #[e, f]) (lx : w0.heap.size ≤ x) (ly : w0.heap.size ≤ y) (lz : w0.heap.size ≤ z)
    (hxy : x ≠ y) (hxz : x ≠ z) (hyz : y ≠ z) (nx : ∀ q ∈ l, q.1 ≠ x) (ny : ∀ q ∈ l, q.1 ≠ y) (nz : ∀ q ∈ l, q.1 ≠ z) (v0 v1 v2 v3 v4 v5 : Value) :
    Bks w0 ((((((W.setCell ⟨x, 0, none⟩ v0).setCell ⟨x, 1, none⟩ v1).setCell ⟨y, 0, none⟩ v2).setCell ⟨y, 1, none⟩ v3).setCell ⟨z, 0, none⟩ v4).setCell ⟨z, 1, none⟩ v5) ((x, t, #[v0, v1]) :: (y, u, #[v2, v3]) :: (z, v, #[v4, v5]) :: l) := by
  have h1 := (h.cons hz).fill2 hx hy lx ly hxy (fun q m => (List.mem_cons.1 m).elim (fun e => by rw [e]; exact hxz.symm) (nx q)) (fun q m => (List.mem_cons.1 m).elim (fun e => by rw [e]; exact hyz.symm) (ny q)) v0 v1 v2 v3
  have h2 : Bks w0 _ ((z, v, #[e, f]) :: (x, t, #[v0, v1]) :: (y, u, #[v2, v3]) :: l) := h1.sub fun t m => by
    simp only [List.mem_cons] at m ⊢
    rcases m with m | m | m | m <;> simp [m]
  have h3 := h2.set2 lz (fun q m => by
    simp only [List.mem_cons] at m
    rcases m with rfl | rfl | m
    · exact hxz
    · exact hyz
    · exact nz q m) v4 v5
  exact h3.sub fun t m => by
    simp only [List.mem_cons] at m ⊢
    rcases m with m | m | m | m <;> simp [m]

theorem hold_args {o : Option (Int × Int)} (ho : Iok o) {zn en zd ed : Int} (h : HoldQ o zn en zd ed) :
    W64 (ivL o) ∧ W64 (ivH o) ∧ nanB (ivL o) = false ∧ nanB (ivH o) = false ∧ ivL o ≠ kInf ∧ ivH o ≠ kSign + kInf ∧
    (finB (ivL o) = true → (plZ (valZ (ivL o) * zd) (pE (ivL o) + ed) (-zn) en).sign ≤ 0) ∧ (finB (ivH o) = true → 0 ≤ (plZ (valZ (ivH o) * zd) (pE (ivH o) + ed) (-zn) en).sign) := by
  obtain ⟨l, u, rfl, h1, h2⟩ := h
  obtain ⟨a1, a2, a3, a4, a5⟩ := ho l u rfl
  show W64 (kb l) ∧ W64 (kb u) ∧ nanB (kb l) = false ∧ nanB (kb u) = false ∧ kb l ≠ kInf ∧ kb u ≠ kSign + kInf ∧
    (finB (kb l) = true → (plZ (valZ (kb l) * zd) (pE (kb l) + ed) (-zn) en).sign ≤ 0) ∧ (finB (kb u) = true → 0 ≤ (plZ (valZ (kb u) * zd) (pE (kb u) + ed) (-zn) en).sign)
  obtain ⟨b1, b2, b3⟩ := kb_lt (k := l) a1 (by omega)
  obtain ⟨c1, c2, c3⟩ := kb_lt (k := u) (by omega) a3
  have i1 : ky kInf = kInf := by decide
  have i2 : ky (kSign + kInf) = -(kInf : Int) := by decide
  refine ⟨b1, c1, num_iff.2 b2, num_iff.2 c2, fun e => ?_, fun e => ?_, fun hf => h1 ?_, fun hf => h2 ?_⟩
  · rw [e, i1] at b3; omega
  · rw [e, i2] at c3; omega
  · have := (fin_ky b1 b2).1 hf; omega
  · have := (fin_ky c1 c2).1 hf; omega

theorem over_of {o : Option (Int × Int)} (ho : Iok o) {zn en zd ed : Int} (h : HoldQ o zn en zd ed) (bn : bl zn.natAbs ≤ 60000) (bd : bl zd.natAbs ≤ 60000) (n1 : -60000 ≤ en) (n2 : en ≤ 60000) (d1 : -60000 ≤ ed) (d2 : ed ≤ 60000) (b c : Nat) (w : World) (hn : RInt w b zn) (hd : RInt w c zd) :
    Calls Tryz.prog 35 #[.agg #[.float .f64 (ivL o), .float .f64 (ivH o)], ExV b en, ExV c ed] w (Gives (.bool true) w) := by
  obtain ⟨a1, a2, a3, a4, a5, a6, a7, a8⟩ := hold_args ho h
  exact over_true _ _ b c zn en zd ed w a1 a2 a3 a4 a5 a6 hn hd bn bd n1 n2 d1 d2 a7 a8
theorem holds_of {o : Option (Int × Int)} (ho : Iok o) {zn en : Int} (h : Enc o zn en) (bn : bl zn.natAbs ≤ 60000) (n1 : -60000 ≤ en) (n2 : en ≤ 60000) (b : Nat) (w : World) (hn : RInt w b zn) :
    Calls Tryz.prog 17 #[.agg #[.float .f64 (ivL o), .float .f64 (ivH o)], ExV b en] w (Gives (.bool true) w) := by
  obtain ⟨a1, a2, a3, a4, a5, a6, a7, a8⟩ := hold_args ho (h.hold ho)
  exact holds_true _ _ b zn en w a1 a2 a3 a4 a5 a6 hn bn n1 n2 a7 a8
theorem round_of {o : Option (Int × Int)} (ho : Iok o) {r : Nat} (wr : W64 r) (h : finB r = true → hasK o r = true) (w : World) :
    Calls Tryz.prog 18 #[.agg #[.float .f64 (ivL o), .float .f64 (ivH o)], .float .f64 r] w (Gives (.bool true) w) :=
  rounded_true _ _ r w (ivL_lt ho) (ivH_lt ho) wr (by rw [ivK_back ho]; exact h)

/-- What +, -, *, / answer. -/
theorem plus_word {x y : Nat} (hx : W64 x) (hy : W64 y) (fx : finB x = true) (fy : finB y = true) : ∃ r, F6.add x y = some r ∧ W64 r ∧ ky r = ky (rndX (plZ (valZ x) (pE x) (valZ y) (pE y)) (plE (valZ x) (pE x) (valZ y) (pE y)) 0) := by
  obtain ⟨r, h1, h2, -, h4⟩ := fadd_ky hx hy fx fy
  exact ⟨r, h1, h2, h4⟩
theorem minus_word {x y : Nat} (hx : W64 x) (hy : W64 y) (fx : finB x = true) (fy : finB y = true) : ∃ r, F6.sub x y = some r ∧ W64 r ∧ ky r = ky (rndX (plZ (valZ x) (pE x) (-(valZ y)) (pE y)) (plE (valZ x) (pE x) (-(valZ y)) (pE y)) 0) := by
  obtain ⟨r, h1, h2, h4⟩ := plus_word hx (flip_lt hy) fx (flip_ok hy fy).2.1
  rw [(flip_own hy).1, (flip_own hy).2] at h4
  exact ⟨r, by rw [sub_flip hy fy]; exact h1, h2, h4⟩
theorem times_word {x y : Nat} (hx : W64 x) (hy : W64 y) (fx : finB x = true) (fy : finB y = true) : ∃ r, F6.mul x y = some r ∧ W64 r ∧ ky r = ky (rndX (valZ x * valZ y) (pE x + pE y) 0) := by
  obtain ⟨r, h1, h2, -, h4⟩ := fmul_ky hx hy fx fy
  exact ⟨r, h1, h2, h4⟩

theorem fdiv_zero {x y : Nat} (hx : W64 x) (hy : W64 y) (fx : finB x = true) (fy : finB y = true) (x0 : valZ x = 0) (y0 : valZ y ≠ 0) : ∃ r, F6.div x y = some r ∧ W64 r ∧ finB r = true ∧ ky r = 0 := by
  have mx : mantB x = 0 := valZ_zero.1 x0
  have my : mantB y ≠ 0 := fun h => y0 (valZ_zero.2 h)
  have hd : F6.div x y = some (F6.word (sgnB x ^^ sgnB y) 0) := by
    unfold Ieee.Format.div
    rw [read_fin hx fx, read_fin hy fy, F6_frac]
    unfold Ieee.Datum.quotient
    simp only [if_neg my]
    rw [mx, Nat.zero_shiftLeft, Nat.zero_div, Nat.zero_mod]
    rfl
  rw [hd]
  cases sgnB x ^^ sgnB y
  · exact ⟨_, rfl, by decide, by decide, by decide⟩
  · exact ⟨_, rfl, by decide, by decide, by decide⟩

theorem divK_neg (a : Option (Int × Int)) {b : Option (Int × Int)} (hb : Iok b) : divK (negK a) (negK b) = divK a b := by
  rcases a with _ | ⟨l, h⟩
  · rcases b with _ | ⟨m, k⟩ <;> rfl
  rcases b with _ | ⟨m, k⟩
  · rfl
  obtain ⟨b1, b2, b3, b4, b5⟩ := hb m k rfl
  show (if -k = 0 ∧ -m = 0 then none else if 0 ≤ -k then some (ovK (-h) (-l) (-k) (-m)) else if -m ≤ 0 then some (ovK (-(-l)) (-(-h)) (-(-m)) (-(-k))) else if -h = 0 ∧ -l = 0 then some (0, 0) else some (-(kInf : Int), (kInf : Int))) =
    (if m = 0 ∧ k = 0 then none else if 0 ≤ m then some (ovK l h m k) else if k ≤ 0 then some (ovK (-h) (-l) (-k) (-m)) else if l = 0 ∧ h = 0 then some (0, 0) else some (-(kInf : Int), (kInf : Int)))
  simp only [Int.neg_neg]
  by_cases c1 : m = 0 ∧ k = 0
  · rw [if_pos c1, if_pos (by omega)]
  rw [if_neg c1, if_neg (by omega)]
  by_cases c2 : 0 ≤ m
  · rw [if_pos c2]
    by_cases c3 : 0 ≤ -k
    · exfalso; omega
    · rw [if_neg c3, if_pos (by omega)]
  · rw [if_neg c2]
    by_cases c3 : k ≤ 0
    · rw [if_pos c3, if_pos (by omega)]
    · rw [if_neg c3, if_neg (by omega), if_neg (by omega)]
      by_cases c4 : l = 0 ∧ h = 0
      · rw [if_pos c4, if_pos (by omega)]
      · rw [if_neg c4, if_neg (by omega)]

theorem val_sign {x : Nat} (hx : W64 x) (fx : finB x = true) : (0 < ky x → 0 < valZ x) ∧ (ky x < 0 → valZ x < 0) ∧ (ky x = 0 → valZ x = 0) := by
  obtain ⟨z1, z2, z3⟩ := fI_zero_iff hx fx
  have := sc_pos (M := 1074) (z := valZ x) (e := pE x)
  refine ⟨fun h => this.1.1 (z2.2 h), fun h => this.2.1 (z3.2 h), fun h => z1.1 (by omega)⟩

theorem div_pos_case {a b : Option (Int × Int)} (ha : Iok a) (hb : Iok b) {x y : Nat} (hx : W64 x) (hy : W64 y) (fx : finB x = true) (fy : finB y = true) (h1 : inK (ptK x) a = true) (h2 : inK (ptK y) b = true) (h0 : 0 < ky y) :
    ∃ r, F6.div x y = some r ∧ W64 r ∧ (finB r = true → hasK (divK a b) r = true) := by
  obtain ⟨d1, d2⟩ := enc_div ha hb hx hy fx fy h1 h2 h0
  have y0 : valZ y ≠ 0 := by have := (val_sign hy fy).1 h0; omega
  by_cases hz : ky x = 0
  · obtain ⟨r, r1, r2, r3, r4⟩ := fdiv_zero hx hy fx fy ((val_sign hx fx).2.2 hz) y0
    obtain ⟨l, h, e, l1, l2⟩ := d2 hz
    rw [e]
    exact ⟨r, r1, r2, fun hf => has_iff.2 ⟨hf, by omega, by omega⟩⟩
  · have x0 : valZ x ≠ 0 := fun t => by have := (fI_zero_iff hx fx).1.2 t; have := fI_zero_iff hx fx; omega
    obtain ⟨f, -⟩ := fdiv_fin hx hy fx fy x0 y0
    exact ⟨_, f, (rndX_lt _ _ _).1, fun hf => (d1 hz).has hf rfl⟩

theorem div_flip {x y : Nat} (hx : W64 x) (hy : W64 y) (fx : finB x = true) (fy : finB y = true) : F6.div (flipB x) (flipB y) = F6.div x y := by
  obtain ⟨a1, a2, a3⟩ := flip_parts hx
  obtain ⟨b1, b2, b3⟩ := flip_parts hy
  unfold Ieee.Format.div
  rw [read_fin hx fx, read_fin hy fy, read_fin (flip_lt hx) (flip_ok hx fx).2.1, read_fin (flip_lt hy) (flip_ok hy fy).2.1, a1, a2, a3, b1, b2, b3]
  unfold Ieee.Datum.quotient
  cases sgnB x <;> cases sgnB y <;> rfl

/-- All that the law asks of a quotient. -/
theorem div_case {a b : Option (Int × Int)} (ha : Iok a) (hb : Iok b) {x y : Nat} (hx : W64 x) (hy : W64 y) (h1 : hasK a x = true) (h2 : hasK b y = true) (h0 : ky y ≠ 0) :
    (∃ r, F6.div x y = some r ∧ W64 r ∧ (finB r = true → hasK (divK a b) r = true)) ∧
    (0 < ky y → HoldQ (divK a b) (valZ x) (pE x) ((valZ y).natAbs : Int) (pE y)) ∧ (ky y < 0 → HoldQ (divK a b) (-(valZ x)) (pE x) ((valZ y).natAbs : Int) (pE y)) := by
  obtain ⟨fx, ix⟩ := pt_in h1
  obtain ⟨fy, iy⟩ := pt_in h2
  have vs := val_sign hy fy
  rcases Int.lt_or_gt_of_ne h0 with hn | hp
  · have ix2 := negK_in ix
    have iy2 := negK_in iy
    rw [pt_neg hx] at ix2
    rw [pt_neg hy] at iy2
    have hp2 : 0 < ky (flipB y) := by rw [flip_ky hy]; omega
    have d := div_pos_case (negK_ok ha) (negK_ok hb) (flip_lt hx) (flip_lt hy) (flip_ok hx fx).2.1 (flip_ok hy fy).2.1 ix2 iy2 hp2
    have q := hold_div (negK_ok ha) (negK_ok hb) (flip_lt hx) (flip_lt hy) (flip_ok hx fx).2.1 (flip_ok hy fy).2.1 ix2 iy2 hp2
    rw [divK_neg a hb, div_flip hx hy fx fy] at d
    rw [divK_neg a hb, (flip_own hx).1, (flip_own hx).2, (flip_own hy).1, (flip_own hy).2] at q
    refine ⟨d, fun h => by omega, fun _ => ?_⟩
    have := vs.2.1 hn
    rw [show ((valZ y).natAbs : Int) = -(valZ y) by omega]
    exact q
  · refine ⟨div_pos_case ha hb hx hy fx fy ix iy hp, fun _ => ?_, fun h => by omega⟩
    have := vs.1 hp
    rw [show ((valZ y).natAbs : Int) = valZ y by omega]
    exact hold_div ha hb hx hy fx fy ix iy hp

end Go.Proofs.YtjokekmbnffpfaaGreatDoor
