/- Walks: the map of the ways to sum. Printed by wip/gen/ways.py. -/
import Derived.Maps.OwnSet
import Derived.Test.YtjoajbbapfgaoaaGreatDoorGW
namespace Go.Proofs.YtjoajbbapfgaoaaGreatDoor
open Go.RowKit

/-- An insertion of a map's literal. -/
theorem wpList_insert_own {H : Type} {P : Program} (w : World) {ops : Array Oper} {rest : List Oper} {o : Oper} {a : Act} {Q : Exit → Act → World → Prop}
    (hg : o.guard = none) (m x v : Operand) (t : TypeId) (hop : o.op = Op.insert t m x v)
    (k e : TypeId) (K : Maps.Keyed P k) (ht : P.underlying t = some (.map k e)) (R : Value → Option (DataW H × List MemPlace)) (b n : Nat) (D : DataW H)
    (hm : a.eval m = .map (some b)) (hown : w.ownsMap P k R b n D) (hn : n < maxLen) (key val : Value) (kl : Lit) (hx : a.eval x = key) (hv : a.eval v = val) (hkey : keyOf P k key = some kl)
    (d : DataW H) (ps : List MemPlace) (hval : R val = some (d, ps))
    (hK : ∀ w', w'.ownsMap P k R b (n + 1) (D.put kl d) → w.grownBy w' (some b) → wpList P ops Q rest (a.put o.dst undef) w') :
    wpList P ops Q (o :: rest) a w := by
  refine wpList_plain hg fun K' hK' => ?_
  obtain ⟨w', hrun, r1, r2⟩ := hown.update K ht hn hkey hval
  unfold Oper.wp
  simp [execOp, hop, hm, hx, hv, hrun, Result.andThen]
  exact hK' _ _ (hK w' r1 r2)

/-- A way that answers OK with what a plain one says. -/
def wayV (b : Nat) : Value := .func (.func 193) #[] #[.pointer (some ⟨b, 0, none⟩)]

/-- How the ways read. -/
def WayR (R : Value → Option (DataW Unit × List MemPlace)) : Prop :=
  (∀ b : Nat, R (wayV b) = some (.lit (.int .i64 (b : Int)), [])) ∧ R (.func (.func 54) #[] #[]) = some (.lit (.int .i64 (-1)), []) ∧ R .nilFunc = some (.lit (.int .i64 (-2)), []) ∧
  (∀ (v : Value) (b : Nat) ps, R v = some (.lit (.int .i64 (b : Int)), ps) → v = wayV b) ∧ (∀ (v : Value) ps, R v = some (.lit (.int .i64 (-1)), ps) → v = .func (.func 54) #[] #[])

theorem wayR_ex : ∃ R, WayR R := by
  classical
  refine ⟨fun v => if h : ∃ b : Nat, v = wayV b then some (.lit (.int .i64 (h.choose : Int)), []) else if v = .func (.func 54) #[] #[] then some (.lit (.int .i64 (-1)), []) else if v = .nilFunc then some (.lit (.int .i64 (-2)), []) else none, ?_, ?_, ?_, ?_, ?_⟩
  · intro b
    have h : ∃ c : Nat, wayV b = wayV c := ⟨b, rfl⟩
    have hc := h.choose_spec
    generalize hd : h.choose = c at hc
    simp only [wayV, Value.func.injEq, true_and] at hc
    have hbc : b = c := by simpa using hc
    dsimp only
    rw [dif_pos h, hd, hbc]
  · dsimp only
    rw [dif_neg (by rintro ⟨b, hb⟩; simp [wayV] at hb), if_pos rfl]
  · dsimp only
    rw [dif_neg (by rintro ⟨b, hb⟩; simp [wayV] at hb), if_neg (by intro h; cases h), if_pos rfl]
  · intro v b ps hv
    dsimp only at hv
    by_cases h : ∃ c : Nat, v = wayV c
    · rw [dif_pos h] at hv
      have hc := h.choose_spec
      generalize h.choose = c at hv hc
      injection hv with h1; injection h1 with h1 _; injection h1 with h1; injection h1 with _ h1
      rw [hc]; congr 1; omega
    · rw [dif_neg h] at hv
      split at hv
      · injection hv with h1; injection h1 with h1 _; injection h1 with h1; injection h1 with _ h1
        omega
      · split at hv
        · injection hv with h1; injection h1 with h1 _; injection h1 with h1; injection h1 with _ h1
          omega
        · cases hv
  · intro v ps hv
    dsimp only at hv
    by_cases h : ∃ c : Nat, v = wayV c
    · rw [dif_pos h] at hv
      generalize h.choose = c at hv
      injection hv with h1; injection h1 with h1 _; injection h1 with h1; injection h1 with _ h1
      omega
    · rw [dif_neg h] at hv
      split at hv
      · assumption
      · split at hv
        · injection hv with h1; injection h1 with h1 _; injection h1 with h1; injection h1 with _ h1
          omega
        · cases hv

theorem way_keyed : Maps.Keyed Tryz.prog 84 := Maps.int_keyed Tryz.underlying84

theorem way_zero (w : World) : (zeroValue 77).run Tryz.prog w = .ok .nilFunc w := by kernel_rfl

theorem way_key (n : Int) (h : (Lit.int .i64 n).wf = true) : keyOf Tryz.prog 84 (.int .i64 n) = some (.int .i64 n) := Maps.keyOf_int_mk Tryz.underlying84 h

set_option maxRecDepth 100000 in
set_option maxHeartbeats 1000000 in
theorem wayP_any (f : Nat) (w : World) :
    Calls Tryz.prog 192 #[.func (.func f) #[] #[]] w fun e w' => e = .returned (wayV w.heap.size) ∧ w' = w.alloc (.cells #[.func (.func f) #[] #[]] 85) := by
  unfold wayV
  go_enter Tryz.func192, Tryz.ntmps192
  go_wp2
  go_ret
  exact ⟨rfl, rfl⟩

/-- The map of ways, and the boxes of the plain ones. -/
def wayD (b1 b2 b3 b4 : Nat) : DataW Unit :=
  (((((DataW.map []).put (.int .i64 1) (.lit (.int .i64 (b1 : Int)))).put (.int .i64 2) (.lit (.int .i64 (b2 : Int)))).put (.int .i64 3) (.lit (.int .i64 (b3 : Int)))).put (.int .i64 4) (.lit (.int .i64 (b4 : Int)))).put (.int .i64 5) (.lit (.int .i64 (-1)))

def WayBox (W : World) (b f : Nat) : Prop := BlkT W b 85 #[.func (.func f) #[] #[]]

def WaysOf (w : World) (e : Ending) (w' : World) : Prop :=
  ∃ (R : Value → Option (DataW Unit × List MemPlace)) (m b1 b2 b3 b4 : Nat), e = .returned (.map (some m)) ∧ WayR R ∧ w'.ownsMap Tryz.prog 84 R m 5 (wayD b1 b2 b3 b4) ∧
    WayBox w' b1 61 ∧ WayBox w' b2 63 ∧ WayBox w' b3 65 ∧ WayBox w' b4 67 ∧ Below w.heap.size w w'

theorem WayBox.grown {W W' : World} {b f m : Nat} (h : WayBox W b f) (hg : W.grownBy W' (some m)) (hne : b ≠ m) : WayBox W' b f := h.of_block (hg.block b h.lt (fun e => hne (by cases e; rfl)))

set_option maxRecDepth 100000 in
set_option maxHeartbeats 4000000 in
theorem ways_any (w : World) : Calls Tryz.prog 133 #[] w (WaysOf w) := by
  obtain ⟨R, HR0⟩ := wayR_ex
  have HR := Lib.hid HR0
  clear HR0
  have HW1 := Lib.hid fun f w => wayP_any f w
  have hmm := @run_makeMap Tryz.prog
  have HM0 : Hid ((w.alloc (.map #[] 0)).ownsMap Tryz.prog 84 R w.heap.size 0 (.map [])) := Lib.hid (World.ownsMap_made w _ _ _)
  have HB0 : Hid (Below w.heap.size w (w.alloc (.map #[] 0))) := Lib.hid (below1 _ _)
  go_enter Tryz.func133, Tryz.ntmps133
  go_wp2_with fail
  generalize w.alloc (.map #[] 0) = V0 at HM0 HB0 ⊢
  obtain ⟨m, hm⟩ : ∃ m, w.heap.size = m := ⟨_, rfl⟩
  have HME := Lib.hid hm
  rw [hm] at HM0 ⊢
  clear hm
  refine (HW1.out 61 _).mono ?_
  rintro e1 X1 ⟨rfl, rfl⟩
  have HX1 : Hid (WayBox (V0.alloc (.cells #[.func (.func 61) #[] #[]] 85)) V0.heap.size 61 ∧ m < V0.heap.size) := Lib.hid ⟨BlkT.new V0 _ _, HM0.out.lt⟩
  have HN1 : Hid ((V0.alloc (.cells #[.func (.func 61) #[] #[]] 85)).ownsMap Tryz.prog 84 R m 0 (DataW.map [])) := Lib.hid (HM0.out.kept (World.grownBy_alloc V0 (.cells #[.func (.func 61) #[] #[]] 85) none) (by intro h; cases h))
  have HC1 : Hid (Below w.heap.size w (V0.alloc (.cells #[.func (.func 61) #[] #[]] 85))) := Lib.hid (HB0.out.alloc HB0.out.size _)
  unfold wayV
  generalize V0.alloc (.cells #[.func (.func 61) #[] #[]] 85) = U1 at *
  generalize V0.heap.size = b1 at *
  clear HM0 HB0
  go_wp2_with ((refine wpList_insert_own (H := Unit) _ rfl _ _ _ 149 rfl 84 77 way_keyed Tryz.underlying149 R m 0 (DataW.map []) rfl HN1.out (by decide) _ _ (.int .i64 1) rfl rfl (way_key 1 (by decide)) (.lit (.int .i64 (b1 : Int))) [] (HR.out.1 b1) ?_; intro V1 HMr HGr; have HM1 := Lib.hid HMr; have HG1 := Lib.hid HGr; clear HMr HGr HN1))
  have HB1 : Hid (Below w.heap.size w V1) := Lib.hid (HC1.out.grown HG1.out HC1.out.size (fun j e => by cases e; exact Nat.le_of_eq HME.out))
  replace HX1 : Hid (WayBox V1 b1 61 ∧ m < b1) := Lib.hid ⟨HX1.out.1.grown HG1.out (by have := HX1.out.2; omega), HX1.out.2⟩
  clear HC1 HG1
  refine (HW1.out 63 _).mono ?_
  rintro e2 X2 ⟨rfl, rfl⟩
  have HX2 : Hid (WayBox (V1.alloc (.cells #[.func (.func 63) #[] #[]] 85)) V1.heap.size 63 ∧ m < V1.heap.size) := Lib.hid ⟨BlkT.new V1 _ _, HM1.out.lt⟩
  have HN2 : Hid ((V1.alloc (.cells #[.func (.func 63) #[] #[]] 85)).ownsMap Tryz.prog 84 R m 1 (DataW.put (DataW.map []) (.int .i64 1) (.lit (.int .i64 (b1 : Int))))) := Lib.hid (HM1.out.kept (World.grownBy_alloc V1 (.cells #[.func (.func 63) #[] #[]] 85) none) (by intro h; cases h))
  have HC2 : Hid (Below w.heap.size w (V1.alloc (.cells #[.func (.func 63) #[] #[]] 85))) := Lib.hid (HB1.out.alloc HB1.out.size _)
  replace HX1 : Hid (WayBox (V1.alloc (.cells #[.func (.func 63) #[] #[]] 85)) b1 61 ∧ m < b1) := Lib.hid ⟨BlkT.alloc HX1.out.1 _, HX1.out.2⟩
  unfold wayV
  generalize V1.alloc (.cells #[.func (.func 63) #[] #[]] 85) = U2 at *
  generalize V1.heap.size = b2 at *
  clear HM1 HB1
  go_wp2_with ((refine wpList_insert_own (H := Unit) _ rfl _ _ _ 149 rfl 84 77 way_keyed Tryz.underlying149 R m 1 (DataW.put (DataW.map []) (.int .i64 1) (.lit (.int .i64 (b1 : Int)))) rfl HN2.out (by decide) _ _ (.int .i64 2) rfl rfl (way_key 2 (by decide)) (.lit (.int .i64 (b2 : Int))) [] (HR.out.1 b2) ?_; intro V2 HMr HGr; have HM2 := Lib.hid HMr; have HG2 := Lib.hid HGr; clear HMr HGr HN2))
  have HB2 : Hid (Below w.heap.size w V2) := Lib.hid (HC2.out.grown HG2.out HC2.out.size (fun j e => by cases e; exact Nat.le_of_eq HME.out))
  replace HX1 : Hid (WayBox V2 b1 61 ∧ m < b1) := Lib.hid ⟨HX1.out.1.grown HG2.out (by have := HX1.out.2; omega), HX1.out.2⟩
  replace HX2 : Hid (WayBox V2 b2 63 ∧ m < b2) := Lib.hid ⟨HX2.out.1.grown HG2.out (by have := HX2.out.2; omega), HX2.out.2⟩
  clear HC2 HG2
  refine (HW1.out 65 _).mono ?_
  rintro e3 X3 ⟨rfl, rfl⟩
  have HX3 : Hid (WayBox (V2.alloc (.cells #[.func (.func 65) #[] #[]] 85)) V2.heap.size 65 ∧ m < V2.heap.size) := Lib.hid ⟨BlkT.new V2 _ _, HM2.out.lt⟩
  have HN3 : Hid ((V2.alloc (.cells #[.func (.func 65) #[] #[]] 85)).ownsMap Tryz.prog 84 R m 2 (DataW.put (DataW.put (DataW.map []) (.int .i64 1) (.lit (.int .i64 (b1 : Int)))) (.int .i64 2) (.lit (.int .i64 (b2 : Int))))) := Lib.hid (HM2.out.kept (World.grownBy_alloc V2 (.cells #[.func (.func 65) #[] #[]] 85) none) (by intro h; cases h))
  have HC3 : Hid (Below w.heap.size w (V2.alloc (.cells #[.func (.func 65) #[] #[]] 85))) := Lib.hid (HB2.out.alloc HB2.out.size _)
  replace HX1 : Hid (WayBox (V2.alloc (.cells #[.func (.func 65) #[] #[]] 85)) b1 61 ∧ m < b1) := Lib.hid ⟨BlkT.alloc HX1.out.1 _, HX1.out.2⟩
  replace HX2 : Hid (WayBox (V2.alloc (.cells #[.func (.func 65) #[] #[]] 85)) b2 63 ∧ m < b2) := Lib.hid ⟨BlkT.alloc HX2.out.1 _, HX2.out.2⟩
  unfold wayV
  generalize V2.alloc (.cells #[.func (.func 65) #[] #[]] 85) = U3 at *
  generalize V2.heap.size = b3 at *
  clear HM2 HB2
  go_wp2_with ((refine wpList_insert_own (H := Unit) _ rfl _ _ _ 149 rfl 84 77 way_keyed Tryz.underlying149 R m 2 (DataW.put (DataW.put (DataW.map []) (.int .i64 1) (.lit (.int .i64 (b1 : Int)))) (.int .i64 2) (.lit (.int .i64 (b2 : Int)))) rfl HN3.out (by decide) _ _ (.int .i64 3) rfl rfl (way_key 3 (by decide)) (.lit (.int .i64 (b3 : Int))) [] (HR.out.1 b3) ?_; intro V3 HMr HGr; have HM3 := Lib.hid HMr; have HG3 := Lib.hid HGr; clear HMr HGr HN3))
  have HB3 : Hid (Below w.heap.size w V3) := Lib.hid (HC3.out.grown HG3.out HC3.out.size (fun j e => by cases e; exact Nat.le_of_eq HME.out))
  replace HX1 : Hid (WayBox V3 b1 61 ∧ m < b1) := Lib.hid ⟨HX1.out.1.grown HG3.out (by have := HX1.out.2; omega), HX1.out.2⟩
  replace HX2 : Hid (WayBox V3 b2 63 ∧ m < b2) := Lib.hid ⟨HX2.out.1.grown HG3.out (by have := HX2.out.2; omega), HX2.out.2⟩
  replace HX3 : Hid (WayBox V3 b3 65 ∧ m < b3) := Lib.hid ⟨HX3.out.1.grown HG3.out (by have := HX3.out.2; omega), HX3.out.2⟩
  clear HC3 HG3
  refine (HW1.out 67 _).mono ?_
  rintro e4 X4 ⟨rfl, rfl⟩
  have HX4 : Hid (WayBox (V3.alloc (.cells #[.func (.func 67) #[] #[]] 85)) V3.heap.size 67 ∧ m < V3.heap.size) := Lib.hid ⟨BlkT.new V3 _ _, HM3.out.lt⟩
  have HN4 : Hid ((V3.alloc (.cells #[.func (.func 67) #[] #[]] 85)).ownsMap Tryz.prog 84 R m 3 (DataW.put (DataW.put (DataW.put (DataW.map []) (.int .i64 1) (.lit (.int .i64 (b1 : Int)))) (.int .i64 2) (.lit (.int .i64 (b2 : Int)))) (.int .i64 3) (.lit (.int .i64 (b3 : Int))))) := Lib.hid (HM3.out.kept (World.grownBy_alloc V3 (.cells #[.func (.func 67) #[] #[]] 85) none) (by intro h; cases h))
  have HC4 : Hid (Below w.heap.size w (V3.alloc (.cells #[.func (.func 67) #[] #[]] 85))) := Lib.hid (HB3.out.alloc HB3.out.size _)
  replace HX1 : Hid (WayBox (V3.alloc (.cells #[.func (.func 67) #[] #[]] 85)) b1 61 ∧ m < b1) := Lib.hid ⟨BlkT.alloc HX1.out.1 _, HX1.out.2⟩
  replace HX2 : Hid (WayBox (V3.alloc (.cells #[.func (.func 67) #[] #[]] 85)) b2 63 ∧ m < b2) := Lib.hid ⟨BlkT.alloc HX2.out.1 _, HX2.out.2⟩
  replace HX3 : Hid (WayBox (V3.alloc (.cells #[.func (.func 67) #[] #[]] 85)) b3 65 ∧ m < b3) := Lib.hid ⟨BlkT.alloc HX3.out.1 _, HX3.out.2⟩
  unfold wayV
  generalize V3.alloc (.cells #[.func (.func 67) #[] #[]] 85) = U4 at *
  generalize V3.heap.size = b4 at *
  clear HM3 HB3
  go_wp2_with (first | (refine wpList_insert_own (H := Unit) _ rfl _ _ _ 149 rfl 84 77 way_keyed Tryz.underlying149 R m 3 (DataW.put (DataW.put (DataW.put (DataW.map []) (.int .i64 1) (.lit (.int .i64 (b1 : Int)))) (.int .i64 2) (.lit (.int .i64 (b2 : Int)))) (.int .i64 3) (.lit (.int .i64 (b3 : Int)))) rfl HN4.out (by decide) _ _ (.int .i64 4) rfl rfl (way_key 4 (by decide)) (.lit (.int .i64 (b4 : Int))) [] (HR.out.1 b4) ?_; intro V4 HMr HGr; have HM4 := Lib.hid HMr; have HG4 := Lib.hid HGr; clear HMr HGr HN4) | (refine wpList_insert_own (H := Unit) _ rfl _ _ _ 149 rfl 84 77 way_keyed Tryz.underlying149 R m 4 (DataW.put (DataW.put (DataW.put (DataW.put (DataW.map []) (.int .i64 1) (.lit (.int .i64 (b1 : Int)))) (.int .i64 2) (.lit (.int .i64 (b2 : Int)))) (.int .i64 3) (.lit (.int .i64 (b3 : Int)))) (.int .i64 4) (.lit (.int .i64 (b4 : Int)))) rfl HM4.out (by decide) _ _ (.int .i64 5) rfl rfl (way_key 5 (by decide)) (.lit (.int .i64 (-1))) [] HR.out.2.1 ?_; intro V5 HMr HGr; have HM5 := Lib.hid HMr; have HG5 := Lib.hid HGr; clear HMr HGr))
  have HB4 : Hid (Below w.heap.size w V4) := Lib.hid (HC4.out.grown HG4.out HC4.out.size (fun j e => by cases e; exact Nat.le_of_eq HME.out))
  replace HX1 : Hid (WayBox V4 b1 61 ∧ m < b1) := Lib.hid ⟨HX1.out.1.grown HG4.out (by have := HX1.out.2; omega), HX1.out.2⟩
  replace HX2 : Hid (WayBox V4 b2 63 ∧ m < b2) := Lib.hid ⟨HX2.out.1.grown HG4.out (by have := HX2.out.2; omega), HX2.out.2⟩
  replace HX3 : Hid (WayBox V4 b3 65 ∧ m < b3) := Lib.hid ⟨HX3.out.1.grown HG4.out (by have := HX3.out.2; omega), HX3.out.2⟩
  replace HX4 : Hid (WayBox V4 b4 67 ∧ m < b4) := Lib.hid ⟨HX4.out.1.grown HG4.out (by have := HX4.out.2; omega), HX4.out.2⟩
  clear HC4 HG4
  have HB5 : Hid (Below w.heap.size w V5) := Lib.hid (HB4.out.grown HG5.out HB4.out.size (fun j e => by cases e; exact Nat.le_of_eq HME.out))
  replace HX1 : Hid (WayBox V5 b1 61 ∧ m < b1) := Lib.hid ⟨HX1.out.1.grown HG5.out (by have := HX1.out.2; omega), HX1.out.2⟩
  replace HX2 : Hid (WayBox V5 b2 63 ∧ m < b2) := Lib.hid ⟨HX2.out.1.grown HG5.out (by have := HX2.out.2; omega), HX2.out.2⟩
  replace HX3 : Hid (WayBox V5 b3 65 ∧ m < b3) := Lib.hid ⟨HX3.out.1.grown HG5.out (by have := HX3.out.2; omega), HX3.out.2⟩
  replace HX4 : Hid (WayBox V5 b4 67 ∧ m < b4) := Lib.hid ⟨HX4.out.1.grown HG5.out (by have := HX4.out.2; omega), HX4.out.2⟩
  go_ret
  exact ⟨R, m, b1, b2, b3, b4, rfl, HR.out, HM5.out, HX1.out.1, HX2.out.1, HX3.out.1, HX4.out.1, HB5.out⟩

end Go.Proofs.YtjoajbbapfgaoaaGreatDoor
