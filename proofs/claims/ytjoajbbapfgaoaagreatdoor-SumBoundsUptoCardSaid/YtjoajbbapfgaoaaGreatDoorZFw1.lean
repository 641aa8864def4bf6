/- Walks: what a way answers (the program's map of ways, the references' switch); the law's words 'same' and 'told'. -/
import Derived.Test.YtjoajbbapfgaoaaGreatDoorGX
import Derived.Test.YtjoajbbapfgaoaaGreatDoorGW
import Derived.Test.YtjoajbbapfgaoaaGreatDoorGR
import Derived.Test.YtjoajbbapfgaoaaGreatDoorZFlc
namespace Go.Proofs.YtjoajbbapfgaoaaGreatDoor
open Go.RowKit

/-- What a way answers: the number's bits, the error's number. -/
def wayB (way : Int) (l : List Nat) : Nat :=
  if way = 1 then cO (leftO l) else if way = 2 then prB l.length l else if way = 3 then cO (kahF l).1 else if way = 4 then cO (oA .add (neuF l).1 (neuF l).2) else
  if way = 5 then (if 4096 < l.length then 0 else exB l) else 0
def wayE (way : Int) (l : List Nat) : Int := if way < 1 ∨ 5 < way then 50 else if way = 5 ∧ 4096 < l.length then 2 else 0

/-- The exact sum, of lists of any length. -/
def exL (l : List Nat) : Value := .tuple #[.float .f64 (wayB 5 l), .int .i64 (wayE 5 l)]

theorem exL_long {l : List Nat} (h : 4096 < l.length) : exL l = .tuple #[.float .f64 0, .int .i64 2] := by
  unfold exL wayB wayE
  simp [h]
theorem exL_ok {l : List Nat} (h : l.length ≤ 4096) : exL l = .tuple #[.float .f64 (exB l), .int .i64 0] := by
  have h' : ¬ 4096 < l.length := by omega
  unfold exL wayB wayE
  simp [h']

theorem exact_any (v : Value) (l : List Nat) (w : World) (hl : FSl w v l) (hT : Tab64 w) (hTs : 1 < w.heap.size) :
    Calls Tryz.prog 54 #[v] w (Gives (exL l) w) := by
  rcases Nat.lt_or_ge 4096 l.length with h | h
  · rw [exL_long h]; exact exact_long v l w hl h
  · rw [exL_ok h]; exact exact_ok v l w hl h hT hTs

/-- A plain way, wrapped. -/
def Plain (f : Nat) (v : Value) (l : List Nat) (r : Nat) : Prop := (f = 61 ∨ f = 63 ∨ f = 65 ∨ f = 67) ∧ ∀ W, FSl W v l → Calls Tryz.prog f #[v] W (Gives (.float .f64 r) W)

set_option maxRecDepth 100000 in
set_option maxHeartbeats 1000000 in
theorem wayC_any (b f : Nat) (v : Value) (l : List Nat) (r : Nat) (w : World) (hb : WayBox w b f) (hl : FSl w v l) (hf : Plain f v l r) :
    Calls Tryz.prog 193 #[v, .pointer (some ⟨b, 0, none⟩)] w (Gives (.tuple #[.float .f64 r, .int .i64 0]) w) := by
  obtain ⟨hff, hf⟩ := hf
  have HF := Lib.hid (hf w hl)
  have hc := hb.cell 0
  have hc0 : w.cell? ⟨b, 0, none⟩ = some (.func (.func f) #[] #[]) := hc
  clear hc hl hf
  rcases hff with rfl | rfl | rfl | rfl
  all_goals
   go_enter Tryz.func193, Tryz.ntmps193
   go_wp2_with fail
   refine HF.out.mono ?_
   rintro e1 w1 ⟨rfl, hb1⟩
   have HB := Lib.hid hb1
   clear hb1
   go_wp2
   go_ret2
   exact ⟨rfl, HB.out⟩

/-- What is found in the map. -/
theorem way_look {R : Value → Option (DataW Unit × List MemPlace)} (hR : WayR R) {w : World} {m b1 b2 b3 b4 : Nat} (hm : w.ownsMap Tryz.prog 84 R m 5 (wayD b1 b2 b3 b4)) (way : Int) (hw : (Lit.int .i64 way).wf = true) :
    ∃ v, (Instr.lookup 149 (.map (some m)) (.int .i64 way) true).run Tryz.prog w = .ok (.tuple #[v, .bool (decide (1 ≤ way ∧ way ≤ 5))]) w ∧
      (way = 1 → v = wayV b1) ∧ (way = 2 → v = wayV b2) ∧ (way = 3 → v = wayV b3) ∧ (way = 4 → v = wayV b4) ∧ (way = 5 → v = .func (.func 54) #[] #[]) := by
  obtain ⟨r1, r2, r3, r4, r5⟩ := hR
  obtain ⟨v, ps, hrun, hv⟩ := hm.look_ok way_keyed Tryz.underlying149 (way_zero w) r3 (way_key way hw)
  have hk : ∀ n : Int, WideAt.IsKeyLit (.int .i64 n) := fun n => trivial
  have ne : ∀ {i j : Int}, i ≠ j → (Lit.int .i64 i) ≠ .int .i64 j := fun h e => h (by injection e)
  have m0 : Maps.IsMap (DataW.map [] : DataW Unit) := Maps.isMap_empty
  have hhas : Maps.has (wayD b1 b2 b3 b4) (.int .i64 way) = decide (1 ≤ way ∧ way ≤ 5) := by
    unfold wayD
    by_cases h5 : way = 5
    · subst h5; exact Maps.has_put_same ((((m0.put _ _).put _ _).put _ _).put _ _) (hk 5) _
    · rw [Maps.has_put_other (ne h5)]
      by_cases h4 : way = 4
      · subst h4; exact Maps.has_put_same (((m0.put _ _).put _ _).put _ _) (hk 4) _
      · rw [Maps.has_put_other (ne h4)]
        by_cases h3 : way = 3
        · subst h3; exact Maps.has_put_same ((m0.put _ _).put _ _) (hk 3) _
        · rw [Maps.has_put_other (ne h3)]
          by_cases h2 : way = 2
          · subst h2; exact Maps.has_put_same (m0.put _ _) (hk 2) _
          · rw [Maps.has_put_other (ne h2)]
            by_cases h1 : way = 1
            · subst h1; exact Maps.has_put_same m0 (hk 1) _
            · rw [Maps.has_put_other (ne h1), decide_eq_false (by omega)]; rfl
  rw [hhas] at hrun
  refine ⟨v, hrun, ?_, ?_, ?_, ?_, ?_⟩
  · rintro rfl
    rw [show (wayD b1 b2 b3 b4).atKey (.int .i64 1) (.lit (.int .i64 (-2))) = .lit (.int .i64 (b1 : Int)) by
      unfold wayD
      rw [Maps.atKey_put_other (ne (by decide)), Maps.atKey_put_other (ne (by decide)), Maps.atKey_put_other (ne (by decide)), Maps.atKey_put_other (ne (by decide)), Maps.atKey_put_same m0 (hk 1)]] at hv
    exact r4 v b1 ps hv
  · rintro rfl
    rw [show (wayD b1 b2 b3 b4).atKey (.int .i64 2) (.lit (.int .i64 (-2))) = .lit (.int .i64 (b2 : Int)) by
      unfold wayD
      rw [Maps.atKey_put_other (ne (by decide)), Maps.atKey_put_other (ne (by decide)), Maps.atKey_put_other (ne (by decide)), Maps.atKey_put_same (m0.put _ _) (hk 2)]] at hv
    exact r4 v b2 ps hv
  · rintro rfl
    rw [show (wayD b1 b2 b3 b4).atKey (.int .i64 3) (.lit (.int .i64 (-2))) = .lit (.int .i64 (b3 : Int)) by
      unfold wayD
      rw [Maps.atKey_put_other (ne (by decide)), Maps.atKey_put_other (ne (by decide)), Maps.atKey_put_same ((m0.put _ _).put _ _) (hk 3)]] at hv
    exact r4 v b3 ps hv
  · rintro rfl
    rw [show (wayD b1 b2 b3 b4).atKey (.int .i64 4) (.lit (.int .i64 (-2))) = .lit (.int .i64 (b4 : Int)) by
      unfold wayD
      rw [Maps.atKey_put_other (ne (by decide)), Maps.atKey_put_same (((m0.put _ _).put _ _).put _ _) (hk 4)]] at hv
    exact r4 v b4 ps hv
  · rintro rfl
    rw [show (wayD b1 b2 b3 b4).atKey (.int .i64 5) (.lit (.int .i64 (-2))) = .lit (.int .i64 (-1)) by
      unfold wayD
      rw [Maps.atKey_put_same ((((m0.put _ _).put _ _).put _ _).put _ _) (hk 5)]] at hv
    exact r5 v ps hv

/-- What a looked-up way answers when it is called. -/
def WayF (fv : Value) (W0 : World) (v : Value) (l : List Nat) (way : Int) : Prop :=
  (∃ b f r, fv = wayV b ∧ WayBox W0 b f ∧ Plain f v l r ∧ wayB way l = r ∧ wayE way l = 0) ∨ (fv = .func (.func 54) #[] #[] ∧ way = 5)

theorem wayF_of {fv v : Value} {W0 : World} {l : List Nat} {way : Int} {b1 b2 b3 b4 : Nat} (h1 : WayBox W0 b1 61) (h2 : WayBox W0 b2 63) (h3 : WayBox W0 b3 65) (h4 : WayBox W0 b4 67)
    (hv : (way = 1 → fv = wayV b1) ∧ (way = 2 → fv = wayV b2) ∧ (way = 3 → fv = wayV b3) ∧ (way = 4 → fv = wayV b4) ∧ (way = 5 → fv = .func (.func 54) #[] #[])) (hw : 1 ≤ way ∧ way ≤ 5) : WayF fv W0 v l way := by
  obtain ⟨v1, v2, v3, v4, v5⟩ := hv
  rcases (show way = 1 ∨ way = 2 ∨ way = 3 ∨ way = 4 ∨ way = 5 by omega) with rfl | rfl | rfl | rfl | rfl
  · exact .inl ⟨b1, _, _, v1 rfl, h1, ⟨.inl rfl, fun W h => sumLeft_any v l W h⟩, rfl, by unfold wayE; rw [if_neg (by decide), if_neg (by omega)]⟩
  · exact .inl ⟨b2, _, _, v2 rfl, h2, ⟨.inr (.inl rfl), fun W h => pairs_any l.length v l W (Nat.le_refl _) h⟩, rfl, by unfold wayE; rw [if_neg (by decide), if_neg (by omega)]⟩
  · exact .inl ⟨b3, _, _, v3 rfl, h3, ⟨.inr (.inr (.inl rfl)), fun W h => kahan_any v l W h⟩, rfl, by unfold wayE; rw [if_neg (by decide), if_neg (by omega)]⟩
  · exact .inl ⟨b4, _, _, v4 rfl, h4, ⟨.inr (.inr (.inr rfl)), fun W h => neumaier_any v l W h⟩, rfl, by unfold wayE; rw [if_neg (by decide), if_neg (by omega)]⟩
  · exact .inr ⟨v5 rfl, rfl⟩

theorem WayF.below {fv v : Value} {W0 W : World} {l : List Nat} {way : Int} (h : WayF fv W0 v l way) (hb : Below W0.heap.size W0 W) : WayF fv W v l way := by
  rcases h with ⟨b, f, r, h1, h2, h3⟩ | h
  · exact .inl ⟨b, f, r, h1, BlkT.below h2 hb, h3⟩
  · exact .inr h

/-! The law's words. -/
end Go.Proofs.YtjoajbbapfgaoaaGreatDoor
