/- Walks: big.Int's small methods. -/
import Derived.Test.YtfcddnccmdjhfaaDoorObj
import Derived.Laws.AppendOwnNone
namespace Go.Proofs.YtfcddnccmdjhfaaDoor
open Go.RowKit

/-- The call hands its first pointer back, behind which z lies now; nothing else has changed. -/
def Puts (k : IntKind) (s b o : Nat) (z : Int) (w : World) (e : Ending) (w' : World) : Prop :=
  e = .returned (.pointer (some ⟨b, o, none⟩)) ∧ IntK k s w' b o z ∧ Mod b o w w'

theorem Puts.of {k : IntKind} {s b o N : Nat} {neg : Bool} {v : Value} {w : World} (h : Spot w b o ∧ Raw k s w v (ln s N) N) :
    Puts k s b o (if neg then -(N : Int) else N) w (.returned (.pointer (some ⟨b, o, none⟩))) ((w.setCell ⟨b, o, none⟩ (.bool (neg && decide (0 < N)))).setCell ⟨b, o + 1, none⟩ v) :=
  ⟨rfl, (IntK.stored h.1 h.2).1, (IntK.stored h.1 h.2).2⟩

theorem ln_pos_iff {s N : Nat} (hs : 0 < s) : 0 < ln s N ↔ 0 < N := by have := ln_eq_zero (N := N) hs; omega

set_option maxRecDepth 100000 in
set_option maxHeartbeats 400000 in
theorem made_any (b o N : Nat) (neg : Bool) (v : Value) (w : World) (hz : Spot w b o) (hv : Raw .u64 64 w v (ln 64 N) N) :
    Calls Tryd.prog 52 #[.pointer (some ⟨b, o, none⟩), .bool neg, v] w (Puts .u64 64 b o (if neg then -(N : Int) else N) w) := by
  have HF := Lib.hid (Puts.of (neg := neg) (And.intro hz hv))
  obtain ⟨g1, -, g3, g4, ⟨s0, g5⟩, a, n, m, g6⟩ := hz
  obtain ⟨ao, cap, rfl, -, -, hn, -⟩ := hv
  have hp := ln_pos_iff (s := 64) (N := N) (by decide)
  by_cases h0 : 0 < N
  · have h1 : 0 < ln 64 N := hp.2 h0
    rw [decide_eq_true h0] at HF
    clear hp
    cases neg
    · go_enter Tryd.func52, Tryd.ntmps52
      go_wp2
      go_ret
      exact HF.out
    · go_enter Tryd.func52, Tryd.ntmps52
      go_wp2
      go_ret
      exact HF.out
  · have h1 : ln 64 N = 0 := by omega
    rw [decide_eq_false h0] at HF
    rw [h1] at HF ⊢
    clear hp h1 hn
    cases neg
    · go_enter Tryd.func52, Tryd.ntmps52
      go_wp2
      go_ret
      exact HF.out
    · go_enter Tryd.func52, Tryd.ntmps52
      go_wp2
      go_ret
      exact HF.out

/-- append, its run known. -/
theorem wpList_append_run {P : Program} {w : World} {ops : Array Oper} {rest : List Oper} {o : Oper} {a : Act} {Q : Exit → Act → World → Prop} (hgd : o.guard = none) (s x : Operand) (t : TypeId)
    (ho : o.op = .call { callee := .builtin .append, args := #[s, x], argTypes := #[t, t] }) (v y v' : Value) (w' : World) (hs : a.eval s = v) (hx : a.eval x = y)
    (hrun : (Builtin.append_ #[t, t] o.type #[v, y]).run P w = .ok v' w') (h : wpList P ops Q rest (a.put o.dst v') w') : wpList P ops Q (o :: rest) a w := by
  refine wpList_plain hgd fun K hK => ?_
  unfold Oper.wp
  simp [execOp, ho, resolve, invoke, builtin, hs, hx, hrun, Result.andThen]
  exact hK _ _ h

theorem Raw.of_owns {k : IntKind} {s : Nat} {w : World} {base n m N : Nat} {v : Value} {xs : List Value} (h : w.ownsRow base (ety k) 1 v m xs) (hm : m = n) (hx : ∀ i, i < n → xs[i]? = some (.int k (dg s N i : Nat)))
    (hN : N < 2 ^ (s * n)) (hn : n ≤ 1099511627776) : Raw k s w v n N := by
  subst hm
  obtain ⟨h1, ⟨rfl, h0⟩ | ⟨g, cap, cur, rfl, hg, hh, hcap, hmax, hcs, ht⟩⟩ := h
  · subst h0; exact ⟨none, 0, rfl, Nat.le_refl _, hN, hn, fun h => absurd h (by omega)⟩
  · refine ⟨_, cap, rfl, hcap, hN, hn, fun _ => ⟨g, 0, rfl, (Array.getElem?_eq_some_iff.1 hh).1, ⟨cur, _, hh⟩, fun i hi => ?_⟩⟩
    have h2 := hx i hi
    rw [← ht, List.getElem?_take_of_lt (by omega)] at h2
    simp only [World.cell?, hh, Nat.zero_add]
    simpa using h2

set_option maxRecDepth 100000 in
set_option maxHeartbeats 400000 in
theorem clone_any (v : Value) (n N : Nat) (w : World) (h : Raw .u64 64 w v n N) (hl : n ≤ 1099511627776) :
    Calls Tryd.prog 53 #[v] w (Makes .u64 64 n N w) := by
  obtain ⟨i0, hi, hz0, hz1, hz2⟩ := info_parts Tryd.info22
  have HR := Lib.hid h
  obtain ⟨ao, cap, rfl, hcap, hN, hn, hc⟩ := h
  by_cases h0 : 0 < n
  · obtain ⟨b, off, rfl, hb, he, hc⟩ := hc h0
    have hcells : Hid (∀ (j : Nat) (u : Value), ((List.range n).map fun i => Value.int .u64 (dg 64 N i : Nat))[j]? = some u → w.cell? ((⟨b, off, none⟩ : Addr).add j) = some u) := by
      refine Lib.hid fun j u hu => ?_
      rw [List.getElem?_map] at hu
      by_cases hj : j < n
      · rw [List.getElem?_range hj] at hu
        simp only [Option.map_some, Option.some.injEq] at hu
        rw [← hu, ← hc j hj]
        unfold Addr.add
        by_cases hj0 : j = 0
        · subst hj0; simp
        · rw [if_neg hj0]
      · rw [List.getElem?_eq_none (by simp; omega)] at hu; simp at hu
    have hone : Hid (∀ u ∈ ((List.range n).map fun i => Value.int .u64 (dg 64 N i : Nat)), u.oneCell' = true) := by
      refine Lib.hid fun u hu => ?_
      obtain ⟨i, -, rfl⟩ := List.mem_map.1 hu
      rfl
    have HN := Lib.hid hN
    clear hc hN
    go_enter Tryd.func53, Tryd.ntmps53
    go_wp2_with (at_builtin; refine wpList_append_own _ rfl _ _ 58 rfl w.heap.size 22 i0 (.int .u64 0) 1 8 Tryd.underlying58 hi hz0 hz1 hz2 rfl (by decide) _ _ _ rfl (World.ownsRow_nil _ _ _ _) ⟨b, off, none⟩ n cap ((List.range n).map fun i => Value.int .u64 (dg 64 N i : Nat)) rfl (by simp) hcells.out hone.out (by unfold maxLen; omega) (by omega) (Nat.le_refl _) ?_)
    intro v' w1 hown hgrow hnil
    have hfin : Makes .u64 64 n N w (.returned v') w1 := by
      refine Makes.mk ((Below.refl _ _).grown hgrow (Nat.le_refl _) (fun k hk => by simp [Value.ownBlock] at hk)) ?_
      refine Raw.of_owns hown (by omega) (fun i hi => ?_) HN.out hn
      rw [List.getElem?_map, List.getElem?_range hi]; rfl
    have HF := Lib.hid hfin
    clear hfin hown hgrow hnil
    go_wp2
    go_ret
    exact HF.out
  · obtain rfl : n = 0 := by omega
    have hz : N = 0 := by simp at hN; omega
    have hfin : Makes .u64 64 0 N w (.returned (.slice none 0 0)) w :=
      Makes.mk (Below.refl _ _) ⟨none, 0, rfl, by omega, by subst hz; exact Nat.two_pow_pos _, by omega, fun h => absurd h (by omega)⟩
    have HF := Lib.hid hfin
    clear hfin hc hN hz
    have happ : ∀ W : World, (Builtin.append_ #[58, 58] 58 #[.slice none 0 0, .slice ao 0 cap]).run Tryd.prog W = .ok (.slice none 0 0) W := by
      intro W
      cases ao <;> simp [Builtin.append_, go_sem]
    have HA := Lib.hid (happ w)
    clear happ hi
    go_enter Tryd.func53, Tryd.ntmps53
    go_wp2_with (at_builtin; refine wpList_append_run rfl _ _ 58 rfl _ _ _ _ rfl rfl HA.out ?_)
    go_ret
    exact HF.out

theorem Elem.new (w : World) (c : Array Value) (t : Nat) : Elem (w.alloc (.cells c t)) w.heap.size t :=
  ⟨c, (0, 0), by show (w.heap.push _)[w.heap.size]? = _; simp⟩

set_option maxRecDepth 100000 in
set_option maxHeartbeats 400000 in
theorem word_any (N : Nat) (w : World) (h : N < 18446744073709551616) :
    Calls Tryd.prog 66 #[.int .u64 N] w (Makes .u64 64 (ln 64 N) N w) := by
  have hraw : Raw .u64 64 (w.alloc (.cells #[.int .u64 N] 22)) (.slice (some ⟨w.heap.size, 0, none⟩) 1 1) 1 N := by
    refine ⟨_, 1, rfl, by omega, h, by omega, fun _ => ⟨w.heap.size, 0, rfl, by simp, Elem.new _ _ _, fun i hi => ?_⟩⟩
    obtain rfl : i = 0 := by omega
    rw [show (⟨w.heap.size, 0 + 0, none⟩ : Addr) = ⟨w.heap.size, 0, none⟩ from rfl, World.cell?_alloc_new]
    simp [dg, Nat.mod_eq_of_lt h]
  have HR := Lib.hid hraw
  clear hraw h
  go_enter Tryd.func66, Tryd.ntmps66
  go_wp2_with fail
  refine (norm_any _ _ N _ HR.out).mono ?_
  rintro e w1 ⟨v, rfl, rfl, hr⟩
  have HF := Lib.hid hr
  clear hr
  go_wp2
  go_ret
  exact ⟨v, rfl, (Below.refl _ _).alloc (Nat.le_refl _) _, HF.out⟩

set_option maxRecDepth 100000 in
set_option maxHeartbeats 400000 in
theorem low_any (v : Value) (n N : Nat) (w : World) (h : Raw .u64 64 w v n N) :
    Calls Tryd.prog 63 #[v] w fun e w' => e = .returned (.int .u64 (dg 64 N 0 : Nat)) ∧ w = w' := by
  have HR := Lib.hid h
  clear h
  go_enter Tryd.func63, Tryd.ntmps63
  go_wp2_with fail
  refine (digit_at _ _ N 0 _ _ HR.out (by omega) rfl).mono ?_
  rintro e w1 ⟨rfl, rfl⟩
  go_wp2
  go_ret
  exact ⟨rfl, rfl⟩

set_option maxRecDepth 100000 in
set_option maxHeartbeats 400000 in
theorem length_any (v : Value) (N : Nat) (w : World) (h : Raw .u64 64 w v (ln 64 N) N) :
    Calls Tryd.prog 59 #[v] w fun e w' => e = .returned (.int .i64 (bl N : Nat)) ∧ w = w' := by
  obtain ⟨ao, cap, rfl, -, -, hn, hc⟩ := h
  by_cases h0 : N = 0
  · subst h0
    rw [bl_zero]
    rw [ln_zero] at *
    clear hc hn
    go_enter Tryd.func59, Tryd.ntmps59
    go_wp2
    go_ret
    exact ⟨rfl, rfl⟩
  · have hl := (ln_pos_iff (s := 64) (N := N) (by decide)).2 (by omega)
    have HB := Lib.hid (bl_top (s := 64) (by decide) h0)
    obtain ⟨b, off, rfl, hb, -, hc⟩ := hc hl
    have hcell := hc (ln 64 N - 1) (by omega)
    have hb1 : ((ln 64 N : Nat) : Int) = 0 → False := by omega
    have hle := bl_le_of_lt (k := 64) (dg_lt 64 N (ln 64 N - 1))
    clear hc h0
    generalize ln 64 N = n at *
    have hb1 : ((n : Int) == 0) = false := by simp; omega
    go_enter Tryd.func59, Tryd.ntmps59
    go_wp2_with fail
    refine (len64_any _ (dg64_lt _ _) _).mono ?_
    rintro e w1 ⟨rfl, rfl⟩
    go_wp2
    go_ret
    exact ⟨congrArg Ending.returned (congrArg (Value.int .i64) (by rw [HB.out]; omega)), rfl⟩

end Go.Proofs.YtfcddnccmdjhfaaDoor
