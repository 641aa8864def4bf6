/- Walks: a twin; whether two dyads are the same. -/
import Derived.Test.YtfcddnccmdjhfaaDoorDy9
namespace Go.Proofs.YtfcddnccmdjhfaaDoor
open Go.RowKit

/-- A dyad in new memory, of words as they are. -/
def TwinOf (neg : Bool) (n N : Nat) (e : Int) (w : World) (en : Ending) (w' : World) : Prop :=
  ∃ sl, en = .returned (DyV neg sl e) ∧ Raw .u32 32 w' sl n N ∧ OwnS w' w.heap.size 36 sl ∧ Below w.heap.size w w'

theorem wp_append_run {P : Program} {w : World} {o : Oper} {a : Act} {K : Act → World → Prop} {Q : Exit → Act → World → Prop} (s x : Operand) (t : TypeId)
    (ho : o.op = .call { callee := .builtin .append, args := #[s, x], argTypes := #[t, t] }) (v y v' : Value) (w' : World) (hs : a.eval s = v) (hx : a.eval x = y)
    (hrun : (Builtin.append_ #[t, t] o.type #[v, y]).run P w = .ok v' w') (h : K (a.put o.dst v') w') : o.wp P a w K Q := by
  unfold Oper.wp
  simp [execOp, ho, resolve, invoke, builtin, hs, hx, hrun, Result.andThen]
  exact h

/-- A boxed dyad and a result's block. -/
def Box1 (w0 W : World) (na : Bool) (sa : Value) (e : Int) : Prop :=
  BlkT W w0.heap.size 25 #[.bool na, sa, .int .i64 e] ∧ BlkT W (w0.heap.size + 1) 25 #[.bool false, .slice none 0 0, .int .i64 0] ∧ Below w0.heap.size w0 W

theorem Box1.later {w0 W V : World} {na : Bool} {sa : Value} {e : Int} (h : Box1 w0 W na sa e) (hb : Below W.heap.size W V) : Box1 w0 V na sa e :=
  ⟨h.1.below hb, h.2.1.below hb, h.2.2.trans (hb.mono h.2.2.size)⟩

theorem Box1.start (w : World) (na : Bool) (sa : Value) (e : Int) :
    Box1 w ((w.alloc (.cells #[.bool na, sa, .int .i64 e] 25)).alloc (.cells #[.bool false, .slice none 0 0, .int .i64 0] 25)) na sa e :=
  ⟨(BlkT.new w _ _).alloc _, BlkT.new1 w _ _ _, below2 _ _ _⟩

theorem Box1.cells {w0 W : World} {na : Bool} {sa : Value} {e : Int} (h : Box1 w0 W na sa e) :
    (W.cell? ⟨w0.heap.size, 0, none⟩ = some (.bool na) ∧ W.cell? ⟨w0.heap.size, 1, none⟩ = some sa) ∧ W.cell? ⟨w0.heap.size, 2, none⟩ = some (.int .i64 e) :=
  ⟨⟨h.1.cell 0, h.1.cell 1⟩, h.1.cell 2⟩

set_option maxRecDepth 100000 in
set_option maxHeartbeats 800000 in
theorem twin_any (neg : Bool) (e : Int) (sa : Value) (n N : Nat) (w : World) (h : Raw .u32 32 w sa n N) (hn : n ≤ 1073741824) :
    Calls Tryd.prog 9 #[DyV neg sa e] w (TwinOf neg n N e w) := by
  obtain ⟨i0, hi, hz0, hz1, hz2⟩ := info_parts Tryd.info36
  obtain ⟨aa, ca, rfl, hcap, hN, -, hc⟩ := h
  have HN := Lib.hid hN
  have HC := Lib.hid hc
  have HW0 := Lib.hid (Box1.start w neg (.slice aa n ca) e)
  clear hN hc
  unfold DyV
  go_enter Tryd.func9, Tryd.ntmps9
  go_wp2
  refine wp_region_pl (fun w' : World => (w'.cell? ⟨w.heap.size, 0, none⟩ = some (.bool neg) ∧ w'.cell? ⟨w.heap.size, 1, none⟩ = some (.slice aa n ca)) ∧ w'.cell? ⟨w.heap.size, 2, none⟩ = some (.int .i64 e)) 8 (.take 0 (.take 1 (.take 2 (.take 3 (.take 5 (.take 6 (.run 4 (.take 7 .nil)))))))) (by kernel_rfl) (by kernel_rfl) ?_
  have HW1 := Lib.hid (HW0.out.later (drew_below _))
  generalize ((w.alloc (.cells #[.bool neg, .slice aa n ca, .int .i64 e] 25)).alloc (.cells #[.bool false, .slice none 0 0, .int .i64 0] 25)).drew = W at HW1 ⊢
  clear HW0
  have hS : (fun w' : World => (w'.cell? ⟨w.heap.size, 0, none⟩ = some (.bool neg) ∧ w'.cell? ⟨w.heap.size, 1, none⟩ = some (.slice aa n ca)) ∧ w'.cell? ⟨w.heap.size, 2, none⟩ = some (.int .i64 e)) W := HW1.out.cells
  repeat (refine wpPl_take (v := ?_) rfl (fun _ _ _ h => h) rfl (fun w' hSw => ?_) hS ?_; rotate_left; focus (go_simp; with_reducible rfl); try simp only [Act.put, List.setIfInBounds_toArray, List.set_cons_zero, List.set_cons_succ])
  clear hS
  refine wpPl_go rfl rfl fun K' hK => ?_
  by_cases h0 : 0 < n
  · obtain ⟨b, off, rfl, hb, -, hcc⟩ := HC.out h0
    have hcells : ∀ (j : Nat) (u : Value), (digs N n)[j]? = some u → W.cell? ((⟨b, off, none⟩ : Addr).add j) = some u := by
      intro j u hu
      by_cases hj : j < n
      · rw [digs_get hj] at hu
        simp only [Option.some.injEq] at hu
        rw [← hu, ← hcc j hj]
        refine Eq.trans ?_ (HW1.out.2.2.cell (p := ⟨b, off + j, none⟩) hb)
        unfold Addr.add
        by_cases hj0 : j = 0
        · subst hj0; simp
        · rw [if_neg hj0]
      · rw [List.getElem?_eq_none (by rw [digs_length]; omega)] at hu; simp at hu
    have hone : ∀ u ∈ digs N n, u.oneCell' = true := by
      intro u hu
      obtain ⟨i, -, rfl⟩ := List.mem_map.1 hu
      rfl
    refine wp_append_own _ _ _ 23 rfl W.heap.size 36 i0 (.int .u32 0) 1 4 Tryd.underlying23 hi hz0 hz1 hz2 rfl (by decide) (.slice none 0 0) 0 [] rfl (World.ownsRow_nil _ _ _ _) ⟨b, off, none⟩ n ca (digs N n) rfl (by rw [digs_length]; simp) hcells hone (by unfold maxLen; omega) (by omega) (Nat.le_refl _) ?_
    intro v' W2 hown hgrow _
    rw [Nat.zero_add, List.nil_append] at hown
    have HB2 : Hid (Below W.heap.size W W2) := Lib.hid ((Below.refl _ _).grown hgrow (Nat.le_refl _) (fun k hk => by simp [Value.ownBlock] at hk))
    have HW2 := Lib.hid (HW1.out.later HB2.out)
    have HR : Hid (Raw .u32 32 W2 v' n N) := Lib.hid (Raw.of_owns hown rfl (fun i hi => digs_get hi) HN.out (by omega))
    have HF7 := Lib.hid (fun x0 x1 x2 => dy_store HW1.out.2.2 HR.out (OwnS.of_owns hown) HB2.out HW2.out.2.1 objT_dyad HW1.out.2.1.lt (by omega) x0 x1 x2)
    obtain ⟨ao7, cs7, hsl⟩ := owns_shape hown
    rw [hsl] at HF7 ⊢
    have hS : (fun w' : World => (w'.cell? ⟨w.heap.size, 0, none⟩ = some (.bool neg) ∧ w'.cell? ⟨w.heap.size, 1, none⟩ = some (.slice (some ⟨b, off, none⟩) n ca)) ∧ w'.cell? ⟨w.heap.size, 2, none⟩ = some (.int .i64 e)) W2 := HW2.out.cells
    refine hK _ _ hS ?_
    clear hK K' hown hgrow hsl hcells hone hcc HB2 HR
    repeat (refine wpPl_take (v := ?_) rfl (fun _ _ _ h => h) rfl (fun w' hSw => ?_) hS ?_; rotate_left; focus (go_simp; with_reducible rfl); try simp only [Act.put, List.setIfInBounds_toArray, List.set_cons_zero, List.set_cons_succ])
    clear hS
    refine wpPl_nil ?_
    simp only [List.drop_succ_cons, List.drop_zero]
    obtain ⟨q0, q1, q2, q3, q4, q5⟩ := HW2.out.2.1.cells3
    go_wp2
    exact bodyPost_ret (v := DyV neg (.slice ao7 n cs7) e) (by simp [results, Tryd.results9, go_sem, q0, q1, q2, DyV]) rfl ⟨_, rfl, HF7.out _ _ _⟩
  · obtain rfl : n = 0 := by omega
    have hz : N = 0 := by have := HN.out; simp at this; omega
    subst hz
    have happ : (Builtin.append_ #[23, 23] 23 #[.slice none 0 0, .slice aa 0 ca]).run Tryd.prog W = .ok (.slice none 0 0) W := by
      cases aa <;> simp [Builtin.append_, go_sem]
    refine wp_append_run _ _ 23 rfl _ _ _ _ rfl rfl happ ?_
    have HF7 := Lib.hid (fun x0 x1 x2 => dy_store HW1.out.2.2 (Raw.nil .u32 32 W) ⟨none, 0, 0, rfl, fun a ha => by cases ha⟩ (Below.refl _ _) HW1.out.2.1 objT_dyad HW1.out.2.1.lt (by omega) x0 x1 x2)
    have hS : (fun w' : World => (w'.cell? ⟨w.heap.size, 0, none⟩ = some (.bool neg) ∧ w'.cell? ⟨w.heap.size, 1, none⟩ = some (.slice aa 0 ca)) ∧ w'.cell? ⟨w.heap.size, 2, none⟩ = some (.int .i64 e)) W := HW1.out.cells
    refine hK _ _ hS ?_
    clear hK K' happ
    repeat (refine wpPl_take (v := ?_) rfl (fun _ _ _ h => h) rfl (fun w' hSw => ?_) hS ?_; rotate_left; focus (go_simp; with_reducible rfl); try simp only [Act.put, List.setIfInBounds_toArray, List.set_cons_zero, List.set_cons_succ])
    clear hS
    refine wpPl_nil ?_
    simp only [List.drop_succ_cons, List.drop_zero]
    obtain ⟨q0, q1, q2, q3, q4, q5⟩ := HW1.out.2.1.cells3
    go_wp2
    exact bodyPost_ret (v := DyV neg (.slice none 0 0) e) (by simp [results, Tryd.results9, go_sem, q0, q1, q2, DyV]) rfl ⟨_, rfl, HF7.out _ _ _⟩

set_option maxRecDepth 100000 in
set_option maxHeartbeats 800000 in
theorem same_true (va vb : Value) (neg : Bool) (n N : Nat) (e : Int) (sa sb : Value) (w : World) (hva : va = DyV neg sa e) (hvb : vb = DyV neg sb e) (ha : Raw .u32 32 w sa n N) (hb : Raw .u32 32 w sb n N) (hn : n ≤ 1073741824) :
    Calls Tryd.prog 12 #[va, vb] w (Gives (.bool true) w) := by
  subst hva; subst hvb
  obtain ⟨aa, ca, rfl, hcap, hN, -, hca⟩ := ha
  obtain ⟨ab, cb, rfl, hcapb, hNb, -, hcb⟩ := hb
  have HCa := Lib.hid hca
  have HCb := Lib.hid hcb
  have k1 := BlkT.new w #[.bool neg, .slice aa n ca, .int .i64 e] 25
  have HW0 : Hid (BlkT ((w.alloc (.cells #[.bool neg, .slice aa n ca, .int .i64 e] 25)).alloc (.cells #[.bool neg, .slice ab n cb, .int .i64 e] 25)) w.heap.size 25 #[.bool neg, .slice aa n ca, .int .i64 e] ∧
      BlkT ((w.alloc (.cells #[.bool neg, .slice aa n ca, .int .i64 e] 25)).alloc (.cells #[.bool neg, .slice ab n cb, .int .i64 e] 25)) (w.heap.size + 1) 25 #[.bool neg, .slice ab n cb, .int .i64 e] ∧
      Below w.heap.size w ((w.alloc (.cells #[.bool neg, .slice aa n ca, .int .i64 e] 25)).alloc (.cells #[.bool neg, .slice ab n cb, .int .i64 e] 25))) := Lib.hid ⟨k1.alloc _, BlkT.new1 w _ _ _, below2 _ _ _⟩
  clear hN hNb hca hcb k1
  unfold DyV
  have hne1 : (neg != neg) = false := by cases neg <;> rfl
  have hne2 : (e != e) = false := by simp
  go_enter Tryd.func12, Tryd.ntmps12
  go_wp2
  go_loopw [30] (fun i wr => ∃ k : Nat, k ≤ n ∧ i = .int .i64 k ∧ Hid (BlkT wr w.heap.size 25 #[.bool neg, .slice aa n ca, .int .i64 e] ∧ BlkT wr (w.heap.size + 1) 25 #[.bool neg, .slice ab n cb, .int .i64 e] ∧ Below w.heap.size w wr)) (fun i _ => n - (intOf i).toNat)
  case atStart => exact ⟨0, Nat.zero_le _, rfl, HW0⟩
  case round =>
    obtain ⟨k, hk, rfl, HW⟩ := hrel
    by_cases hlt : k < n
    · obtain ⟨b, off, rfl, hb, -, hc⟩ := HCa.out (by omega)
      obtain ⟨b2, off2, rfl, hb2, -, hc2⟩ := HCb.out (by omega)
      have HC1 := Lib.hid ((HW.out.2.2.cell (p := ⟨b, off + k, none⟩) hb).trans (hc k hlt))
      have HC2 := Lib.hid ((HW.out.2.2.cell (p := ⟨b2, off2 + k, none⟩) hb2).trans (hc2 k hlt))
      clear hc hc2
      generalize dg 32 N k = d at *
      go_wp2
      refine wp_region_pl (fun w' : World => (w'.cell? ⟨w.heap.size, 1, none⟩ = some (.slice (some ⟨b, off, none⟩) n ca) ∧ w'.cell? ⟨w.heap.size + 1, 1, none⟩ = some (.slice (some ⟨b2, off2, none⟩) n cb)) ∧ w'.cell? ⟨b, off + k, none⟩ = some (.int .u32 d) ∧ w'.cell? ⟨b2, off2 + k, none⟩ = some (.int .u32 d)) 10 (.take 0 (.take 1 (.take 2 (.take 3 (.take 4 (.take 5 (.take 6 (.take 7 (.take 8 (.take 9 .nil)))))))))) (by kernel_rfl) (by kernel_rfl) ?_
      have HW2 : Hid (BlkT wr.drew w.heap.size 25 #[.bool neg, .slice (some ⟨b, off, none⟩) n ca, .int .i64 e] ∧ BlkT wr.drew (w.heap.size + 1) 25 #[.bool neg, .slice (some ⟨b2, off2, none⟩) n cb, .int .i64 e] ∧ Below w.heap.size w wr.drew) :=
        Lib.hid ⟨HW.out.1.below (drew_below _), HW.out.2.1.below (drew_below _), HW.out.2.2.drew⟩
      have hS : (fun w' : World => (w'.cell? ⟨w.heap.size, 1, none⟩ = some (.slice (some ⟨b, off, none⟩) n ca) ∧ w'.cell? ⟨w.heap.size + 1, 1, none⟩ = some (.slice (some ⟨b2, off2, none⟩) n cb)) ∧ w'.cell? ⟨b, off + k, none⟩ = some (.int .u32 d) ∧ w'.cell? ⟨b2, off2 + k, none⟩ = some (.int .u32 d)) wr.drew := ⟨⟨HW2.out.1.cell 1, HW2.out.2.1.cell 1⟩, HC1.out, HC2.out⟩
      repeat (refine wpPl_take (v := ?_) rfl (fun _ _ _ h => h) rfl (fun w' hSw => ?_) hS ?_; rotate_left; focus (go_simp; with_reducible rfl); try simp only [Act.put, List.setIfInBounds_toArray, List.set_cons_zero, List.set_cons_succ])
      clear hS
      refine wpPl_nil ?_
      simp only [List.drop_succ_cons, List.drop_zero]
      have hdd : ((d : Int) != d) = false := by simp
      go_wp2
      go_roundw
      case rel => exact ⟨k + 1, by omega, by go_num, HW2⟩
      case measure => simp [intOf]; omega
    · obtain rfl : k = n := by omega
      go_wp2
      go_ret
      exact ⟨rfl, HW.out.2.2⟩

end Go.Proofs.YtfcddnccmdjhfaaDoor
