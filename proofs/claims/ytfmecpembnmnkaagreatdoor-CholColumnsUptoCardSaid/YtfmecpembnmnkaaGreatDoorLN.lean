/- Walk: the references' Unit. Printed by wip/gen/ch31.py. -/
import Derived.Test.YtfmecpembnmnkaaGreatDoorLH
import Derived.Test.YtfmecpembnmnkaaGreatDoorLJ
import Derived.Test.YtfmecpembnmnkaaGreatDoorLM
namespace Go.Proofs.YtfmecpembnmnkaaGreatDoor
section
open Go.RowKit
attribute [local go_sem] run_store_f
def unitM (m : Nat) : Nat → Nat → Fo := dgL (fun _ _ => some 0) (fun _ => oneO) m
end
section
open Go.RowKit
def mirL (n : Nat) (l : List Nat) : List Nat := (List.range (n * n)).map fun p => if p % n ≤ p / n then atN n l (p / n) (p % n) else atN n l (p % n) (p / n)
theorem matR_at {r c i j : Nat} {X : Nat → Nat → Fo} (hi : i < r) (hj : j < c) : atN c (matR r c X) i j = bitO (X i j) := by
 have h1 : (i * c + j) / c = i := by rw [Nat.mul_comm, Nat.mul_add_div (by omega), Nat.div_eq_of_lt hj]; rfl
 have h2 : (i * c + j) % c = j := by rw [Nat.mul_comm, Nat.mul_add_mod]; exact Nat.mod_eq_of_lt hj
 unfold atN matR
 rw [List.getD_eq_getElem?_getD, List.getElem?_map, List.getElem?_range (at_ltR hi hj)]
 show bitO (X ((i * c + j) / c) ((i * c + j) % c)) = _
 rw [h1, h2]
theorem mirL_mat {n : Nat} {X : Nat → Nat → Fo} : matL n (mirM X) = mirL n (matR n n X) := by
 unfold matL mirL
 refine List.map_congr_left fun p hp => ?_
 obtain ⟨h1, h2⟩ := div_ltR (List.mem_range.1 hp)
 rw [matR_at h1 h2, matR_at h2 h1]
 unfold mirM
 split <;> rfl
theorem mirL_len (n : Nat) (l : List Nat) : (mirL n l).length = n * n := by simp [mirL]
def unitL (n : Nat) : List Nat := matL n (unitM n)
theorem unit_fin (n i j : Nat) : finO (unitM n i j) = true := dg_fin (fun _ _ => rfl) (fun _ => by decide +kernel) i j
theorem unitL_len (n : Nat) : (unitL n).length = n * n := by simp [unitL, matL]
theorem unit_good {n : Nat} (hn : n ≤ 12) : chkB n n (unitL n) = 0 := by
 unfold chkB
 rw [if_pos (by omega), if_pos (by rw [unitL_len, Int.natCast_mul]), if_pos]
 rw [List.all_eq_true]
 intro x hx
 unfold unitL matL at hx
 simp only [List.mem_map, List.mem_range] at hx
 obtain ⟨p, -, rfl⟩ := hx
 have h := unit_fin n (p / n) (p % n)
 cases e : unitM n (p / n) (p % n) with
 | none => rw [e] at h; cases h
 | some v => rw [e] at h; exact h
def invE (r c : Int) (l : List Nat) : Int := if evnB r c l ≠ 0 then evnB r c l else smE r c l r r (unitL r.toNat)
def invP (r c : Int) (l : List Nat) : Nat := if evnB r c l ≠ 0 then 0 else smP r c l r r (unitL r.toNat)
def invN (r c : Int) (l : List Nat) : Int := if invE r c l = 0 then r else 0
def invL (r c : Int) (l : List Nat) : List Nat := if invE r c l = 0 then mirL r.toNat (smL r c l r r (unitL r.toNat)) else []
section
variable {r c : Int} {l : List Nat}
theorem inv_err {e : Int} (h : invE r c l = e) (he : e ≠ 0) : invN r c l = 0 ∧ invL r c l = [] := by
 unfold invN invL
 rw [h, if_neg he, if_neg he]
 exact ⟨rfl, rfl⟩
theorem inv_e1 (h : evnB r c l ≠ 0) : invE r c l = evnB r c l ∧ invP r c l = 0 ∧ invN r c l = 0 ∧ invL r c l = [] := by
 have h1 : invE r c l = evnB r c l := if_pos h
 exact ⟨h1, if_pos h, inv_err h1 h⟩
theorem inv_sm (h : evnB r c l = 0) : invE r c l = smE r c l r r (unitL r.toNat) ∧ invP r c l = smP r c l r r (unitL r.toNat) := ⟨if_neg (fun t => t h), if_neg (fun t => t h)⟩
theorem sqr_evn (h : evnB r c l ≠ 0) : sqrB r c l = evnB r c l := if_pos h
theorem inv_sq (h : sqrB r c l ≠ 0) : invE r c l = sqrB r c l ∧ invP r c l = 0 ∧ invN r c l = 0 ∧ invL r c l = [] := by
 by_cases h0 : evnB r c l = 0
 ·obtain ⟨e1, e2⟩ := inv_sm h0
  obtain ⟨h1, h2, -, -⟩ := cholE_err h
  have hq := evn_zero h0
  have hr : r = (r.toNat : Int) := by have := hq.hr; omega
  have hu : chkB r r (unitL r.toNat) = 0 := by
   have := unit_good hq.hn
   rw [← hr] at this; exact this
  obtain ⟨e3, e4⟩ := sm_e4 h0 hu rfl (by rw [h1]; exact h)
  have e5 : invE r c l = sqrB r c l := by rw [e1, e3, h1]
  exact ⟨e5, by rw [e2, e4, h2], inv_err e5 h⟩
 ·rw [sqr_evn h0]; exact inv_e1 h0
end
theorem inv_ok {n : Nat} {l : List Nat} (h : evnB n n l = 0) : invE n n l = smE n n l n n (unitL n) ∧ invP n n l = smP n n l n n (unitL n) ∧ (smE n n l n n (unitL n) ≠ 0 → invN n n l = 0 ∧ invL n n l = []) ∧
  (smE n n l n n (unitL n) = 0 → invN n n l = n ∧ invL n n l = mirL n (smL n n l n n (unitL n))) := by
 obtain ⟨e1, e2⟩ := inv_sm h
 rw [Int.toNat_natCast] at e1 e2
 refine ⟨e1, e2, fun h1 => inv_err e1 h1, fun h1 => ?_⟩
 unfold invN invL
 rw [e1, h1, if_pos rfl, if_pos rfl, Int.toNat_natCast]
 exact ⟨rfl, rfl⟩
end
section
open Go.RowKit
attribute [local go_sem] run_store_f
theorem wp_append_own_at {P : Program} {w : World} {o : Oper} {a : Act} {K : Act → World → Prop} {Q : Exit → Act → World → Prop} (s x : Operand) (t : TypeId)
  (ho : o.op = .call { callee := .builtin .append, args := #[s, x], argTypes := #[t, t] })
  (base : Nat) (e : TypeId) (i : TypeInfo) (z : Value) (size bytes : Nat) (ht : P.underlying t = some (.slice e)) (hi : P.info? e = some i) (hz : i.zero = some z)
  (hsize : i.size = size) (hby : i.bytes = bytes) (hzs : z.cells.size = size) (hsz : 0 < size)
  (v : Value) (n : Nat) (xs : List Value) (hs : a.eval s = v) (hown : w.ownsRow base e size v n xs)
  (ad : Addr) (m c : Nat) (news : List Value) (hx : a.eval x = .slice (some ad) m c) (hl : news.length = m * size) (hnews : ∀ j u, news[j]? = some u → w.cell? (ad.add j) = some u) (h1 : ∀ u ∈ news, u.oneCell' = true)
  (h63 : n + m ≤ maxLen) (hbytes : (n + m) * bytes ≤ 140737488355328) (hbase : base ≤ w.heap.size)
  (h : ∀ v' w', w'.ownsRow base e size v' (n + m) (xs ++ news) → w.grownBy w' v.ownBlock → (v'.ownBlock = v.ownBlock ∨ v'.ownBlock = some w.heap.size) → K (a.put o.dst v') w') : o.wp P a w K Q := by
 obtain ⟨v', w', hr, h2, h3, h4, h5⟩ := run_append_own_at (P := P) w base t o.type e i z size bytes ht hi hz hsize hby hzs hsz v n xs hown ad m c news hl hnews h1 h63 hbytes hbase
 unfold Oper.wp execOp
 simp only [ho, resolve, invoke, builtin, Sem.run_bind, Sem.run_pure, Result.andThen_ok, List.map_toArray, List.map_cons, List.map_nil, hs, hx, hr]
 exact h v' w' h2 h3 h5
theorem OwF.congr {W : World} {B k : Nat} {v : Value} {vs us : Nat → Nat} (h : OwF W B v k vs) (e : ∀ i, i < k → vs i = us i) : OwF W B v k us := by
 unfold OwF at h ⊢
 rwa [List.map_congr_left (g := fun i => Value.float .f64 (us i)) fun i hi => by rw [e i (List.mem_range.1 hi)]] at h
theorem OwF.frozen {W : World} {B k g cap : Nat} {vs : Nat → Nat} (h : OwF W B (.slice (some ⟨g, 0, none⟩) k cap) k vs) (i : Nat) : W.frozen? ⟨g, i, none⟩ = false := World.ownsRow.frozenAt h i
theorem OwF.set {W : World} {B k g cap i z : Nat} {vs : Nat → Nat} (h : OwF W B (.slice (some ⟨g, 0, none⟩) k cap) k vs) : OwF (W.setCell ⟨g, i, none⟩ (.float .f64 z)) B (.slice (some ⟨g, 0, none⟩) k cap) k (updF vs i z) := by
 have h1 := (World.ownsRow.stored h i (.float .f64 z)).1
 unfold OwF
 have e : ((List.range k).map fun i => Value.float .f64 (vs i)).set i (.float .f64 z) = (List.range k).map fun j => Value.float .f64 (updF vs i z j) := by
  apply List.ext_getElem?
  intro j
  rw [List.getElem?_set, List.getElem?_map, List.getElem?_map]
  by_cases hj : j < k
  ·rw [List.getElem?_range hj]
   by_cases e : i = j
   ·subst e; rw [if_pos rfl, if_pos (by simpa using hj)]; simp [updF_self]
   ·rw [if_neg e]; simp [updF_ne (Ne.symm e)]
  ·rw [List.getElem?_eq_none (by simpa using hj)]
   by_cases e : i = j
   ·subst e; rw [if_pos rfl, if_neg (by simpa using hj)]; rfl
   ·rw [if_neg e]; rfl
 rw [← e]; exact h1
structure FiR (w0 W : World) (mb : Nat) (r c : Int) (xv : Value) (k : Nat) (vs : Nat → Nat) : Prop where
 q : BlkT W w0.heap.size 25 #[.int .i64 0, .int .i64 0, .slice none 0 0]
 m : BlkT W mb 25 #[.int .i64 r, .int .i64 c, xv]
 x : OwF W (w0.heap.size + 1) xv k vs
 ne : ∀ g, xv.ownBlock = some g → g ≠ mb
 lt : w0.heap.size < mb
 b : Below w0.heap.size w0 W
section
variable {w0 W V U : World} {mb k z : Nat} {r c : Int} {xv v' : Value} {vs : Nat → Nat}
theorem FiR.later (h : FiR w0 W mb r c xv k vs) (hb : Below W.heap.size W V) : FiR w0 V mb r c xv k vs := ⟨h.q.below hb, h.m.below hb, h.x.later hb, h.ne, h.lt, h.b.trans (hb.mono h.b.size)⟩
theorem FiR.m3 (h : FiR w0 W mb r c xv k vs) : W.cell? ⟨mb, 2, none⟩ = some xv := h.m.cell 2
structure FiA (w0 W : World) (mb : Nat) (r c : Int) (xv v' : Value) (k : Nat) (vs : Nat → Nat) : Prop where
 q : BlkT W w0.heap.size 25 #[.int .i64 0, .int .i64 0, .slice none 0 0]
 m : BlkT W mb 25 #[.int .i64 r, .int .i64 c, xv]
 x : OwF W (w0.heap.size + 1) v' k vs
 ne : ∀ g, v'.ownBlock = some g → g ≠ mb
 lt : w0.heap.size < mb
 b : Below w0.heap.size w0 W
theorem FiR.grown (h : FiR w0 W mb r c xv k vs) (hg : W.grownBy U xv.ownBlock)
  (ho : U.ownsRow (w0.heap.size + 1) 35 1 v' (k + 1) (((List.range k).map fun i => Value.float .f64 (vs i)) ++ [.float .f64 z])) (hat : v'.ownBlock = xv.ownBlock ∨ v'.ownBlock = some W.heap.size) : FiA w0 U mb r c xv v' (k + 1) (updF vs k z) := by
 have hx := h.x.lt
 have hml := h.m.lt
 have hq := h.q.lt
 have hu := h.b
 have hlt := h.lt
 refine ⟨(hg.block _ hq fun e => by have := (hx _ e.symm).1; omega).trans h.q, (hg.block _ hml fun e => h.ne _ e.symm rfl).trans h.m, OwF.push ho, fun g e => ?_, hlt,
  ⟨hg.os.trans hu.os, hg.tape.trans hu.tape, hg.output.trans hu.output, Nat.le_trans hu.size hg.size, fun j hj => (hg.block j (by omega) fun e => by have := (hx j e.symm).1; omega).trans (hu.block j hj)⟩⟩
 rcases hat with h1 | h1
 ·exact h.ne g (by rw [← h1]; exact e)
 ·rw [h1] at e; injection e with e; omega
theorem FiA.put (h : FiA w0 W mb r c xv v' k vs) : FiR w0 (W.setCell ⟨mb, 2, none⟩ v') mb r c v' k vs := by
 have hlt := h.lt
 have hu : Upd mb W (W.setCell ⟨mb, 2, none⟩ v') := Upd.set v'
 exact ⟨h.q.upd hu (by omega), h.m.set (i := 2) v', h.x.of_blocks fun g hg => hu.block g (h.x.lt g hg).2 (h.ne g hg), h.ne, hlt, hu.below h.b (by omega) h.b.size⟩
theorem FiR.start (w : World) (N : Nat) (hN : N ≤ 144) (r c : Int) : FiR w (((w.alloc (.cells #[.int .i64 0, .int .i64 0, .slice none 0 0] 25)).alloc (.cells (madeCells #[.float .f64 0] N) 35)).alloc (.cells #[.int .i64 r, .int .i64 c, .slice (some ⟨w.heap.size + 1, 0, none⟩) 0 N] 25)) (w.heap.size + 1 + 1) r c (.slice (some ⟨w.heap.size + 1, 0, none⟩) 0 N) 0 (fun _ => 0) := by
 refine ⟨((BlkT.new w _ _).alloc _).alloc _, BlkT.new2 w _ _ _ _, ?_, fun g e => ?_, by omega, below3 w _ _ _⟩
 ·have h := World.ownsRow_made (base := w.heap.size + 1) (e := 35) (size := 1) (w.alloc (.cells #[.int .i64 0, .int .i64 0, .slice none 0 0] 25)) (madeCells #[.float .f64 0] N) N (by simp) (by unfold maxLen; omega) (by rw [size_madeCells]; omega)
  rw [size_alloc] at h
  exact h.alloc _
 ·have e2 : w.heap.size + 1 = g := Option.some.inj e
  omega
theorem FiR.done (h : FiR w0 W mb r c xv k vs) (a b d : Value) : OwF (((W.setCell ⟨w0.heap.size, 0, none⟩ a).setCell ⟨w0.heap.size, 1, none⟩ b).setCell ⟨w0.heap.size, 2, none⟩ d) w0.heap.size xv k vs ∧ Below w0.heap.size w0 (((W.setCell ⟨w0.heap.size, 0, none⟩ a).setCell ⟨w0.heap.size, 1, none⟩ b).setCell ⟨w0.heap.size, 2, none⟩ d) := by
 have hu : Upd w0.heap.size W (((W.setCell ⟨w0.heap.size, 0, none⟩ a).setCell ⟨w0.heap.size, 1, none⟩ b).setCell ⟨w0.heap.size, 2, none⟩ d) := ((Upd.set _).trans (Upd.set _)).trans (Upd.set _)
 exact ⟨(h.x.upd hu (by omega)).base (Nat.le_succ _), hu.below h.b (Nat.le_refl _) h.b.size⟩
end
set_option maxRecDepth 100000 in
set_option maxHeartbeats 3200000 in
theorem fill_any (r c : Nat) (hr : r ≤ 12) (hc : c ≤ 12) (fk : Nat) (cf : Array Value) (v : Nat → Nat → Nat) (w : World) (he : ∀ args w, (callFunc fk args).run Tryz.prog w = .ok (.enter fk args) w) (hf : ∀ i j W, i < r → j < c → Below w.heap.size w W → Calls Tryz.prog fk (#[.int .i64 i, .int .i64 j] ++ cf) W (Gives (.float .f64 (v i j)) W)) :
  Calls Tryz.prog 146 #[.int .i64 r, .int .i64 c, .func (.func fk) #[] cf] w fun e w' => ∃ xo xc, e = .returned (MatV r c (.slice xo (r * c) xc)) ∧ OwF w' w.heap.size (.slice xo (r * c) xc) (r * c) (fun p => v (p / c) (p % c)) ∧ Below w.heap.size w w' := by
 obtain ⟨i0, hi, hz0, hz1, hz2⟩ := info_parts Tryz.info35
 obtain ⟨N, hN⟩ : ∃ N, r * c = N := ⟨_, rfl⟩
 have hN2 : N ≤ 144 := by rw [← hN]; exact Nat.mul_le_mul hr hc
 have hw : IntKind.i64.wrap ((r : Int) * (c : Int)) = (N : Int) := by rw [← Int.natCast_mul, hN]; exact IntWalk.i64_in _ (by omega)
 have hmk : ∀ W : World, (Instr.makeSlice 23 (.int .i64 0) (.int .i64 (N : Int))).run Tryz.prog W = .ok (.slice (some ⟨W.heap.size, 0, none⟩) 0 N) (W.alloc (.cells (madeCells #[.float .f64 0] N) 35)) := fun W => by
  have h := run_make (P := Tryz.prog) W 23 35 i0 (.float .f64 0) Tryz.underlying23 hi hz0 .i64 .i64 0 (N : Int) (by omega) (by omega) (by rw [hz2]; omega) (by omega)
  rw [hz1] at h
  have hcl : (Value.float .f64 0).cells = #[.float .f64 0] := rfl
  simpa [hcl] using h
 have HIX : Hid (∀ i j, j < c → (i * c + j) / c = i ∧ (i * c + j) % c = j) := Lib.hid fun i j hj => ⟨by rw [Nat.mul_comm, Nat.mul_add_div (by omega), Nat.div_eq_of_lt hj]; rfl, by rw [Nat.mul_comm, Nat.mul_add_mod]; exact Nat.mod_eq_of_lt hj⟩
 have HLT : Hid (∀ i j, i < r → j < c → i * c + j < N) := Lib.hid fun i j hi hj => by rw [← hN]; exact at_ltR hi hj
 rw [hN]
 have HN := Lib.hid hN
 clear hN
 have HF := Lib.hid hf
 clear hf
 have HS0 := Lib.hid (FiR.start w N hN2 r c)
 go_enter Tryz.func146, Tryz.ntmps146
 go_upto_region 2 with fail
 clear hmk hw
 obtain ⟨mb, hmb⟩ : ∃ b, w.heap.size + 1 + 1 = b := ⟨_, rfl⟩
 obtain ⟨xo0, hxo0⟩ : ∃ x, some (⟨w.heap.size + 1, 0, none⟩ : Addr) = x := ⟨_, rfl⟩
 generalize World.alloc (World.alloc (World.alloc w _) _) _ = W0 at *
 rw [hmb, hxo0] at HS0
 rw [hmb]
 clear hmb hxo0
 have HD0 : Hid (FiR w W0 mb r c (.slice xo0 (0 * c) N) (0 * c) (fun _ => 0)) := Lib.hid (by rw [Nat.zero_mul]; exact HS0.out)
 clear HS0
 go_wp2
 go_loopw [18] (fun iv wr => ∃ (i : Nat) (xo : Option Addr) (xc : Nat) (vs : Nat → Nat), i ≤ r ∧ iv = .int .i64 i ∧ Hid (∀ p, p < i * c → vs p = v (p / c) (p % c)) ∧ Hid (FiR w wr mb r c (.slice xo (i * c) xc) (i * c) vs)) (fun iv _ => r - (intOf iv).toNat)
 case atStart => exact ⟨0, _, _, _, Nat.zero_le _, rfl, Lib.hid fun p hp => absurd hp (by omega), HD0⟩
 case round =>
  clear HD0
  obtain ⟨wo, rfl⟩ : ∃ wo : World, wo = wr := ⟨_, rfl⟩
  obtain ⟨i, xo1, xc1, vs, hir, rfl, HV, HD⟩ := hrel
  by_cases hin : i < r
  ·have HV1 : Hid (∀ p, p < i * c + 0 → vs p = v (p / c) (p % c)) := HV
   have HD1 : Hid (FiR w wo mb r c (.slice xo1 (i * c + 0) xc1) (i * c + 0) vs) := HD
   clear HV HD
   go_wp2
   go_loopw [22] (fun jv wr => ∃ (j : Nat) (xo : Option Addr) (xc : Nat) (vs : Nat → Nat), j ≤ c ∧ jv = .int .i64 j ∧ Hid (∀ p, p < i * c + j → vs p = v (p / c) (p % c)) ∧ Hid (FiR w wr mb r c (.slice xo (i * c + j) xc) (i * c + j) vs)) (fun jv _ => c - (intOf jv).toNat)
   case atStart => exact ⟨0, _, _, _, Nat.zero_le _, rfl, HV1, HD1⟩
   case round =>
    clear HV1 HD1
    obtain ⟨wo2, rfl⟩ : ∃ wo : World, wo = wr := ⟨_, rfl⟩
    obtain ⟨j, xo, xc, vs, hjc, rfl, HV, HD⟩ := hrel
    by_cases hjn : j < c
    ·have HIJ := Lib.hid (HIX.out i j hjn)
     have hkN := HLT.out i j hin hjn
     generalize hk : i * c + j = k at *
     have HK := Lib.hid hk
     clear hk
     go_upto_region 8 with fail
     refine wp_region_pl (fun w' : World => w'.cell? ⟨mb, 2, none⟩ = some (.slice xo k xc)) 8 (.take 0 (.take 1 (.take 2 (.take 3 (.take 4 (.run 5 (.run 6 (.run 7 .nil)))))))) (by kernel_rfl) (by kernel_rfl) ?_
     replace HD := Lib.hid (HD.out.later (drew_below _))
     generalize World.drew _ = W5 at HD ⊢
     repeat (refine tkL (v := ?_) rfl rfl rfl (fun w' hSw => ?_) HD.out.m3 ?_; rotate_left; (focus (go_simp; with_reducible rfl)); simp only [setL])
     refine wpPl_goL rfl rfl fun K' hK => ?_
     go_simp
     refine (HF.out i j _ hin hjn HD.out.b).mono ?_
     rintro e1 W6 ⟨rfl, hb1⟩
     replace HD := Lib.hid (HD.out.later hb1)
     refine hK _ _ HD.out.m3 ?_
     clear hK K' hb1
     try simp only [Act.put, setL]
     have HZ : Hid (v i j = v (k / c) (k % c)) := Lib.hid (by rw [HIJ.out.1, HIJ.out.2])
     generalize v i j = z at *
     refine wpPl_goL rfl rfl fun K' hK => ?_
     go_simp
     have HSB : Hid (w.heap.size + 1 ≤ W6.heap.size) := Lib.hid (Nat.le_trans HD.out.q.lt (Nat.le_refl _))
     replace HD := Lib.hid (HD.out.later (Below.alloc_self W6 (.cells #[.float .f64 z] 35)))
     refine hK _ _ HD.out.m3 ?_
     clear hK K'
     try simp only [Act.put, setL]
     refine wpPl_goL rfl rfl fun K' hK => ?_
     refine wp_append_own_at _ _ 23 rfl (w.heap.size + 1) 35 i0 (.float .f64 0) 1 8 Tryz.underlying23 hi hz0 hz1 hz2 rfl (by decide) _ _ _ rfl HD.out.x ⟨W6.heap.size, 0, none⟩ 1 1 [.float .f64 z] rfl rfl (cell_one_new _ _ _) ?c2 ?c3 ?c4 ?c5 ?_
     case c2 => intro u hu; simp only [List.mem_singleton] at hu; subst hu; rfl
     case c3 => unfold maxLen; omega
     case c4 => omega
     case c5 => rw [size_alloc]; exact Nat.le_succ_of_le HSB.out
     intro v' U4 hown hgrow hat
     have HA := Lib.hid (HD.out.grown hgrow hown hat)
     obtain ⟨xo2, xc2, hv'⟩ := owns_shape hown
     rw [hv'] at HA ⊢
     refine hK _ _ (HA.out.m.cell 2) ?_
     clear hK K' hown hgrow hat hv' HD HSB
     try simp only [Act.put, setL]
     refine wpPl_nil ?_
     simp only [drL]
     have HB := Lib.hid HA.out.put
     have mf := HA.out.m.frozen 2
     have mc := (HA.out.m.cell 2)
     clear HA
     go_wp2
     go_roundw
     case rel =>
      refine ⟨j + 1, _, _, _, by omega, by go_num, Lib.hid fun p hp => ?_, by rw [← Nat.add_assoc, HK.out]; exact HB⟩
      rw [← Nat.add_assoc, HK.out] at hp
      by_cases e : p = k
      ·subst e; rw [updF_self]; exact HZ.out
      ·rw [updF_ne e]; exact HV.out p (by omega)
     case measure => simp [intOf] <;> omega
    ·obtain rfl : j = c := by omega
     go_wp2
     go_roundw
     case rel => exact ⟨i + 1, _, _, vs, by omega, by go_num, Lib.hid (by rw [Nat.add_mul, Nat.one_mul]; exact HV.out), Lib.hid (by rw [Nat.add_mul, Nat.one_mul]; exact HD.out)⟩
     case measure => simp [intOf] <;> omega
  ·obtain rfl : i = r := by omega
   rw [HN.out] at HV HD
   have HQ := Lib.hid HD.out.done
   obtain ⟨m0, m1, m2, -⟩ := HD.out.m.cells3
   obtain ⟨q0, q1, q2, -⟩ := HD.out.q.cells3
   have f0 := HD.out.q.frozen 0
   have f1 := HD.out.q.frozen 1
   have f2 := HD.out.q.frozen 2
   clear HD
   go_wp2
   exact bodyPost_ret (v := MatV i c (.slice xo1 N xc1)) (by simp [results, Tryz.results146, go_sem, q0, q1, q2]) rfl ⟨_, _, rfl, (HQ.out _ _ _).1.congr HV.out, (HQ.out _ _ _).2⟩
end
section
open Go.RowKit
attribute [local go_sem] run_store_f
set_option maxRecDepth 100000 in
theorem eye1_any (i j : Nat) (w : World) : Calls Tryz.prog 147 #[.int .i64 i, .int .i64 j] w (Gives (.float .f64 (if i = j then 4607182418800017408 else 0)) w) := by
 by_cases h : i = j
 ·have h1 : ((i : Int) == (j : Int)) = true := by subst h; exact beq_self_eq_true _
  rw [if_pos h]
  clear h
  go_enter Tryz.func147, Tryz.ntmps147
  go_wp2
  go_ret
  exact ⟨rfl, Below.refl _ _⟩
 ·have h1 : ((i : Int) == (j : Int)) = false := beq_eq_false_iff_ne.2 (by omega)
  rw [if_neg h]
  clear h
  go_enter Tryz.func147, Tryz.ntmps147
  go_wp2
  go_ret
  exact ⟨rfl, Below.refl _ _⟩
set_option maxRecDepth 100000 in
theorem nought1_any (i j : Nat) (w : World) : Calls Tryz.prog 148 #[.int .i64 i, .int .i64 j] w (Gives (.float .f64 0) w) := by
 go_enter Tryz.func148, Tryz.ntmps148
 go_wp2
 go_ret
 exact ⟨rfl, Below.refl _ _⟩
theorem OwF.three {W w0 : World} {k N : Nat} {v : Value} {vs : Nat → Nat} (h : OwF W N v k vs) (hN : N = w0.heap.size + 1) (hb : Below w0.heap.size w0 W) (a b d : Value) : OwF (((W.setCell ⟨w0.heap.size, 0, none⟩ a).setCell ⟨w0.heap.size, 1, none⟩ b).setCell ⟨w0.heap.size, 2, none⟩ d) w0.heap.size v k vs ∧ Below w0.heap.size w0 (((W.setCell ⟨w0.heap.size, 0, none⟩ a).setCell ⟨w0.heap.size, 1, none⟩ b).setCell ⟨w0.heap.size, 2, none⟩ d) := by
 have hu : Upd w0.heap.size W (((W.setCell ⟨w0.heap.size, 0, none⟩ a).setCell ⟨w0.heap.size, 1, none⟩ b).setCell ⟨w0.heap.size, 2, none⟩ d) := ((Upd.set _).trans (Upd.set _)).trans (Upd.set _)
 exact ⟨(h.upd hu (by omega)).base (by omega), hu.below hb (Nat.le_refl _) hb.size⟩
set_option maxRecDepth 100000 in
set_option maxHeartbeats 3200000 in
theorem eye_any (n : Nat) (hn : n ≤ 12) (w : World) : Calls Tryz.prog 126 #[.int .i64 n] w fun e w' => ∃ xo xc, e = .returned (MatV n n (.slice xo (n * n) xc)) ∧ OwF w' w.heap.size (.slice xo (n * n) xc) (n * n) (fun p => if p / n = p % n then 4607182418800017408 else 0) ∧ Below w.heap.size w w' := by
 have HM := Lib.hid (MBx.new w 0 0 (.slice none 0 0))
 have HSZ : Hid ((w.alloc (.cells #[.int .i64 0, .int .i64 0, .slice none 0 0] 25)).heap.size = w.heap.size + 1) := Lib.hid (size_alloc _ _)
 have HFI := Lib.hid fun W => fill_any n n hn hn 147 #[] (fun i j => if i = j then 4607182418800017408 else 0) W (enters_of Tryz.func147 (by kernel_rfl) rfl) (fun i j V _ _ _ => eye1_any i j V)
 obtain ⟨N, hN⟩ : ∃ N, n * n = N := ⟨_, rfl⟩
 rw [hN] at HFI ⊢
 clear hN
 go_enter Tryz.func126, Tryz.ntmps126
 go_wp2_with fail
 generalize World.alloc w _ = W0 at *
 refine (HFI.out _).mono ?_
 rintro e1 w1 ⟨xo, xc, rfl, hx, hb1⟩
 replace HM := Lib.hid (HM.out.later hb1)
 have HQ := Lib.hid fun a b d => hx.three HSZ.out HM.out.b a b d
 clear hx hb1 HFI
 obtain ⟨q0, q1, q2, -⟩ := HM.out.m.cells3
 have f0 := HM.out.m.frozen 0
 have f1 := HM.out.m.frozen 1
 have f2 := HM.out.m.frozen 2
 go_wp2
 exact bodyPost_ret (v := MatV n n (.slice xo N xc)) (by simp [results, Tryz.results126, go_sem, q0, q1, q2]) rfl ⟨_, _, rfl, (HQ.out _ _ _).1, (HQ.out _ _ _).2⟩
theorem unitL_eq (n : Nat) : unitL n = (List.range (n * n)).map fun p => if p / n = p % n then 4607182418800017408 else 0 := by
 unfold unitL matL
 refine List.map_congr_left fun p hp => ?_
 obtain ⟨h1, h2⟩ := div_ltR (List.mem_range.1 hp)
 show bitO (if p / n = p % n ∧ p / n < n then oneO else some 0) = _
 by_cases e : p / n = p % n
 ·rw [if_pos ⟨e, h1⟩, if_pos e]; rfl
 ·rw [if_neg (fun h => e h.1), if_neg e]; rfl
set_option maxRecDepth 100000 in
set_option maxHeartbeats 3200000 in
theorem Eye_any (n : Nat) (hn : n ≤ 12) (w : World) : Calls Tryz.prog 87 #[.int .i64 n] w fun e w' => ∃ u, e = .returned (.tuple #[MatV n n u, .int .i64 0]) ∧ FSl w' u (unitL n) ∧ Below w.heap.size w w' := by
 have HM := Lib.hid (MBx.new w 0 0 (.slice none 0 0))
 have HSZ : Hid ((w.alloc (.cells #[.int .i64 0, .int .i64 0, .slice none 0 0] 25)).heap.size = w.heap.size + 1) := Lib.hid (size_alloc _ _)
 have HSI := Lib.hid fun W => size_any (n : Int) W
 rw [decide_eq_true (show (0 : Int) ≤ (n : Int) ∧ (n : Int) ≤ 12 by omega)] at HSI
 have HEY := Lib.hid fun W => eye_any n hn W
 have HNN : Hid (n * n ≤ 4096) := Lib.hid (by have : n * n ≤ 12 * 12 := Nat.mul_le_mul hn hn; omega)
 rw [unitL_eq]
 generalize hfu : (fun p => if p / n = p % n then 4607182418800017408 else 0) = fu at *
 have HFU : Hid (∀ p, fu p < 18446744073709551616) := Lib.hid fun p => by rw [← hfu]; dsimp only; split <;> decide
 clear hfu
 obtain ⟨N, hN⟩ : ∃ N, n * n = N := ⟨_, rfl⟩
 rw [hN] at HEY HNN ⊢
 clear hN
 go_enter Tryz.func87, Tryz.ntmps87
 go_wp2_with fail
 generalize World.alloc w _ = W0 at *
 refine (HSI.out _).mono ?_
 rintro e1 w1 ⟨rfl, hb1⟩
 replace HM := Lib.hid (HM.out.later hb1)
 have HSL : Hid (w.heap.size + 1 ≤ w1.heap.size) := Lib.hid (by rw [← HSZ.out]; exact hb1.size)
 clear hb1
 go_wp2_with fail
 refine (HEY.out _).mono ?_
 rintro e2 w2 ⟨xo, xc, rfl, hx, hb1⟩
 replace HM := Lib.hid (HM.out.later hb1)
 have HQ := Lib.hid fun a b d => OwF.three (w0 := w) (hx.base HSL.out) rfl HM.out.b a b d
 clear hx hb1 HEY HSI
 obtain ⟨q0, q1, q2, -⟩ := HM.out.m.cells3
 have f0 := HM.out.m.frozen 0
 have f1 := HM.out.m.frozen 1
 have f2 := HM.out.m.frozen 2
 go_wp2
 exact bodyPost_ret (v := .tuple #[MatV n n (.slice xo N xc), .int .i64 0]) (by simp [results, Tryz.results87, go_sem, q0, q1, q2]) rfl ⟨_, rfl, (HQ.out _ _ _).1.fsl HNN.out fun i _ => HFU.out i, (HQ.out _ _ _).2⟩
theorem FiR.set {w0 W : World} {mb g N cap p z : Nat} {r c : Int} {vs : Nat → Nat} (h : FiR w0 W mb r c (.slice (some ⟨g, 0, none⟩) N cap) N vs) : FiR w0 (W.setCell ⟨g, p, none⟩ (.float .f64 z)) mb r c (.slice (some ⟨g, 0, none⟩) N cap) N (updF vs p z) := by
 have hlt := h.lt
 have hg := h.x.lt g rfl
 have hne := h.ne g rfl
 have hu : Upd g W (W.setCell ⟨g, p, none⟩ (.float .f64 z)) := Upd.set _
 exact ⟨h.q.upd hu (by omega), h.m.upd hu (by omega), h.x.set, h.ne, hlt, hu.below h.b (by omega) h.b.size⟩
theorem FiR.cell {w0 W : World} {mb N cap p : Nat} {xo : Option Addr} {r c : Int} {vs : Nat → Nat} (h : FiR w0 W mb r c (.slice xo N cap) N vs) (hp : p < N) : ∃ g, xo = some ⟨g, 0, none⟩ ∧ W.cell? ⟨g, p, none⟩ = some (.float .f64 (vs p)) := by
 obtain ⟨g, h1, h2, -⟩ := h.x.cell hp
 exact ⟨g, h1, h2⟩
theorem FiR.of_fill {w W0 w1 : World} {N xc : Nat} {xo : Option Addr} {r c : Int} {vs : Nat → Nat} (hs : W0.heap.size = w.heap.size + 1) (hm : MBx w w1 w.heap.size 0 0 (.slice none 0 0)) (hx : OwF w1 W0.heap.size (.slice xo N xc) N vs) :
  FiR w (w1.alloc (.cells #[.int .i64 r, .int .i64 c, .slice xo N xc] 25)) w1.heap.size r c (.slice xo N xc) N vs := by
 rw [hs] at hx
 refine ⟨hm.m.alloc _, BlkT.new w1 _ _, hx.later (Below.alloc_self _ _), fun g e => ?_, hm.m.lt, hm.b.alloc hm.b.size _⟩
 have := (hx.lt g e).2
 omega
set_option maxRecDepth 100000 in
set_option maxHeartbeats 3200000 in
theorem mirrored_any (n : Nat) (hn : n ≤ 12) (fk : Nat) (cf : Array Value) (v : Nat → Nat → Nat) (M : Nat → Nat → Fo) (w : World) (he : ∀ args w, (callFunc fk args).run Tryz.prog w = .ok (.enter fk args) w) (hM : ∀ i j, i < n → j < n → Rep (M i j) (v i j)) (hf : ∀ i j W, i < n → j < n → Below w.heap.size w W → Calls Tryz.prog fk (#[.int .i64 i, .int .i64 j] ++ cf) W (Gives (.float .f64 (v i j)) W)) :
  Calls Tryz.prog 128 #[.int .i64 n, .func (.func fk) #[] cf] w fun e w' => ∃ xo xc vs, e = .returned (MatV n n (.slice xo (n * n) xc)) ∧ OwF w' w.heap.size (.slice xo (n * n) xc) (n * n) vs ∧ LowR n (mirM M) vs ∧ Below w.heap.size w w' := by
 have HM := Lib.hid (MBx.new w 0 0 (.slice none 0 0))
 have HSZ : Hid ((w.alloc (.cells #[.int .i64 0, .int .i64 0, .slice none 0 0] 25)).heap.size = w.heap.size + 1) := Lib.hid (size_alloc _ _)
 have HFI := Lib.hid fun W => fill_any n n hn hn 148 #[] (fun _ _ => 0) W (enters_of Tryz.func148 (by kernel_rfl) rfl) (fun i j V _ _ _ => nought1_any i j V)
 have HL0 : Hid (LowR n (mrT M 0 0) (fun _ => 0)) := Lib.hid (by rw [mrT_zero]; exact LowR.zero n)
 obtain ⟨N, hN⟩ : ∃ N, n * n = N := ⟨_, rfl⟩
 have hN2 : N ≤ 144 := by rw [← hN]; exact Nat.mul_le_mul hn hn
 have HLT : Hid (∀ i j, i < n → j < n → i * n + j < N) := Lib.hid fun i j hi hj => by rw [← hN]; exact at_lt hi hj
 rw [hN] at HFI ⊢
 clear hN
 have HF := Lib.hid hf
 have HR := Lib.hid hM
 clear hf hM
 go_enter Tryz.func128, Tryz.ntmps128
 go_wp2_with fail
 generalize World.alloc w _ = W0 at *
 refine (HFI.out _).mono ?_
 rintro e1 w1 ⟨xo, xc, rfl, hx, hb1⟩
 replace HM := Lib.hid (HM.out.later hb1)
 have HD0 := Lib.hid (FiR.of_fill (r := n) (c := n) HSZ.out HM.out hx)
 obtain ⟨mb, hmb⟩ : ∃ b, w1.heap.size = b := ⟨_, rfl⟩
 rw [hmb] at HD0
 clear hx hb1 HFI HM HSZ
 go_upto_region 2 with fail
 try rw [hmb]
 generalize World.alloc w1 _ = W1 at *
 clear hmb
 go_wp2
 go_loopw [13] (fun iv wr => ∃ (i : Nat) (vs : Nat → Nat), i ≤ n ∧ iv = .int .i64 i ∧ Hid (LowR n (mrT M i 0) vs) ∧ Hid (FiR w wr mb n n (.slice xo N xc) N vs)) (fun iv _ => n - (intOf iv).toNat)
 case atStart => exact ⟨0, _, Nat.zero_le _, rfl, HL0, HD0⟩
 case round =>
  clear HL0 HD0
  obtain ⟨wo, rfl⟩ : ∃ wo : World, wo = wr := ⟨_, rfl⟩
  obtain ⟨i, vs, hir, rfl, HL, HD⟩ := hrel
  by_cases hin : i < n
  ·go_wp2
   go_loopw [18] (fun jv wr => ∃ (j : Nat) (vs : Nat → Nat), j ≤ i + 1 ∧ jv = .int .i64 j ∧ Hid (LowR n (mrT M i j) vs) ∧ Hid (FiR w wr mb n n (.slice xo N xc) N vs)) (fun jv _ => (i + 1) - (intOf jv).toNat)
   case atStart => exact ⟨0, vs, Nat.zero_le _, rfl, HL, HD⟩
   case round =>
    clear HL HD
    obtain ⟨wo2, rfl⟩ : ∃ wo : World, wo = wr := ⟨_, rfl⟩
    obtain ⟨j, vs, hjc, rfl, HL, HD⟩ := hrel
    by_cases hlj : j < i + 1
    ·have hjn : j < n := by omega
     have hdj : decide ((j : Int) < (i : Int) + 1) = true := decide_eq_true (by omega)
     go_wp2_with fail
     refine (HF.out i j _ hin hjn HD.out.b).mono ?_
     rintro e2 w2 ⟨rfl, hb1⟩
     replace HD := Lib.hid (HD.out.later hb1)
     clear hb1 hdj
     have HX := Lib.hid (HR.out i j hin hjn)
     generalize v i j = x at *
     obtain ⟨e1, e2⟩ := at_eq hn hin hjn
     obtain ⟨e3, e4⟩ := at_eq hn hjn hin
     have hp1 := HLT.out i j hin hjn
     have hs1 := HLT.out j i hjn hin
     have HLS : Hid (LowR n (mrT M i (j + 1)) (updF (updF vs (i * n + j) x) (j * n + i) x)) := Lib.hid (by rw [mrT_step (by omega)]; exact (HL.out.set hjn HX.out).set hin HX.out)
     clear HL
     generalize i * n + j = p at *
     generalize j * n + i = s at *
     generalize ((i * n : Nat) : Int) = pi at *
     generalize ((j * n : Nat) : Int) = si at *
     obtain ⟨g, rfl, -⟩ := HD.out.cell hp1
     go_upto_region 9 with fail
     refine wp_region_pl (fun w' : World => w'.cell? ⟨mb, 2, none⟩ = some (.slice (some ⟨g, 0, none⟩) N xc)) 18 (.take 0 (.take 1 (.take 2 (.take 3 (.take 4 (.take 5 (.take 6 (.take 7 (.take 8 (.take 9 (.take 10 (.take 11 (.take 12 (.take 13 (.take 14 (.take 15 (.take 16 (.run 17 .nil)))))))))))))))))) (by kernel_rfl) (by kernel_rfl) ?_
     replace HD := Lib.hid (HD.out.later (drew_below _))
     generalize World.drew _ = W9 at HD ⊢
     repeat (refine tkL (v := ?_) rfl rfl rfl (fun w' hSw => ?_) HD.out.m3 ?_; rotate_left; (focus (go_simp; with_reducible rfl)); simp only [setL])
     obtain ⟨_, eg, x0⟩ := HD.out.cell hp1
     cases eg
     have x1 := HD.out.x.frozen p
     refine wpPl_goL rfl rfl fun K' hK => ?_
     go_simp
     clear x0 x1
     replace HD := Lib.hid (HD.out.set (p := p) (z := x))
     generalize World.setCell W9 _ _ = W9v1 at *
     refine hK _ _ HD.out.m3 ?_
     clear hK K'
     try simp only [Act.put, setL]
     repeat (refine tkL (v := ?_) rfl rfl rfl (fun w' hSw => ?_) HD.out.m3 ?_; rotate_left; (focus (go_simp; with_reducible rfl)); simp only [setL])
     refine wpPl_nil ?_
     simp only [drL]
     obtain ⟨_, eg, x0⟩ := HD.out.cell hs1
     cases eg
     have x1 := HD.out.x.frozen s
     have HD2 := Lib.hid (HD.out.set (p := s) (z := x))
     clear HD
     go_wp2
     go_roundw
     case rel => exact ⟨j + 1, _, by omega, by go_num, HLS, HD2⟩
     case measure => simp [intOf] <;> omega
    ·obtain rfl : j = i + 1 := by omega
     have hdj : decide (((i + 1 : Nat) : Int) < (i : Int) + 1) = false := decide_eq_false (by omega)
     go_wp2
     go_roundw
     case rel => exact ⟨i + 1, vs, by omega, by go_num, Lib.hid (by rw [← mrT_row]; exact HL.out), HD⟩
     case measure => simp [intOf] <;> omega
  ·obtain rfl : i = n := by omega
   have HLF : Hid (LowR i (mirM M) vs) := Lib.hid fun a b ha hb => by rw [← mrT_all ha hb]; exact HL.out a b ha hb
   have HQ := Lib.hid HD.out.done
   obtain ⟨m0, m1, m2, -⟩ := HD.out.m.cells3
   obtain ⟨q0, q1, q2, -⟩ := HD.out.q.cells3
   have f0 := HD.out.q.frozen 0
   have f1 := HD.out.q.frozen 1
   have f2 := HD.out.q.frozen 2
   clear HD HL
   go_wp2
   exact bodyPost_ret (v := MatV i i (.slice xo N xc)) (by simp [results, Tryz.results128, go_sem, q0, q1, q2]) rfl ⟨_, _, _, rfl, (HQ.out _ _ _).1, HLF.out, (HQ.out _ _ _).2⟩
set_option maxRecDepth 100000 in
set_option maxHeartbeats 3200000 in
theorem mirror1_any (mb i j n : Nat) (sl : Value) (l : List Nat) (w : World) (hm : BlkT w mb 25 #[.int .i64 n, .int .i64 n, sl]) (hl : FSl w sl l) (hll : l.length = n * n) (hi : i < n) (hj : j < n) : Calls Tryz.prog 129 #[.int .i64 i, .int .i64 j, .pointer (some ⟨mb, 0, none⟩)] w (Gives (.float .f64 (atN n l i j)) w) := by
 have HAT := Lib.hid (mAt_any i j n _ n sl l w hl rfl (by rw [hll]; exact at_lt hi hj))
 rw [atN_get (by rw [hll]; exact at_lt hi hj)] at HAT
 generalize atN n l i j = x at *
 obtain ⟨m0, m1, m2, -⟩ := hm.cells3
 clear hm hl hll hi hj
 go_enter Tryz.func129, Tryz.ntmps129
 go_wp2_with fail
 refine HAT.out.mono ?_
 rintro e1 w1 ⟨rfl, hb1⟩
 have HB := Lib.hid hb1
 clear hb1 m0 m1 m2
 go_wp2
 go_ret
 exact ⟨rfl, HB.out⟩
set_option maxRecDepth 100000 in
set_option maxHeartbeats 3200000 in
theorem Mirror_any (n : Nat) (sl : Value) (l : List Nat) (w : World) (hl : FSl w sl l) (h0 : evnB n n l = 0) (hn : n ≤ 12) (hll : l.length = n * n) (X : Nat → Nat → Fo) (hX : l = matR n n X) (hF : ∀ i j, finO (X i j) = true) : Calls Tryz.prog 88 #[MatV n n sl] w fun e w' => ∃ u, e = .returned (.tuple #[MatV n n u, .int .i64 0]) ∧ FSl w' u (mirL n l) ∧ (∀ a c d, u = .slice (some a) c d → w.heap.size ≤ a.block) ∧ Below w.heap.size w w' := by
 have HB := Lib.hid (ChB.new w n n sl)
 have HSQ := Lib.hid (msquare_any n n sl l _ (hl.below (below2 w (.cells #[.int .i64 n, .int .i64 n, sl] 25) (.cells #[.int .i64 0, .int .i64 0, .slice none 0 0] 25))))
 rw [h0] at HSQ
 have HRP : Hid (∀ i j, i < n → j < n → Rep (X i j) (atN n l i j)) := Lib.hid fun i j hi hj => by
  have hlt : i * n + j < l.length := by rw [hll]; exact at_lt hi hj
  have h1 : atN n l i j = bitO (X i j) := by rw [hX]; exact matR_at hi hj
  have h2 := hF i j
  have h3 : atN n l i j < 18446744073709551616 := by rw [← atN_get hlt]; exact hl.elem_lt _ (List.getElem_mem hlt)
  cases e : X i j with
  | none => rw [e] at h2; cases h2
  | some x => rw [e] at h1; exact ⟨h3, h1⟩
 have HMI := Lib.hid fun W (hm : BlkT W w.heap.size 25 #[.int .i64 n, .int .i64 n, sl]) (hb : Below w.heap.size w W) => mirrored_any n hn 129 #[.pointer (some ⟨w.heap.size, 0, none⟩)] (atN n l) X W (enters_of Tryz.func129 (by kernel_rfl) rfl) HRP.out (fun i j V hi hj hV => mirror1_any w.heap.size i j n sl l V (hm.below hV) ((hl.below hb).below hV) hll hi hj)
 have HEQ : Hid (∀ vs, LowR n (mirM X) vs → (List.range (n * n)).map vs = mirL n l ∧ ∀ p, p < n * n → vs p < 18446744073709551616) := Lib.hid fun vs h => ⟨by rw [hX, ← mirL_mat]; exact matL_rep h fun i j => by unfold mirM; split <;> exact hF _ _, fun p hp => by
  obtain ⟨h1, h2⟩ := div_ltR hp
  have h3 := (h (p / n) (p % n) h1 h2).lt
  rwa [Nat.mul_comm, Nat.div_add_mod] at h3⟩
 have HNN : Hid (n * n ≤ 4096) := Lib.hid (by have : n * n ≤ 12 * 12 := Nat.mul_le_mul hn hn; omega)
 generalize mirL n l = ml at *
 clear hl h0 hll hX hF HRP
 obtain ⟨⟨m0, m1, m2⟩, ⟨q0, q1, q2⟩, f0, f1, f2⟩ := HB.out.cells
 go_enter Tryz.func88, Tryz.ntmps88
 go_wp2_with fail
 refine HSQ.out.mono ?_
 rintro e1 w1 ⟨rfl, hb1⟩
 replace HB := Lib.hid (HB.out.later hb1)
 clear hb1 m0 m1 m2 q0 q1 q2 f0 f1 f2 HSQ
 obtain ⟨⟨m0, m1, m2⟩, ⟨q0, q1, q2⟩, f0, f1, f2⟩ := HB.out.cells
 go_wp2_with fail
 refine (HMI.out _ HB.out.m HB.out.b).mono ?_
 rintro e2 w2 ⟨xo, xc, vs, rfl, hx, hlo, hb1⟩
 obtain ⟨he1, he2⟩ := HEQ.out vs hlo
 have HGE : Hid (w.heap.size + 1 + 1 ≤ w1.heap.size) := Lib.hid HB.out.q.lt
 replace HB := Lib.hid (HB.out.later hb1)
 have HQ : Hid (∀ (a b c : Value), FSl (((w2.setCell ⟨w.heap.size + 1, 0, none⟩ a).setCell ⟨w.heap.size + 1, 1, none⟩ b).setCell ⟨w.heap.size + 1, 2, none⟩ c) (.slice xo (n * n) xc) ml ∧ Below w.heap.size w (((w2.setCell ⟨w.heap.size + 1, 0, none⟩ a).setCell ⟨w.heap.size + 1, 1, none⟩ b).setCell ⟨w.heap.size + 1, 2, none⟩ c)) := Lib.hid fun a b c => ⟨by
  rw [← he1]
  exact (hx.upd (((Upd.set (b := w.heap.size + 1) (i := 0) a).trans (Upd.set (i := 1) b)).trans (Upd.set (i := 2) c)) (by have := HGE.out; omega)).fsl HNN.out he2, below_three HB.out.b _ (Nat.le_succ _) _ _ _⟩
 have HFR : Hid (∀ a c d, (Value.slice xo (n * n) xc) = .slice (some a) c d → w.heap.size ≤ a.block) := Lib.hid fun a c d e => by have := hx.new a c d e; have := HGE.out; omega
 clear m0 m1 m2 q0 q1 q2 f0 f1 f2 hx hlo hb1 he1 he2 HEQ HMI
 obtain ⟨⟨m0, m1, m2⟩, ⟨q0, q1, q2⟩, f0, f1, f2⟩ := HB.out.cells
 go_wp2
 exact bodyPost_ret (v := .tuple #[MatV n n (.slice xo (n * n) xc), .int .i64 0]) (by simp [results, Tryz.results88, go_sem, q0, q1, q2]) rfl ⟨_, rfl, (HQ.out _ _ _).1, HFR.out, (HQ.out _ _ _).2⟩
end
end Go.Proofs.YtfmecpembnmnkaaGreatDoor
