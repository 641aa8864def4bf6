/- Walks: anatomy's formats and fields (numbers of 64 bits). -/
import Derived.Test.YtfcddnccmdjhfaaDoorInt6
namespace Go.Proofs.YtfcddnccmdjhfaaDoor
open Go.RowKit

/-- The format of numbers. -/
def F64 : Value := .agg #[.int .u64 52, .int .i64 2047, .int .i64 1075]

/-- Constants of the format. -/
def kHid : Nat := 4503599627370496
def kSign : Nat := 9223372036854775808
def kInf : Nat := 9218868437227405312
def kNone : Nat := 9221120237041090561
theorem kHid_eq : IntKind.u64.wrap 4503599627370496 = (kHid : Int) := by decide
theorem kSign_eq : IntKind.u64.wrap 9223372036854775808 = (kSign : Int) := by decide
theorem kInf_eq : IntKind.u64.wrap 9218868437227405312 = (kInf : Int) := by decide

def Gives (v : Value) (w : World) (e : Ending) (w' : World) : Prop := e = .returned v ∧ Below w.heap.size w w'

theorem fmt_index (w : World) : (Instr.index 116 (.agg #[.int .u64 52, .int .i64 2047, .int .i64 1075, .int .u64 23, .int .i64 255, .int .i64 150]) (.int .i64 0)).run Tryd.prog w = .ok (.agg #[.int .u64 52, .int .i64 2047, .int .i64 1075]) w := by kernel_rfl

set_option maxRecDepth 100000 in
set_option maxHeartbeats 400000 in
theorem of_any (w : World) :
    Calls Tryd.prog 62 #[.int .i64 0] w (Gives F64 w) := by
  unfold F64
  have hix := fmt_index
  go_enter Tryd.func62, Tryd.ntmps62
  go_wp2
  refine bodyPost_ret (v := .agg #[.int .u64 52, .int .i64 2047, .int .i64 1075]) (by simp [results, Tryd.results62, go_sem]) rfl ⟨rfl, ?_⟩
  exact (Below.refl _ _).alloc (Nat.le_refl _) _

set_option maxRecDepth 100000 in
set_option maxHeartbeats 400000 in
theorem hidden_any (w : World) :
    Calls Tryd.prog 84 #[F64] w (Gives (.int .u64 kHid) w) := by
  unfold F64
  go_enter Tryd.func84, Tryd.ntmps84
  go_wp2
  go_ret
  exact ⟨rfl, Below.alloc_self _ _⟩

set_option maxRecDepth 100000 in
set_option maxHeartbeats 400000 in
theorem sign_any (w : World) :
    Calls Tryd.prog 90 #[F64] w (Gives (.int .u64 kSign) w) := by
  unfold F64
  go_enter Tryd.func90, Tryd.ntmps90
  go_wp2
  go_ret
  exact ⟨rfl, Below.alloc_self _ _⟩

set_option maxRecDepth 100000 in
set_option maxHeartbeats 400000 in
theorem infinite_any (w : World) :
    Calls Tryd.prog 96 #[F64] w (Gives (.int .u64 kInf) w) := by
  unfold F64
  go_enter Tryd.func96, Tryd.ntmps96
  go_wp2
  go_ret
  exact ⟨rfl, Below.alloc_self _ _⟩

/-- The cells of a boxed format. -/
def Fmt3 (w : World) (b : Nat) : Prop := b < w.heap.size ∧ w.cell? ⟨b, 0, none⟩ = some (.int .u64 52) ∧ w.cell? ⟨b, 1, none⟩ = some (.int .i64 2047) ∧ w.cell? ⟨b, 2, none⟩ = some (.int .i64 1075)

theorem Fmt3.new (w : World) (t : Nat) : Fmt3 (w.alloc (.cells #[.int .u64 52, .int .i64 2047, .int .i64 1075] t)) w.heap.size :=
  ⟨by simp, by rw [World.cell?_alloc_new]; rfl, by rw [World.cell?_alloc_new]; rfl, by rw [World.cell?_alloc_new]; rfl⟩

theorem Fmt3.below {w w' : World} {b : Nat} (h : Fmt3 w b) (hb : Below w.heap.size w w') : Fmt3 w' b :=
  ⟨Nat.lt_of_lt_of_le h.1 hb.size, (hb.cell (p := ⟨b, 0, none⟩) h.1).trans h.2.1, (hb.cell (p := ⟨b, 1, none⟩) h.1).trans h.2.2.1, (hb.cell (p := ⟨b, 2, none⟩) h.1).trans h.2.2.2⟩

theorem none_eq : bits .or .u64 (bits .or .u64 (kInf : Int) ((kHid : Int) / 2)) 1 = (kNone : Int) := by decide

set_option maxRecDepth 100000 in
set_option maxHeartbeats 400000 in
theorem none_any (w : World) :
    Calls Tryd.prog 95 #[F64] w (Gives (.int .u64 kNone) w) := by
  have H0 := Lib.hid (Fmt3.new w 99)
  have hi := fun w => infinite_any w
  have hh := fun w => hidden_any w
  have HI := Lib.hid hi
  have HH := Lib.hid hh
  clear hi hh
  unfold F64 at HI HH ⊢
  have HN := Lib.hid none_eq
  go_enter Tryd.func95, Tryd.ntmps95
  go_wp2
  refine wp_region_plan (fun w' : World => w'.cell? ⟨w.heap.size, 0, none⟩ = some (.int .u64 52) ∧ w'.cell? ⟨w.heap.size, 1, none⟩ = some (.int .i64 2047) ∧ w'.cell? ⟨w.heap.size, 2, none⟩ = some (.int .i64 1075)) 9 [(0, true), (2, true), (6, true), (7, true), (8, true), (1, false), (3, false), (4, true), (5, true)] (by kernel_rfl) (by kernel_rfl) ?_
  generalize hW : (w.alloc (Obj.cells #[Value.int .u64 52, Value.int .i64 2047, Value.int .i64 1075] 99)).drew = W
  have HF : Hid (Fmt3 W w.heap.size ∧ Below w.heap.size w W) := by
    subst hW; exact Lib.hid ⟨H0.out.below ((Below.refl _ _).drew), (Below.alloc_self _ _).drew⟩
  have hS : (fun w' : World => w'.cell? ⟨w.heap.size, 0, none⟩ = some (.int .u64 52) ∧ w'.cell? ⟨w.heap.size, 1, none⟩ = some (.int .i64 2047) ∧ w'.cell? ⟨w.heap.size, 2, none⟩ = some (.int .i64 1075)) W := HF.out.1.2
  clear hW
  repeat (refine wpPlan_take (v := ?_) rfl (fun _ _ _ h => h) rfl (fun w' hSw => ?_) hS ?_; rotate_left; focus (go_simp; with_reducible rfl); try simp only [Act.put, List.setIfInBounds_toArray, List.set_cons_zero, List.set_cons_succ])
  refine wpPlan_run rfl fun K' hK => ?_
  go_simp
  refine (HI.out W).mono ?_
  rintro e w1 ⟨rfl, hb1⟩
  have HF1 := Lib.hid (And.intro (HF.out.1.below hb1) (HF.out.2.trans (hb1.mono (by have := HF.out.1.1; omega))))
  refine hK _ _ HF1.out.1.2 ?_
  clear hK K' hS hb1
  have hS : (fun w' : World => w'.cell? ⟨w.heap.size, 0, none⟩ = some (.int .u64 52) ∧ w'.cell? ⟨w.heap.size, 1, none⟩ = some (.int .i64 2047) ∧ w'.cell? ⟨w.heap.size, 2, none⟩ = some (.int .i64 1075)) w1 := HF1.out.1.2
  refine wpPlan_run rfl fun K' hK => ?_
  go_simp
  refine (HH.out w1).mono ?_
  rintro e w2 ⟨rfl, hb2⟩
  have HF2 := Lib.hid (And.intro (HF1.out.1.below hb2) (HF1.out.2.trans (hb2.mono (by have := HF1.out.1.1; omega))))
  refine hK _ _ HF2.out.1.2 ?_
  clear hK K' hS hb2
  have hS : (fun w' : World => w'.cell? ⟨w.heap.size, 0, none⟩ = some (.int .u64 52) ∧ w'.cell? ⟨w.heap.size, 1, none⟩ = some (.int .i64 2047) ∧ w'.cell? ⟨w.heap.size, 2, none⟩ = some (.int .i64 1075)) w2 := HF2.out.1.2
  try simp only [Act.put, List.setIfInBounds_toArray, List.set_cons_zero, List.set_cons_succ]
  repeat (refine wpPlan_take (v := ?_) rfl (fun _ _ _ h => h) rfl (fun w' hSw => ?_) hS ?_; rotate_left; focus (go_simp; with_reducible rfl); try simp only [Act.put, List.setIfInBounds_toArray, List.set_cons_zero, List.set_cons_succ])
  clear hS
  refine wpPlan_nil ?_
  simp only [List.drop_succ_cons, List.drop_zero]
  go_wp2
  rw [HN.out]
  go_ret
  exact ⟨rfl, HF2.out.2⟩

end Go.Proofs.YtfcddnccmdjhfaaDoor
