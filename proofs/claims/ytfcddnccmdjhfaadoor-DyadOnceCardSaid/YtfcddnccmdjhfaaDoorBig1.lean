/- Walks: big's digits. -/
import Derived.Test.YtfcddnccmdjhfaaDoorBits
import Derived.Deep.OwnRows
namespace Go.Proofs.YtfcddnccmdjhfaaDoor
open Go.RowKit

/-- Block b is a row of cells of type t. -/
def Elem (w : World) (b t : Nat) : Prop := ∃ c fr, w.heap[b]? = some (.cells c t fr)

/-- The type of a word's kind. -/
def ety : IntKind → Nat
  | .u64 => 22
  | .u32 => 36
  | .u8 => 5
  | .i64 => 3
  | _ => 0

/-- The slice value v of n cells holds the lower n digits (to the base 2^s) of N in w; N has no more. -/
def Raw (k : IntKind) (s : Nat) (w : World) (v : Value) (n N : Nat) : Prop :=
  ∃ ao cap, v = .slice ao n cap ∧ n ≤ cap ∧ N < 2 ^ (s * n) ∧ n ≤ 1099511627776 ∧
    (0 < n → ∃ b off, ao = some ⟨b, off, none⟩ ∧ b < w.heap.size ∧ Elem w b (ety k) ∧ ∀ i, i < n → w.cell? ⟨b, off + i, none⟩ = some (.int k (dg s N i : Nat)))

theorem Elem.of_block {w w' : World} {b t : Nat} (h : Elem w b t) (e : w'.heap[b]? = w.heap[b]?) : Elem w' b t := by
  obtain ⟨c, fr, h⟩ := h
  exact ⟨c, fr, e.trans h⟩

theorem Raw.below {k : IntKind} {s : Nat} {w w' : World} {v : Value} {n N : Nat} (h : Raw k s w v n N) (hb : Below w.heap.size w w') : Raw k s w' v n N := by
  obtain ⟨ao, cap, hv, hcap, hN, hn, hc⟩ := h
  refine ⟨ao, cap, hv, hcap, hN, hn, fun h0 => ?_⟩
  obtain ⟨b, off, e, hlt, he, hc⟩ := hc h0
  exact ⟨b, off, e, Nat.lt_of_lt_of_le hlt hb.size, he.of_block (hb.block b hlt), fun i hi => (hb.cell (p := ⟨b, off + i, none⟩) hlt).trans (hc i hi)⟩

set_option maxRecDepth 100000 in
set_option maxHeartbeats 400000 in
theorem digit_any (v : Value) (n N i : Nat) (w : World) (h : Raw .u64 64 w v n N) (hi : i ≤ 1099511627776) :
    Calls Tryd.prog 78 #[v, .int .i64 i] w fun e w' => e = .returned (.int .u64 (dg 64 N i : Nat)) ∧ w = w' := by
  obtain ⟨ao, cap, rfl, hcap, hN, hn, hc⟩ := h
  by_cases hlt : i < n
  · obtain ⟨b, off, rfl, hb, -, hc⟩ := hc (by omega)
    have hci := hc i hlt
    clear hc
    go_enter Tryd.func78, Tryd.ntmps78
    go_wp2
    go_ret
    exact ⟨rfl, rfl⟩
  · have hz := dg_beyond (i := i) hN (by omega)
    rw [hz]
    clear hz hc
    go_enter Tryd.func78, Tryd.ntmps78
    go_wp2
    go_ret
    exact ⟨rfl, rfl⟩

theorem digit_at (v : Value) (n N i : Nat) (z : Int) (w : World) (h : Raw .u64 64 w v n N) (hi : i ≤ 1099511627776) (hz : z = i) :
    Calls Tryd.prog 78 #[v, .int .i64 z] w fun e w' => e = .returned (.int .u64 (dg 64 N i : Nat)) ∧ w = w' := by
  subst hz; exact digit_any v n N i w h hi

def ReadsAs (k : IntKind) (s : Nat) (n N : Nat) (w : World) (e : Ending) (w' : World) : Prop := ∃ v, e = .returned v ∧ w = w' ∧ Raw k s w v n N

set_option maxRecDepth 100000 in
set_option maxHeartbeats 400000 in
theorem norm_any (v : Value) (n N : Nat) (w : World) (h : Raw .u64 64 w v n N) :
    Calls Tryd.prog 73 #[v] w (ReadsAs .u64 64 (ln 64 N) N w) := by
  obtain ⟨ao, cap, rfl, hcap, hN, hn, hc⟩ := h
  have H : Hid (∀ k, k ≤ n → N < 2 ^ (64 * k) → ReadsAs .u64 64 (ln 64 N) N w (.returned (.slice ao (ln 64 N) cap)) w) := by
    refine Lib.hid fun k hk hNk => ?_
    have hl : ln 64 N ≤ n := (ln_le_iff (by decide)).2 hN
    refine ⟨_, rfl, rfl, ao, cap, rfl, by omega, lt_ln (by decide), by omega, fun h0 => ?_⟩
    obtain ⟨b, off, e, hb, he, hc⟩ := hc (by omega)
    exact ⟨b, off, e, hb, he, fun i hi => hc i (by omega)⟩
  have HC : Hid _ := Lib.hid hc
  have HN := Lib.hid hN
  clear hc hN
  go_enter Tryd.func73, Tryd.ntmps73
  go_wp2
  go_loop [3] (fun i => ∃ k : Nat, k ≤ n ∧ i = .int .i64 k ∧ N < 2 ^ (64 * k)) (fun i => (intOf i).toNat)
  case atStart => exact ⟨n, Nat.le_refl _, rfl, HN.out⟩
  case round =>
    obtain ⟨k, hk, rfl, hNk⟩ := hrel
    have HK := Lib.hid hNk
    clear hNk
    by_cases hk0 : 0 < k
    · obtain ⟨b, off, rfl, hb, -, hc⟩ := HC.out (by omega)
      have hcell := hc (k - 1) (by omega)
      by_cases hd : dg 64 N (k - 1) = 0
      · rw [hd] at hcell
        clear hc
        go_wp2
        go_round
        case rel =>
          refine ⟨k - 1, by omega, by go_num, ?_⟩
          refine lt_of_dg HK.out fun i h1 h2 => ?_
          have : i = k - 1 := by omega
          subst this; exact hd
        case measure => simp [intOf]; omega
      · have hne : ((dg 64 N (k - 1) : Nat) == (0 : Int)) = false := by simp; omega
        have e : ln 64 N = k := by
          have h1 : ln 64 N ≤ k := (ln_le_iff (by decide)).2 HK.out
          rcases Nat.lt_or_ge (ln 64 N) k with h2 | h2
          · exact absurd (dg_beyond (lt_ln (s := 64) (N := N) (by decide)) (by omega)) hd
          · omega
        have HR := Lib.hid (H.out k hk HK.out)
        rw [e] at HR
        have HE := Lib.hid e
        clear hc hd H e
        go_wp2
        go_ret
        rw [HE.out]
        exact HR.out
    · obtain rfl : k = 0 := by omega
      have h0 : N = 0 := by have := HK.out; simp at this; omega
      have e : ln 64 N = 0 := by subst h0; exact ln_zero 64
      have HR := Lib.hid (H.out 0 hk HK.out)
      rw [e] at HR
      have HE := Lib.hid e
      clear H h0 e
      go_wp2
      go_ret
      rw [HE.out]
      exact HR.out

theorem Tryd.info22 : (Tryd.prog.info? 22).map (fun i => (i.zero, i.size, i.bytes)) = some (some (.int .u64 0), 1, 8) := by kernel_rfl

theorem _root_.Go.World.rowIs.elem {w : World} {b t n : Nat} {f : Nat → Value} (h : w.rowIs b t n f) : Elem w b t := by
  obtain ⟨c, h, -⟩ := h
  exact ⟨c, _, h⟩

/-- A row of the call's own whose cells are the digits of N reads as N's digits. -/
theorem Raw.of_row {s : Nat} {w : World} {b n N : Nat} {k : IntKind} {f : Nat → Value} (h : w.rowIs b (ety k) n f) (hf : ∀ i, i < n → f i = .int k (dg s N i : Nat)) (hN : N < 2 ^ (s * n)) (hn : n ≤ 1099511627776) :
    Raw k s w (.slice (some ⟨b, 0, none⟩) n n) n N :=
  ⟨_, _, rfl, Nat.le_refl _, hN, hn, fun _ => ⟨b, 0, rfl, h.lt, h.elem, fun i hi => by rw [Nat.zero_add, h.cell hi, hf i hi]⟩⟩

def Makes (k : IntKind) (s : Nat) (n N : Nat) (w : World) (e : Ending) (w' : World) : Prop := ∃ v, e = .returned v ∧ Below w.heap.size w w' ∧ Raw k s w' v n N

theorem Makes.mk {k : IntKind} {s n N : Nat} {w w' : World} {v : Value} (hb : Below w.heap.size w w') (h : Raw k s w' v n N) : Makes k s n N w (.returned v) w' := ⟨v, rfl, hb, h⟩

theorem dg64_lt (N i : Nat) : dg 64 N i < 18446744073709551616 := dg_lt 64 N i
theorem two64 : (2 : Nat) ^ 64 = 18446744073709551616 := by decide

/-- After k digits of a sum: what the row holds, and the carry. -/
def SumRel (X Y m b0 k C : Nat) (wr : World) : Prop :=
  C ≤ 1 ∧ X % 2 ^ (64 * k) + Y % 2 ^ (64 * k) = (X + Y) % 2 ^ (64 * k) + C * 2 ^ (64 * k) ∧
    wr.rowIs b0 (ety .u64) m (fun j => .int .u64 ((if j < k then dg 64 (X + Y) j else 0 : Nat)))

theorem SumRel.step {X Y m b0 k C : Nat} {wr : World} (h : SumRel X Y m b0 k C wr) :
    SumRel X Y m b0 (k + 1) (hi64 (dg 64 X k + dg 64 Y k + C)) (wr.setCell ⟨b0, k, none⟩ (.int .u64 (lo64 (dg 64 X k + dg 64 Y k + C) : Nat))) := by
  obtain ⟨h1, h2, h3⟩ := h
  have h4 := add_step h2
  rw [two64] at h4
  have hx := dg64_lt X k
  have hy := dg64_lt Y k
  refine ⟨by unfold hi64; omega, h4.2, ?_⟩
  refine (h3.set k _).congr fun i hi => ?_
  unfold lo64
  rw [h4.1]
  by_cases e : i = k
  · subst e; simp
  · rw [if_neg e]
    by_cases e2 : i < k
    · rw [if_pos e2, if_pos (by omega)]
    · rw [if_neg e2, if_neg (by omega)]

theorem SumRel.last {X Y m b0 C : Nat} {wr : World} (hX : X < 2 ^ (64 * m)) (hY : Y < 2 ^ (64 * m)) (hm : m + 1 ≤ 1099511627776) (h : SumRel X Y (m + 1) b0 m C wr) :
    Raw .u64 64 (wr.setCell ⟨b0, m, none⟩ (.int .u64 C)) (.slice (some ⟨b0, 0, none⟩) (m + 1) (m + 1)) (m + 1) (X + Y) := by
  obtain ⟨h1, h2, h3⟩ := h
  have h4 := add_last hX hY h2 (by omega)
  refine Raw.of_row (h3.set m _) (fun i hi => ?_) ?_ hm
  · by_cases e : i = m
    · subst e; simp [h4]
    · rw [if_neg e, if_pos (by omega)]
  · rw [Nat.mul_succ, Nat.pow_add]; omega

set_option maxRecDepth 100000 in
set_option maxHeartbeats 400000 in
theorem sum_any (vx vy : Value) (nx ny X Y : Nat) (w : World) (hx : Raw .u64 64 w vx nx X) (hy : Raw .u64 64 w vy ny Y) (hn : nx ≤ 274877906944 ∧ ny ≤ 274877906944) :
    Calls Tryd.prog 72 #[vx, vy] w (Makes .u64 64 (ln 64 (X + Y)) (X + Y) w) := by
  have HX := Lib.hid hx
  have HY := Lib.hid hy
  have hX : X < 2 ^ (64 * nx) := by obtain ⟨_, _, _, _, h, _⟩ := hx; exact h
  have hY : Y < 2 ^ (64 * ny) := by obtain ⟨_, _, _, _, h, _⟩ := hy; exact h
  obtain ⟨m, hm1, hm2, hm3, hif⟩ : ∃ m, nx ≤ m ∧ ny ≤ m ∧ m ≤ 274877906944 ∧ max (nx : Int) (ny : Int) = (m : Int) := by
    by_cases h : nx < ny
    · exact ⟨ny, by omega, by omega, by omega, by omega⟩
    · exact ⟨nx, by omega, by omega, by omega, by omega⟩
  have HL : Hid (X < 2 ^ (64 * m) ∧ Y < 2 ^ (64 * m)) := by
    exact Lib.hid ⟨Nat.lt_of_lt_of_le hX (Nat.pow_le_pow_right (by decide) (by omega)), Nat.lt_of_lt_of_le hY (Nat.pow_le_pow_right (by decide) (by omega))⟩
  clear hX hY
  have hmk := run_make_row' (P := Tryd.prog) 58 22 (.int .u64 0) 8 Tryd.underlying58 Tryd.info22 rfl .i64 .i64 (m + 1) (by omega) (by omega)
  rw [show ((m + 1 : Nat) : Int) = (m : Int) + 1 from by omega] at hmk
  obtain ⟨ax, cx, rfl, -⟩ := hx
  obtain ⟨ay, cy, rfl, -⟩ := hy
  go_enter Tryd.func72, Tryd.ntmps72
  go_wp2
  clear hif hmk
  have hR : SumRel X Y (m + 1) w.heap.size 0 0 (w.alloc (.cells (madeCells #[.int .u64 0] (m + 1)) 22)) := by
    refine ⟨by omega, by simp [Nat.mod_one], (World.rowIs_made _ _ _ _).congr fun i hi => by simp⟩
  have HR := Lib.hid hR
  clear hR
  go_loopw [7, 18] (fun c i wr => ∃ k C : Nat, k ≤ m ∧ i = .int .i64 k ∧ c = .int .u64 C ∧ Hid (SumRel X Y (m + 1) w.heap.size k C wr) ∧ Below w.heap.size w wr)
    (fun _ i _ => m - (intOf i).toNat)
  case atStart => exact ⟨0, 0, Nat.zero_le _, rfl, rfl, HR, (Below.refl _ _).alloc (Nat.le_refl _) _⟩
  case round =>
    obtain ⟨k, C, hk, rfl, rfl, HR, hbel⟩ := hrel
    have hC := HR.out.1
    have hrow := HR.out.2.2
    have hs := hrow.lt
    by_cases hlt : k < m
    · have hadd := add64_eq (dg 64 X k) (dg 64 Y k) C hC
      have hf := hrow.frozen k
      have hck : ∃ v, wr.cell? ⟨w.heap.size, k, none⟩ = some v := ⟨_, hrow.cell (by omega)⟩
      obtain ⟨v0, hck⟩ := hck
      have HB := Lib.hid hbel
      clear hrow hbel
      go_wp2_with fail
      refine (digit_any _ _ X k _ (HX.out.below HB.out) (by omega)).mono ?_
      rintro e w1 ⟨rfl, rfl⟩
      go_wp2_with fail
      refine (digit_any _ _ Y k _ (HY.out.below HB.out) (by omega)).mono ?_
      rintro e w1 ⟨rfl, rfl⟩
      go_wp2_with fail
      go_roundw
      case rel => exact ⟨k + 1, _, by omega, by go_num, rfl, Lib.hid HR.out.step, HB.out.setCell (Nat.le_refl _) _⟩
      case measure => simp [intOf]; omega
    · obtain rfl : k = m := by omega
      have hf := hrow.frozen k
      have hck : ∃ v, wr.cell? ⟨w.heap.size, k, none⟩ = some v := ⟨_, hrow.cell (by omega)⟩
      obtain ⟨v0, hck⟩ := hck
      have HB := Lib.hid hbel
      clear hrow hbel
      go_wp2_with fail
      refine (norm_any _ _ (X + Y) _ (SumRel.last HL.out.1 HL.out.2 (by omega) HR.out)).mono ?_
      rintro e w1 ⟨v, rfl, rfl, hraw⟩
      have HRaw := Lib.hid hraw
      clear hraw
      go_wp2
      go_ret
      exact ⟨v, rfl, HB.out.setCell (Nat.le_refl _) _, HRaw.out⟩

end Go.Proofs.YtfcddnccmdjhfaaDoor
