/- Walk: the references' over, where the divisor has more words than one. -/
import Derived.Test.YtloohbkceppocaaGreatDoorKA
import Derived.Test.YtloohbkceppocaaGreatDoorGO
import Derived.Deep.CutRange
import Derived.Deep.CutBlock
section
namespace Go.Proofs.YtloohbkceppocaaGreatDoor
open Go.RowKit

theorem MSl.own {W : World} {base g n cap N : Nat} (h : MSl W g n cap N) (hb : base ≤ g) (hc : cap ≤ maxLen) : W.ownsRow base 147 1 (.slice (some ⟨g, 0, none⟩) n cap) n (digs N n) := by
  obtain ⟨cur, h1, h2, h3, h4, h5⟩ := h
  refine ⟨by unfold digs; simp, .inr ⟨g, cap, cur, rfl, hb, h1, h3, hc, by omega, ?_⟩⟩
  refine List.ext_getElem? fun i => ?_
  by_cases hi : i < n
  · rw [List.getElem?_take_of_lt (by omega)]
    have := h5 i hi
    unfold digs
    simp [hi]
    simpa using this
  · rw [List.getElem?_eq_none (by simp; omega), List.getElem?_eq_none (by unfold digs; simp; omega)]

theorem Row.grown {k : IntKind} {s b0 m N : Nat} {W V : World} {row : Option Nat} (h : Row k s b0 m N W) (hb : W.grownBy V row) (hne : some b0 ≠ row) : Row k s b0 m N V := by
  obtain ⟨h1, cur, c1, c2, c3⟩ := h
  exact ⟨h1, cur, (hb.block b0 (Array.getElem?_eq_some_iff.1 c1).1 hne).trans c1, c2, c3⟩

theorem bl_shlN {N k : Nat} (h : N ≠ 0) : bl (N * 2 ^ k) = bl N + k := by
  have h1 : bl (N * 2 ^ k) ≤ bl N + k := bl_le_of_lt (by rw [Nat.pow_add]; exact Nat.mul_lt_mul_of_pos_right (lt_bl N) (Nat.two_pow_pos _))
  have h2 := bl_pos h
  rcases Nat.lt_or_ge (bl (N * 2 ^ k)) (bl N + k) with h3 | h3
  · exfalso
    have h4 : N * 2 ^ k < 2 ^ (bl N - 1 + k) := bl_le_iff.1 (by omega)
    rw [Nat.pow_add] at h4
    have h5 := Nat.lt_of_mul_lt_mul_right h4
    have := bl_le_of_lt h5
    omega
  · omega

/-- A word of an old block. -/
def Cel1u (W : World) (b o x : Nat) : Prop := b < W.heap.size ∧ W.cell? ⟨b, o, none⟩ = some (.int .u32 (x : Nat))
theorem Cel1u.below {W V : World} {b o x : Nat} (h : Cel1u W b o x) (hb : Below W.heap.size W V) : Cel1u V b o x := ⟨Nat.lt_of_lt_of_le h.1 hb.size, (hb.cell (p := ⟨b, o, none⟩) h.1).trans h.2⟩

section
variable {P : Program} {L : List Oper} {Q : Exit → Act → World → Prop} {S : World → Prop}

/-- One that only reads, of a value that is not asked. -/
theorem wpPl_skipK {i k : Nat} {o : Oper} {K : Act → World → Prop} {pl : Pl} {a : Act} {w : World} (ho : L[i]? = some o) (hd : o.dst = some k)
    (hQ : ∀ c a' w', Q (.panic c) (a'.put o.dst undef) w' → Q (.panic c) a' w')
    (hw : Region.wanted o (yielded L.toArray a.tmps) = false) (hS : S w)
    (h : wpPl P L.toArray Q S K pl { tmps := a.tmps.setIfInBounds k undef, defers := a.defers } w) : wpPl P L.toArray Q S K (.take i pl) a w := by
  refine ⟨o, undef, getL ho, hQ, .inr ⟨hw, rfl⟩, hS, ?_⟩
  rw [hd]; exact h

end

end Go.Proofs.YtloohbkceppocaaGreatDoor
end

/- Walks: the references' over (whole), QuoRem, Sqrt. -/
section
namespace Go.Proofs.YtloohbkceppocaaGreatDoor
open Go.RowKit

/-- The number that a slice of words holds. -/
def sumD (f : Nat → Nat) : Nat → Nat
  | 0 => 0
  | k + 1 => sumD f k + f k * 2 ^ (32 * k)
def cellN (w : World) (b o : Nat) : Nat := match w.cell? ⟨b, o, none⟩ with | some (.int _ z) => z.toNat | _ => 0
def slNum (w : World) : Value → Nat
  | .slice (some ⟨b, off, none⟩) n _ => sumD (fun i => cellN w b (off + i)) n
  | _ => 0
theorem Raw.num {w : World} {v : Value} {n N : Nat} (h : Raw .u32 32 w v n N) : slNum w v = N := by
  obtain ⟨ao, cap, rfl, -, hN, -, hc⟩ := h
  rcases Nat.eq_zero_or_pos n with rfl | h0
  · have : N = 0 := by simpa using hN
    subst this
    rcases ao with _ | ⟨b, off, _ | s⟩ <;> rfl
  · obtain ⟨b, off, rfl, -, -, hcc⟩ := hc h0
    have key : ∀ k, k ≤ n → sumD (fun i => cellN w b (off + i)) k = N % 2 ^ (32 * k) := by
      intro k
      induction k with
      | zero => intro _; simp [sumD, Nat.mod_one]
      | succ k ih =>
        intro hk
        have hcell : cellN w b (off + k) = dg 32 N k := by unfold cellN; rw [hcc k (by omega)]; rfl
        show sumD (fun i => cellN w b (off + i)) k + cellN w b (off + k) * 2 ^ (32 * k) = _
        rw [ih (by omega), hcell, mod_succ, Nat.mul_comm (dg 32 N k)]
    show sumD (fun i => cellN w b (off + i)) n = N
    rw [key n (Nat.le_refl _), Nat.mod_eq_of_lt hN]

end Go.Proofs.YtloohbkceppocaaGreatDoor
end
