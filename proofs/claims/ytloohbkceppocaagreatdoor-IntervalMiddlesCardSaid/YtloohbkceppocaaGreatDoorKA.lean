/- Plain: division of long numbers, digit by digit. -/
import Derived.Test.YtloohbkceppocaaGreatDoorGA
import Derived.Test.YtloohbkceppocaaGreatDoorGF
import Derived.Test.YtloohbkceppocaaGreatDoorGC
section
namespace Go.Proofs.YtloohbkceppocaaGreatDoor

theorem pow_digit (s i : Nat) : 2 ^ (s * (i + 1)) = 2 ^ (s * i) * 2 ^ s := by rw [Nat.mul_succ, Nat.pow_add]
theorem pow_sum (s i j : Nat) : 2 ^ (s * (j + i)) = 2 ^ (s * j) * 2 ^ (s * i) := by rw [Nat.mul_add, Nat.pow_add]

/-- One digit of a multiple taken away. -/
theorem less_step {s N U D g C b i j p x y v b' : Nat} (h : N + 2 ^ (s * j) * (g * (D % 2 ^ (s * i))) = U + (C + b) * 2 ^ (s * (j + i))) (hp : p = g * dg s D i + C) (hx : x = dg s N (j + i)) (hy : y = p % 2 ^ s + b) (hv : v + y = x + b' * 2 ^ s) :
    setd s N (j + i) v + 2 ^ (s * j) * (g * (D % 2 ^ (s * (i + 1)))) = U + (p / 2 ^ s + b') * 2 ^ (s * (j + (i + 1))) := by
  have h1 := setd_add s N (j + i) v
  rw [← hx] at h1
  rw [mod_succ, Nat.mul_add g, Nat.mul_add (2 ^ (s * j)), show j + (i + 1) = (j + i) + 1 by omega, pow_digit]
  have e1 : 2 ^ (s * j) * (g * (2 ^ (s * i) * dg s D i)) = g * dg s D i * 2 ^ (s * (j + i)) := by
    rw [pow_sum]
    simp only [Nat.mul_comm, Nat.mul_left_comm, Nat.mul_assoc]
  rw [e1]
  have hq := Nat.div_add_mod p (2 ^ s)
  generalize 2 ^ (s * (j + i)) = Q at *
  generalize 2 ^ (s * j) * (g * (D % 2 ^ (s * i))) = M at *
  generalize p / 2 ^ s = p1 at *
  generalize p % 2 ^ s = p0 at *
  generalize 2 ^ s = B at *
  generalize g * dg s D i = gd at *
  have e2 : (p1 + b') * (Q * B) = (B * p1 + b' * B) * Q := by
    rw [Nat.add_mul, Nat.add_mul, Nat.mul_comm Q B, ← Nat.mul_assoc, ← Nat.mul_assoc, Nat.mul_comm p1 B]
  rw [e2]
  generalize setd s N (j + i) v = N' at *
  -- N' + x Q = N + v Q ; v + y = x + b' B ; p = gd + C = B p1 + p0 ; y = p0 + b
  have e3 : v * Q + y * Q = x * Q + b' * B * Q := by rw [← Nat.add_mul, hv, Nat.add_mul]
  have e4 : B * p1 * Q + p0 * Q = gd * Q + C * Q := by rw [← Nat.add_mul, ← Nat.add_mul, hq, hp]
  have e5 : y * Q = p0 * Q + b * Q := by rw [hy, Nat.add_mul]
  rw [Nat.add_mul] at h ⊢
  omega

theorem less_last {s N U D g C b n j x y v b' : Nat} (hD : D < 2 ^ (s * n)) (h : N + 2 ^ (s * j) * (g * (D % 2 ^ (s * n))) = U + (C + b) * 2 ^ (s * (j + n))) (hx : x = dg s N (j + n)) (hy : y = C + b) (hv : v + y = x + b' * 2 ^ s) :
    setd s N (j + n) v + 2 ^ (s * j) * (g * D) = U + b' * 2 ^ (s * (j + n + 1)) := by
  rw [Nat.mod_eq_of_lt hD] at h
  have h1 := setd_add s N (j + n) v
  rw [← hx] at h1
  rw [pow_digit]
  generalize 2 ^ (s * (j + n)) = Q at *
  generalize 2 ^ s = B at *
  generalize 2 ^ (s * j) * (g * D) = M at *
  generalize setd s N (j + n) v = N' at *
  rw [← hy] at h
  have e3 : v * Q + y * Q = x * Q + b' * B * Q := by rw [← Nat.add_mul, hv, Nat.add_mul]
  have e4 : b' * (Q * B) = b' * B * Q := by rw [Nat.mul_comm Q B, Nat.mul_assoc]
  rw [e4]
  omega

/-- One digit added back. -/
theorem more_step {s N U D C i j t : Nat} (h : N + C * 2 ^ (s * (j + i)) = U + 2 ^ (s * j) * (D % 2 ^ (s * i))) (ht : t = dg s N (j + i) + dg s D i + C) :
    setd s N (j + i) (t % 2 ^ s) + t / 2 ^ s * 2 ^ (s * (j + (i + 1))) = U + 2 ^ (s * j) * (D % 2 ^ (s * (i + 1))) := by
  have h1 := setd_add s N (j + i) (t % 2 ^ s)
  rw [mod_succ, Nat.mul_add (2 ^ (s * j)), show j + (i + 1) = (j + i) + 1 by omega, pow_digit]
  have e1 : 2 ^ (s * j) * (2 ^ (s * i) * dg s D i) = dg s D i * 2 ^ (s * (j + i)) := by
    rw [pow_sum, ← Nat.mul_assoc, Nat.mul_comm]
  rw [e1]
  have hq := Nat.div_add_mod t (2 ^ s)
  generalize 2 ^ (s * (j + i)) = Q at *
  generalize 2 ^ (s * j) * (D % 2 ^ (s * i)) = M at *
  generalize t / 2 ^ s = t1 at *
  generalize t % 2 ^ s = t0 at *
  generalize 2 ^ s = B at *
  generalize dg s D i = d at *
  generalize dg s N (j + i) = x at *
  generalize setd s N (j + i) t0 = N' at *
  have e2 : t1 * (Q * B) = B * t1 * Q := by rw [Nat.mul_comm Q B, ← Nat.mul_assoc, Nat.mul_comm t1 B]
  have e3 : B * t1 * Q + t0 * Q = x * Q + d * Q + C * Q := by rw [← Nat.add_mul, hq, ht, Nat.add_mul, Nat.add_mul]
  rw [e2]
  omega

theorem more_last {s N U D C n j x : Nat} (hD : D < 2 ^ (s * n)) (h : N + C * 2 ^ (s * (j + n)) = U + 2 ^ (s * j) * (D % 2 ^ (s * n))) (hx : x = dg s N (j + n)) :
    setd s N (j + n) ((x + C) % 2 ^ s) + (x + C) / 2 ^ s * 2 ^ (s * (j + n + 1)) = U + 2 ^ (s * j) * D := by
  rw [Nat.mod_eq_of_lt hD] at h
  have h1 := setd_add s N (j + n) ((x + C) % 2 ^ s)
  rw [← hx] at h1
  rw [pow_digit]
  have hq := Nat.div_add_mod (x + C) (2 ^ s)
  generalize 2 ^ (s * (j + n)) = Q at *
  generalize 2 ^ (s * j) * D = M at *
  generalize (x + C) / 2 ^ s = t1 at *
  generalize (x + C) % 2 ^ s = t0 at *
  generalize 2 ^ s = B at *
  generalize setd s N (j + n) t0 = N' at *
  have e2 : t1 * (Q * B) = B * t1 * Q := by rw [Nat.mul_comm Q B, ← Nat.mul_assoc, Nat.mul_comm t1 B]
  have e3 : B * t1 * Q + t0 * Q = x * Q + C * Q := by rw [← Nat.add_mul, hq, Nat.add_mul]
  rw [e2]
  omega

end Go.Proofs.YtloohbkceppocaaGreatDoor
end

/- A slice of words that is written in place; walks of the references' less and more. -/
section
namespace Go.Proofs.YtloohbkceppocaaGreatDoor
open Go.RowKit

/-- A slice of n words at the beginning of a block, with room for more: it holds N. -/
def MSl (W : World) (g n cap N : Nat) : Prop :=
  ∃ cur : Array Value, W.heap[g]? = some (.cells cur 147 (0, 0)) ∧ cur.size = cap ∧ n ≤ cap ∧ N < 2 ^ (32 * n) ∧ ∀ i, i < n → cur[i]? = some (.int .u32 (dg 32 N i : Nat))

theorem MSl.lt {W : World} {g n cap N : Nat} (h : MSl W g n cap N) : g < W.heap.size := by
  obtain ⟨cur, h1, -⟩ := h
  exact (Array.getElem?_eq_some_iff.1 h1).1
theorem MSl.cell {W : World} {g n cap N i : Nat} (h : MSl W g n cap N) (hi : i < n) : W.cell? ⟨g, i, none⟩ = some (.int .u32 (dg 32 N i : Nat)) := by
  obtain ⟨cur, h1, -, -, -, h5⟩ := h
  rw [cell_of_row W g i cur _ _ h1]
  exact h5 i hi
theorem MSl.frozen {W : World} {g n cap N : Nat} (h : MSl W g n cap N) (i : Nat) : W.frozen? ⟨g, i, none⟩ = false := by
  obtain ⟨cur, h1, -⟩ := h
  exact frozen_of_row W g i cur _ h1
theorem MSl.fit {W : World} {g n cap N : Nat} (h : MSl W g n cap N) : N < 2 ^ (32 * n) := by obtain ⟨cur, -, -, -, h4, -⟩ := h; exact h4
theorem MSl.room {W : World} {g n cap N : Nat} (h : MSl W g n cap N) : n ≤ cap := by obtain ⟨cur, -, -, h3, -⟩ := h; exact h3
theorem MSl.set {W : World} {g n cap N i v : Nat} (h : MSl W g n cap N) (hv : v < 4294967296) (hi : i < n) : MSl (W.setCell ⟨g, i, none⟩ (.int .u32 (v : Nat))) g n cap (setd 32 N i v) := by
  obtain ⟨cur, h1, h2, h3, h4, h5⟩ := h
  have hv' : v < 2 ^ 32 := hv
  refine ⟨cur.setIfInBounds i (.int .u32 (v : Nat)), heap_setCell_same W g i cur _ _ h1, by simpa using h2, h3, setd_lt hv' h4 hi, fun j hj => ?_⟩
  rw [dg_setd hv', Array.getElem?_setIfInBounds]
  by_cases e : i = j
  · subst e
    rw [if_pos rfl, if_pos rfl, if_pos (by omega)]
  · rw [if_neg e, if_neg (fun t => e t.symm)]
    exact h5 j hj
theorem MSl.of_block {W V : World} {g n cap N : Nat} (h : MSl W g n cap N) (e : V.heap[g]? = W.heap[g]?) : MSl V g n cap N := by
  obtain ⟨cur, h1, h2⟩ := h
  exact ⟨cur, e.trans h1, h2⟩
theorem MSl.below {W V : World} {g n cap N : Nat} (h : MSl W g n cap N) (hb : Below W.heap.size W V) : MSl V g n cap N := h.of_block (hb.block g h.lt)
theorem MSl.grown {W V : World} {g n cap N : Nat} {row : Option Nat} (h : MSl W g n cap N) (hb : W.grownBy V row) (hne : some g ≠ row) : MSl V g n cap N := h.of_block (hb.block g h.lt hne)
theorem MSl.raw {W : World} {g n cap N : Nat} (h : MSl W g n cap N) (hn : n ≤ 1099511627776) : Raw .u32 32 W (.slice (some ⟨g, 0, none⟩) n cap) n N := by
  refine ⟨_, cap, rfl, h.room, h.fit, hn, fun h0 => ⟨g, 0, rfl, h.lt, ?_, fun i hi => by rw [Nat.zero_add]; exact h.cell hi⟩⟩
  obtain ⟨cur, h1, -⟩ := h
  exact ⟨cur, _, h1⟩
theorem MSl.of_row {W : World} {b0 m n N : Nat} (h : Row .u32 32 b0 m N W) (hn : n ≤ m) (hN : N < 2 ^ (32 * n)) : MSl W b0 n m N := by
  obtain ⟨h1, cur, h2, h3, h4⟩ := h
  exact ⟨cur, h2, h3, hn, hN, fun i hi => h4 i (by omega)⟩

theorem grown_set {w W : World} {g i : Nat} {v : Value} (h : w.grownBy W (some g)) : w.grownBy (W.setCell ⟨g, i, none⟩ v) (some g) :=
  ⟨h.os, h.tape, h.output, by simpa using h.size, fun k hk hne => (heap_setCell_other W ⟨g, i, none⟩ k v (fun e => hne (by rw [e]))).trans (h.block k hk hne)⟩
/-- What less answers. -/
def KlAns (gu nu cu U D j n g : Nat) (w : World) (e : Ending) (w' : World) : Prop :=
  ∃ N b, e = .returned (.bool (decide (b = 1))) ∧ b ≤ 1 ∧ N + 2 ^ (32 * j) * (g * D) = U + b * 2 ^ (32 * (j + n + 1)) ∧ N < 2 ^ (32 * (j + n + 1)) ∧ MSl w' gu nu cu N ∧ w.grownBy w' (some gu)

def KlRel (gu nu cu U D j n g i C b N : Nat) (w W : World) : Prop :=
  C < 4294967296 ∧ b ≤ 1 ∧ N + 2 ^ (32 * j) * (g * (D % 2 ^ (32 * i))) = U + (C + b) * 2 ^ (32 * (j + i)) ∧ N < 2 ^ (32 * (j + n + 1)) ∧ MSl W gu nu cu N ∧ w.grownBy W (some gu)

theorem KlRel.step {gu nu cu U D j n g i C b N : Nat} {w W : World} (h : KlRel gu nu cu U D j n g i C b N w W) (hi : i < n) (hj : j + n < nu) (hg : g < 4294967296) {p x y v b' : Nat}
    (hp : p = g * dg 32 D i + C) (hx : x = dg 32 N (j + i)) (hy : y = p % 4294967296 + b) (hv : v + y = x + b' * 4294967296) (hv2 : v < 4294967296) (hb : b' ≤ 1) :
    KlRel gu nu cu U D j n g (i + 1) (p / 4294967296) b' (setd 32 N (j + i) v) w (W.setCell ⟨gu, j + i, none⟩ (.int .u32 (v : Nat))) := by
  obtain ⟨h1, h2, h3, h4, h5, h6⟩ := h
  refine ⟨?_, hb, less_step (s := 32) h3 hp hx hy hv, setd_lt (show v < 2 ^ 32 from hv2) h4 (by omega), h5.set hv2 (by omega), grown_set h6⟩
  have hd : dg 32 D i < 4294967296 := dg32_lt D i
  have : g * dg 32 D i ≤ 4294967295 * 4294967295 := Nat.mul_le_mul (by omega) (by omega)
  omega

theorem KlRel.last {gu nu cu U D j n g C b N : Nat} {w W : World} (h : KlRel gu nu cu U D j n g n C b N w W) (hD : D < 2 ^ (32 * n)) (hj : j + n < nu) {x y v b' : Nat}
    (hx : x = dg 32 N (j + n)) (hy : y = C + b) (hv : v + y = x + b' * 4294967296) (hv2 : v < 4294967296) (hb : b' ≤ 1) :
    KlAns gu nu cu U D j n g w (.returned (.bool (decide (b' = 1)))) (W.setCell ⟨gu, j + n, none⟩ (.int .u32 (v : Nat))) := by
  obtain ⟨h1, h2, h3, h4, h5, h6⟩ := h
  exact ⟨_, b', rfl, hb, less_last (s := 32) hD h3 hx hy hv, setd_lt (show v < 2 ^ 32 from hv2) h4 (by omega), h5.set hv2 (by omega), grown_set h6⟩

end Go.Proofs.YtloohbkceppocaaGreatDoor
end

/- Walks: the references' less and more: a multiple of the divisor taken away in place, the divisor added back. -/
section
namespace Go.Proofs.YtloohbkceppocaaGreatDoor
open Go.RowKit

/-- What more leaves. -/
def KmAns (gu nu cu U D j n : Nat) (w w' : World) : Prop :=
  ∃ N c, N + c * 2 ^ (32 * (j + n + 1)) = U + 2 ^ (32 * j) * D ∧ N < 2 ^ (32 * (j + n + 1)) ∧ MSl w' gu nu cu N ∧ w.grownBy w' (some gu)

def KmRel (gu nu cu U D j n i C N : Nat) (w W : World) : Prop :=
  C ≤ 1 ∧ N + C * 2 ^ (32 * (j + i)) = U + 2 ^ (32 * j) * (D % 2 ^ (32 * i)) ∧ N < 2 ^ (32 * (j + n + 1)) ∧ MSl W gu nu cu N ∧ w.grownBy W (some gu)
theorem KmRel.step {gu nu cu U D j n i C N : Nat} {w W : World} (h : KmRel gu nu cu U D j n i C N w W) (hi : i < n) (hj : j + n < nu) {t v C' : Nat}
    (ht : t = dg 32 N (j + i) + dg 32 D i + C) (hv : v = t % 4294967296) (hC : C' = t / 4294967296) :
    KmRel gu nu cu U D j n (i + 1) C' (setd 32 N (j + i) v) w (W.setCell ⟨gu, j + i, none⟩ (.int .u32 (v : Nat))) := by
  obtain ⟨h1, h3, h4, h5, h6⟩ := h
  have d1 := dg32_lt D i
  have d2 := dg32_lt N (j + i)
  have hv2 : v < 4294967296 := by omega
  subst hv hC
  exact ⟨by omega, more_step (s := 32) h3 ht, setd_lt (show t % 4294967296 < 2 ^ 32 from hv2) h4 (by omega), h5.set hv2 (by omega), grown_set h6⟩

theorem KmRel.last {gu nu cu U D j n C N : Nat} {w W : World} (h : KmRel gu nu cu U D j n n C N w W) (hD : D < 2 ^ (32 * n)) (hj : j + n < nu) {x v : Nat}
    (hx : x = dg 32 N (j + n)) (hv : v = (x + C) % 4294967296) : KmAns gu nu cu U D j n w (W.setCell ⟨gu, j + n, none⟩ (.int .u32 (v : Nat))) := by
  obtain ⟨h1, h3, h4, h5, h6⟩ := h
  have hv2 : v < 4294967296 := by omega
  subst hv
  exact ⟨_, _, more_last (s := 32) hD h3 hx, setd_lt (show (x + C) % 4294967296 < 2 ^ 32 from hv2) h4 (by omega), h5.set hv2 (by omega), grown_set h6⟩

end Go.Proofs.YtloohbkceppocaaGreatDoor
end

/- Plain: one digit of a quotient: what the guess comes to. -/
section
namespace Go.Proofs.YtloohbkceppocaaGreatDoor
open Go.RowKit

/-- What a round of the quotient begins with: k digits are still to come. -/
structure OverRel (U D n k nu cu gu gd cd gq m N Q : Nat) (w W : World) : Prop where
  sum : U = Q * D + N
  low : N < D * 2 ^ (32 * k)
  zero : Q % 2 ^ (32 * k) = 0
  u : MSl W gu nu cu N
  d : MSl W gd n cd D
  q : Row .u32 32 gq m Q W
  below : Below w.heap.size w W

theorem setd_zero {s Q k g : Nat} (hz : Q % 2 ^ (s * (k + 1)) = 0) : setd s Q k g = Q + g * 2 ^ (s * k) ∧ (g < 2 ^ s → (Q + g * 2 ^ (s * k)) % 2 ^ (s * k) = 0) := by
  have h1 := setd_add s Q k g
  obtain ⟨c, hc⟩ := Nat.dvd_of_mod_eq_zero hz
  have h4 : dg s Q k = 0 := by
    unfold dg
    rw [hc, pow_digit, Nat.mul_assoc, Nat.mul_div_cancel_left _ (Nat.two_pow_pos _), Nat.mul_mod_right]
  rw [h4, Nat.zero_mul, Nat.add_zero] at h1
  refine ⟨h1, fun _ => ?_⟩
  rw [hc, pow_digit, Nat.mul_assoc, Nat.mul_comm g, ← Nat.mul_add, Nat.mul_mod_right]

/-- A round's end: the digit g stands in its place. -/
theorem OverRel.next {U D n k nu cu gu gd cd gq m N Q g N' : Nat} {w W V : World} (h : OverRel U D n (k + 1) nu cu gu gd cd gq m N Q w W) (hk : k < m) (hg : g < 4294967296) (hs : N = g * 2 ^ (32 * k) * D + N') (hl : N' < D * 2 ^ (32 * k))
    (hu : MSl V gu nu cu N') (hV : W.grownBy V (some gu)) (hdu : gd ≠ gu) (hqu : gq ≠ gu) (hgu : w.heap.size ≤ gu) (hgq : w.heap.size ≤ gq) (hug : gu ≠ gq) (hdg : gd ≠ gq) :
    OverRel U D n k nu cu gu gd cd gq m N' (Q + g * 2 ^ (32 * k)) w (V.setCell ⟨gq, k, none⟩ (.int .u32 (g : Nat))) := by
  obtain ⟨e1, e2⟩ := setd_zero (g := g) h.zero
  have hq : Row .u32 32 gq m Q V := ⟨h.q.1, by
    obtain ⟨cur, c1, c2, c3⟩ := h.q.2
    exact ⟨cur, (hV.block gq (Array.getElem?_eq_some_iff.1 c1).1 (by simpa using hqu)).trans c1, c2, c3⟩⟩
  refine ⟨?_, hl, e2 hg, hu.of_block (heap_setCell_other V ⟨gq, k, none⟩ gu _ hug), (h.d.grown hV (by simpa using hdu)).of_block (heap_setCell_other V ⟨gq, k, none⟩ gd _ hdg), ?_, ((h.below.grown hV h.below.size (fun j hj => by cases hj; exact hgu)).setCell hgq _)⟩
  · rw [h.sum, hs, Nat.add_mul]; omega
  · rw [← e1]; exact hq.set hg hk

end Go.Proofs.YtloohbkceppocaaGreatDoor
end
