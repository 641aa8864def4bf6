/- Own blocks in a list: what a law has made and what it holds. -/
import Derived.Test.YtloohbkceppocaaGreatDoorIG
import Derived.Test.YtloohbkceppocaaGreatDoorGC
import Derived.Test.YtloohbkceppocaaGreatDoorHB
namespace Go.Proofs.YtloohbkceppocaaGreatDoor
open Go.RowKit
def Bks (w0 W : World) (l : List (Nat × Nat × Array Value)) : Prop := (∀ t ∈ l, BlkT W t.1 t.2.1 t.2.2) ∧ Below w0.heap.size w0 W
theorem Bks.nil (w : World) : Bks w w [] := ⟨fun _ h => (by cases h), Below.refl _ _⟩
theorem Bks.later {w0 W V : World} {l : List (Nat × Nat × Array Value)} (h : Bks w0 W l) (hb : Below W.heap.size W V) : Bks w0 V l := ⟨fun t m => (h.1 t m).below hb, h.2.trans (hb.mono h.2.size)⟩
theorem Bks.size {w0 W : World} {l : List (Nat × Nat × Array Value)} (h : Bks w0 W l) : w0.heap.size ≤ W.heap.size := h.2.size
theorem Bks.lt {w0 W : World} {l : List (Nat × Nat × Array Value)} (h : Bks w0 W l) : ∀ t ∈ l, t.1 < W.heap.size := fun t m => (h.1 t m).lt
theorem Bks.get {w0 W : World} {l : List (Nat × Nat × Array Value)} (h : Bks w0 W l) {x t : Nat} {cs : Array Value} (m : (x, t, cs) ∈ l) : BlkT W x t cs := h.1 _ m
theorem Bks.two {w0 W : World} {l : List (Nat × Nat × Array Value)} (h : Bks w0 W l) {x t : Nat} {a b : Value} (m : (x, t, #[a, b]) ∈ l) : W.cell? ⟨x, 0, none⟩ = some a ∧ W.cell? ⟨x, 1, none⟩ = some b := ⟨(h.get m).cell 0, (h.get m).cell 1⟩
theorem Bks.alloc {w0 W : World} {l : List (Nat × Nat × Array Value)} (h : Bks w0 W l) (cs : Array Value) (t : Nat) : Bks w0 (W.alloc (.cells cs t)) ((W.heap.size, t, cs) :: l) :=
 ⟨fun q m => by
  rcases List.mem_cons.1 m with rfl | m
  ·exact BlkT.new W _ _
  ·exact (h.1 q m).alloc _, h.2.alloc h.2.size _⟩
theorem Bks.sub {w0 W : World} {l l' : List (Nat × Nat × Array Value)} (h : Bks w0 W l) (hs : ∀ t ∈ l', t ∈ l) : Bks w0 W l' := ⟨fun t m => h.1 t (hs t m), h.2⟩
theorem Bks.cons {w0 W : World} {l : List (Nat × Nat × Array Value)} (h : Bks w0 W l) {x t : Nat} {cs : Array Value} (hx : BlkT W x t cs) : Bks w0 W ((x, t, cs) :: l) :=
 ⟨fun q m => by
  rcases List.mem_cons.1 m with rfl | m
  ·exact hx
  ·exact h.1 q m, h.2⟩
theorem Bks.set {w0 W : World} {l : List (Nat × Nat × Array Value)} {x t : Nat} {cs : Array Value} (h : Bks w0 W ((x, t, cs) :: l)) (lx : w0.heap.size ≤ x) (hn : ∀ q ∈ l, q.1 ≠ x) (i : Nat) (v : Value) :
  Bks w0 (W.setCell ⟨x, i, none⟩ v) ((x, t, cs.setIfInBounds i v) :: l) :=
 ⟨fun q m => by
  rcases List.mem_cons.1 m with rfl | m
  ·exact (h.1 _ (List.mem_cons_self ..)).set v
  ·exact (h.1 q (List.mem_cons_of_mem _ m)).setOther (hn q m) v, h.2.setCell (p := ⟨x, i, none⟩) lx v⟩
theorem Bks.set2 {w0 W : World} {l : List (Nat × Nat × Array Value)} {x t : Nat} {a b : Value} (h : Bks w0 W ((x, t, #[a, b]) :: l)) (lx : w0.heap.size ≤ x) (hn : ∀ q ∈ l, q.1 ≠ x) (u v : Value) :
  Bks w0 ((W.setCell ⟨x, 0, none⟩ u).setCell ⟨x, 1, none⟩ v) ((x, t, #[u, v]) :: l) := (h.set lx hn 0 u).set lx hn 1 v
theorem Bks.swap {w0 W : World} {l : List (Nat × Nat × Array Value)} {p q : Nat × Nat × Array Value} (h : Bks w0 W (p :: q :: l)) : Bks w0 W (q :: p :: l) :=
 h.sub fun t m => by simp only [List.mem_cons] at m ⊢; rcases m with m | m | m <;> simp [m]
theorem Bks.new2 (w : World) (T : Nat) (a b : Array Value) : Bks w ((w.alloc (.cells a T)).alloc (.cells b T)) [(w.heap.size, T, a), (w.heap.size + 1, T, b)] :=
 ⟨fun t m => by
  simp only [List.mem_cons, List.not_mem_nil, or_false] at m
  rcases m with rfl | rfl
  ·exact (BlkT.new w _ _).alloc _
  ·exact BlkT.new1 w _ _ _, below2 _ _ _⟩
theorem Bks.new3 (w : World) (T U V : Nat) (a b c : Array Value) : Bks w (((w.alloc (.cells a T)).alloc (.cells b U)).alloc (.cells c V)) [(w.heap.size, T, a), (w.heap.size + 1, U, b), (w.heap.size + 1 + 1, V, c)] :=
 ⟨fun t m => by
  simp only [List.mem_cons, List.not_mem_nil, or_false] at m
  rcases m with rfl | rfl | rfl
  ·exact ((BlkT.new w _ _).alloc _).alloc _
  ·exact (BlkT.new1 w _ _ _).alloc _
  ·exact BlkT.new2 w _ _ _ _, below3 _ _ _ _⟩
theorem Bks.new2t (w : World) (T U : Nat) (a b : Array Value) : Bks w ((w.alloc (.cells a T)).alloc (.cells b U)) [(w.heap.size, T, a), (w.heap.size + 1, U, b)] :=
 ⟨fun t m => by
  simp only [List.mem_cons, List.not_mem_nil, or_false] at m
  rcases m with rfl | rfl
  ·exact (BlkT.new w _ _).alloc _
  ·exact BlkT.new1 w _ _ _, below2 _ _ _⟩
end Go.Proofs.YtloohbkceppocaaGreatDoor
