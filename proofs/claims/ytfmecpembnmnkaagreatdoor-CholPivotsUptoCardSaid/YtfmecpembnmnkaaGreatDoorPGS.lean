/- What the bound of an upto row gives. -/
import Derived.Test.YtfmecpembnmnkaaGreatDoorRows
namespace Go.Proofs.YtfmecpembnmnkaaGreatDoor
theorem aRr {H:Type}(d:DataW H):1≤Rows.uptoBulk d:=by
 cases d with
 |lit l=>cases l<;>simp [Rows.uptoBulk]
 |nil=>simp [Rows.uptoBulk]
 |ptr d=>simp [Rows.uptoBulk]
 |slice elems spare=>simp [Rows.uptoBulk]
 |agg parts=>simp [Rows.uptoBulk]
 |iface t d=>simp [Rows.uptoBulk]
 |map entries=>simp [Rows.uptoBulk]
 |held h=>simp [Rows.uptoBulk]
theorem aNx {H:Type}{d:DataW H}{l:List (DataW H)}(h:d∈l):Rows.uptoBulk d≤Rows.uptoBulkAll l:=by
 induction l with
 |nil=>cases h
 | cons x r ih=>
  simp only [Rows.uptoBulkAll]
  cases List.mem_cons.1 h with
  |inl e=>subst e;omega
  |inr e=>have:=ih e;omega
theorem aPh {H:Type}(l:List (DataW H)):l.length≤Rows.uptoBulkAll l:=by
 induction l with
 |nil=>simp [Rows.uptoBulkAll]
 |cons x r ih=>have:=aRr x;simp only [Rows.uptoBulkAll,List.length_cons];omega
theorem aI1 {H:Type}(elems spare:List (DataW H)):elems.length+1≤Rows.uptoBulk (.slice elems spare):=by
 have h1:=aPh elems
 simp only [Rows.uptoBulk]
 omega
theorem aJd {H:Type}{l:List (DataW H)}(hk:Rows.uptoSmall H l=true):Rows.uptoBulkAll l≤1048576:=by
 have h:decide (Rows.uptoBulkAll l≤1048576)=true:=hk
 exact of_decide_eq_true h
end Go.Proofs.YtfmecpembnmnkaaGreatDoor
