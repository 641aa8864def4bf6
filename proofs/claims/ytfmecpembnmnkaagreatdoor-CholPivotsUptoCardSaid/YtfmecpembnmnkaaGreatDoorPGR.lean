/- Walks: the references' numbers: Of, AllFinite, Of64. -/
import Derived.Test.YtfmecpembnmnkaaGreatDoorPGQ
import Derived.Test.YtfmecpembnmnkaaGreatDoorPGM
import Derived.Test.YtfmecpembnmnkaaGreatDoorPGL
namespace Go.Proofs.YtfmecpembnmnkaaGreatDoor
section
set_option maxRecDepth 100000
set_option maxHeartbeats 6400000
open Go.RowKit
theorem aB1 (v:Value) (l:List Nat) (w:World) (hl:FSl w v l):
  Calls Tryz.prog 91 #[v] w (Gives (.bool (l.all aK)) w):=by
 obtain⟨ao,cap,rfl,hcap,hn,hx,hc⟩:=hl
 have HC:=jH hc
 have HX:=jH hx
 generalize hv:l.all aK=r
 have HV:=jH hv
 clear hc hx hv
 go_enter Tryz.func91,Tryz.ntmps91
 go_wp2
 go_loopw [7] (fun i wr=>∃k:Nat,k≤l.length∧i= .int .i64 k∧Hid ((l.take k).all aK=true)∧Hid (Below w.heap.size w wr)) (fun i _=>l.length-(intOf i).toNat)
 case atStart=>exact⟨0,Nat.zero_le _,rfl,jH (by simp),jH (Below.refl _ _)⟩
 case round=>
  obtain⟨k,hk,rfl,HA,HB⟩:=hrel
  by_cases hlt:k<l.length
  ·obtain⟨b,off,rfl,hb,hcc⟩:=HC.out (by omega)
   have hck:=(HB.out.cell (p:=⟨b,off+k,none⟩) hb).trans (hcc k hlt)
   have HXk:Hid (l[k]<18446744073709551616):=jH (HX.out _ (List.getElem_mem _))
   have HN:Hid (aK l[k]=true→(l.take (k+1)).all aK=true):=jH (wU hlt HA.out)
   have HM:Hid (aK l[k]=false→r=false):=by
    refine jH fun h=> ?_
    rw [←HV.out,List.all_eq_false]
    exact⟨l[k],List.getElem_mem _,by rw [h];simp⟩
   clear hcc
   generalize l[k]=x at*
   have HFI:=jH fun W=>aH0 x W HXk.out
   obtain⟨fb,hfb⟩:∃f,aK x=f:=⟨_,rfl⟩
   rw [hfb]at HFI HN HM
   clear hfb
   cases fb
   ·have HR:=jH (HM.out rfl)
    go_wp2_with fail
    refine(HFI.out _).mono ?_
    rintro e1 w1 ⟨rfl,hb1⟩
    have HB1:=jH (HB.out.trans (hb1.mono HB.out.size))
    clear hb1
    go_wp2
    go_ret
    exact⟨by rw [HR.out];rfl,HB1.out⟩
   ·go_wp2_with fail
    refine(HFI.out _).mono ?_
    rintro e1 w1 ⟨rfl,hb1⟩
    have HB1:=jH (HB.out.trans (hb1.mono HB.out.size))
    clear hb1
    go_wp2
    go_roundw
    case rel=>exact⟨k+1,by omega,by go_num,jH (HN.out (by simp)),HB1⟩
    case measure=>simp [intOf];omega
  ·obtain rfl:k=l.length:=by omega
   have HR:Hid (r=true):=by
    refine jH ?_
    have:=HA.out
    rw [List.take_length]at this
    rw [←HV.out];exact this
   go_wp2
   go_ret
   exact⟨by rw [HR.out];rfl,HB.out⟩
end
section
open Go.RowKit
def USl (w:World) (v:Value) (l:List Nat):Prop:=
 ∃ao cap,v= .slice ao l.length cap∧l.length≤cap∧l.length≤1099511627776∧(∀x∈l,x<18446744073709551616)∧
  (0<l.length→∃b off,ao=some ⟨b,off,none⟩∧b<w.heap.size∧∀i (h:i<l.length),w.cell? ⟨b,off+i,none⟩=some (.int .u64 l[i]))
theorem USl.below {w w':World}{v:Value}{l:List Nat}(h:USl w v l) (hb:Below w.heap.size w w'):USl w' v l:=by
 obtain⟨ao,cap,h1,h2,h3,h4,h5⟩:=h
 refine⟨ao,cap,h1,h2,h3,h4,fun h0=> ?_⟩
 obtain⟨b,off,e,hlt,hc⟩:=h5 h0
 exact⟨b,off,e,Nat.lt_of_lt_of_le hlt hb.size,fun i hi=>(hb.cell (p:=⟨b,off+i,none⟩) hlt).trans (hc i hi)⟩
def aBu (l:List Nat):List Value:=l.map fun(x:Nat)=>Value.float .f64 x
theorem FSl.mM {w:World}{base t:Nat}{v:Value}{l:List Nat}(h:w.ownsRow base t 1 v l.length (aBu l)) (hn:l.length≤1099511627776) (hx:∀x∈l,x<18446744073709551616):FSl w v l:=by
 obtain⟨h1,⟨rfl,h0⟩|⟨g,cap,cur,rfl,hg,hh,hcap,hmax,hcs,ht⟩⟩:=h
 ·exact⟨none,0,by rw [h0],by omega,hn,hx,fun h=>absurd h (by omega)⟩
 ·refine⟨_,cap,rfl,hcap,hn,hx,fun _=>⟨g,0,rfl,(Array.getElem?_eq_some_iff.1 hh).1,fun i hi=> ?_⟩⟩
  have h2:(aBu l)[i]? =some (.float .f64 l[i]):=by unfold aBu;rw [List.getElem?_map,List.getElem?_eq_getElem hi];rfl
  rw [←ht,List.getElem?_take_of_lt (by omega)]at h2
  simp only [World.cell?,hh,Nat.zero_add]
  simpa using h2
theorem Tryz.info35 :(Tryz.prog.info? 35).map (fun i=>(i.zero,i.size,i.bytes))=some (some (.float .f64 0),1,8):=by kernel_rfl
theorem aSm {l:List Nat}{k:Nat}(h:k<l.length):aBu (l.take (k+1))=aBu (l.take k)++[Value.float .f64 l[k]]:=by
 unfold aBu;rw [List.take_succ_eq_append_getElem h,List.map_append];rfl
end
end Go.Proofs.YtfmecpembnmnkaaGreatDoor
