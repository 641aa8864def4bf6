/- Walk: the references' Take: a number's parts. Printed by wip/gen/cv6.py. -/
import Derived.Test.YtfmecpembnmnkaaGreatDoorPKE
import Derived.Test.YtfmecpembnmnkaaGreatDoorPGG
import Derived.Test.YtfmecpembnmnkaaGreatDoorPLS
import Derived.Deep.CutRange
import Derived.Test.YtfmecpembnmnkaaGreatDoorPHB
import Derived.Test.YtfmecpembnmnkaaGreatDoorPGV
namespace Go.Proofs.YtfmecpembnmnkaaGreatDoor
section
set_option maxRecDepth 100000
set_option maxHeartbeats 6400000
open Go.RowKit
def iJ (k:Int) (neg:Bool) (p:Nat) (e:Int):Value:= .agg #[.int .i64 k,.bool neg,.pointer (some ⟨p,0,none⟩),.int .i64 e]
def pI (k:Int) (neg:Bool) (z:Int) (e:Int) (w:World) (en:Ending) (w':World):Prop:=
 ∃p,en= .returned (iJ k neg p e)∧w.heap.size≤p∧fU w' p z∧Below w.heap.size w w'
theorem aJ.cells4 {w:World}{b t:Nat}{x y z v:Value}(h:aJ w b t #[x,y,z,v]):(w.cell? ⟨b,0,none⟩=some x∧w.cell? ⟨b,1,none⟩=some y∧w.cell? ⟨b,2,none⟩=some z∧w.cell? ⟨b,3,none⟩=some v)∧
  w.frozen? ⟨b,0,none⟩=false∧w.frozen? ⟨b,1,none⟩=false∧w.frozen? ⟨b,2,none⟩=false∧w.frozen? ⟨b,3,none⟩=false:=
 ⟨⟨h.cell 0,h.cell 1,h.cell 2,h.cell 3⟩,h.frozen 0,h.frozen 1,h.frozen 2,h.frozen 3⟩
theorem Bks.mod {w0 W V:World}{l:List (Nat×Nat×Array Value)}{q:Nat}(h:Bks w0 W l) (hm:Mod q 0 W V) (hn:∀t∈l,t.1≠q) (hq:w0.heap.size≤q):Bks w0 V l:=
 ⟨fun t m=>(h.1 t m).mod hm (hn t m),Mod.below h.2 hm hq h.2.size⟩
theorem Bks.rY {w0 W:World}{l:List (Nat×Nat×Array Value)}{x t:Nat}{a b c d:Value}(h:Bks w0 W ((x,t,#[a,b,c,d])::l)) (lx:w0.heap.size≤x) (hn:∀q∈l,q.1≠x) (u v y z:Value):
  Bks w0 ((((W.setCell ⟨x,0,none⟩ u).setCell ⟨x,1,none⟩ v).setCell ⟨x,2,none⟩ y).setCell ⟨x,3,none⟩ z) ((x,t,#[u,v,y,z])::l):=
 (((h.set lx hn 0 u).set lx hn 1 v).set lx hn 2 y).set lx hn 3 z
theorem uQ :wL 151:=by intro k;cases k<;>decide
theorem fU.rY {W:World}{x p:Nat}{n:Int}{a b c d:Value}(h:fU W p n) (hx:aJ W x 151 #[a,b,c,d]) (hne:p≠x) (u v y z:Value):
  fU ((((W.setCell ⟨x,0,none⟩ u).setCell ⟨x,1,none⟩ v).setCell ⟨x,2,none⟩ y).setCell ⟨x,3,none⟩ z) p n:=
 (((h.setOther hx uQ hne u).setOther (hx.set (i:=0) u) uQ hne v).setOther ((hx.set (i:=0) u).set (i:=1) v) uQ hne y).setOther (((hx.set (i:=0) u).set (i:=1) v).set (i:=2) y) uQ hne z
theorem fU.set1 {W:World}{x p i:Nat}{n:Int}{cs:Array Value}(h:fU W p n) (hx:aJ W x 151 cs) (hne:p≠x) (u:Value):fU (W.setCell ⟨x,i,none⟩ u) p n:=h.setOther hx uQ hne u
theorem Bks.aXi {w0 W:World}{l:List (Nat×Nat×Array Value)}{x t:Nat}{cs:Array Value}(h:Bks w0 W ((x,t,cs)::l)):aJ W x t cs:=h.get (.head _)
theorem aUi (b:Nat) (h:b<18446744073709551616):(bits .and .u64 ((b:Int)/9223372036854775808) 1==1)=aQ b:=by
 have e:(b:Int)/9223372036854775808=((b/9223372036854775808:Nat):Int):=by omega
 rw [e,show(1:Int)=((1:Nat):Int)from rfl,bits_and_u64_nat _ _ (by omega) (by decide),show(1:Nat)=2^1-1 from rfl,Nat.and_two_pow_sub_one_eq_mod]
 unfold aQ aH
 by_cases hb:9223372036854775808≤b
 ·rw [decide_eq_true hb,show b/9223372036854775808%2^1=1 by omega];rfl
 ·rw [decide_eq_false hb,show b/9223372036854775808%2^1=0 by omega];rfl
def dM (b:Nat):Int:=if aK b then 0 else 1
def bJ (b:Nat):Nat:=if aK b then aS b else 0
def bT (b:Nat):Int:=if aK b then aW b else-1074
theorem aUt {f:Nat}(h:f<4503599627370496):bits .or .u64 (f:Int) 4503599627370496=((f+4503599627370496:Nat):Int):=by
 rw [show(4503599627370496:Int)=((4503599627370496:Nat):Int)from rfl,bits_or_u64_nat _ _ (by omega) (by decide)]
 congr 1
 have:=Nat.two_pow_add_eq_or_of_lt (i:=52) (b:=f) h 1
 rw [Nat.or_comm]
 exact this.symm.trans (Nat.add_comm _ _)
theorem aJ2 {b fr ex:Nat}(hn:aU b=false) (hf:b%aT=fr) (he:eF b=ex):(ex=2047→fr=0∧dM b=1∧bJ b=0∧bT b= -1074)∧(ex=0→dM b=0∧bJ b=fr∧bT b= -1074)∧(ex≠2047→ex≠0→dM b=0∧bJ b=fr+4503599627370496∧bT b=(ex:Int)-1075):=by
 have hfin:aK b=decide (ex≠2047):=by unfold aK;rw [he]
 have hfr:fF b=fr:=hf
 unfold dM bJ bT
 rw [hfin]
 refine⟨fun h=> ?_,fun h=> ?_,fun h h2=> ?_⟩
 ·rw [h]
  refine⟨?_,rfl,rfl,rfl⟩
  have h3:=dF.1 hn
  have h4:b/aT%2048=2047:=he.trans h
  unfold aH aG aT at*
  omega
 ·rw [h]
  refine⟨rfl,?_,?_⟩
  ·show aS b=fr
   unfold aS;rw [he,h,if_pos rfl,hfr]
  ·show aW b= -1074
   unfold aW;rw [he,h,if_pos rfl];rfl
 ·rw [decide_eq_true h]
  refine⟨rfl,?_,?_⟩
  ·show aS b=_
   unfold aS;rw [he,if_neg h2,hfr];rfl
  ·show aW b=_
   unfold aW;rw [he,if_neg h2]
theorem aMz (b:Nat) (w:World) (hb:W64 b) (hn:aU b=false):
  Calls Tryz.prog 202 #[iK,.int .u64 (b:Nat)] w (pI (dM b) (aQ b) (bJ b:Nat) (bT b) w):=by
 have hfr:=aB8 b hb
 have hex:=aLw b hb
 have hsg:=aUi b hb
 have HK:=jH (Bks.aVo w 144 151 #[.int .i64 53,.int .i64 (-1022),.int .i64 1023,.int .i64 11] #[.int .i64 0,.bool false,.pointer none,.int .i64 0])
 obtain⟨fr,hfr2⟩:∃f,b%aT=f:=⟨_,rfl⟩
 obtain⟨ex,hex2⟩:∃f,eF b=f:=⟨_,rfl⟩
 obtain⟨sg,hsg2⟩:∃f,aQ b=f:=⟨_,rfl⟩
 rw [hfr2]at hfr
 rw [hex2]at hex
 rw [hsg2]at hsg ⊢
 have hfl:fr<4503599627370496:=by rw [←hfr2];exact Nat.mod_lt _ (by decide)
 have hel:ex<2048:=by rw [←hex2];unfold eF;omega
 have HP:Hid ((ex=2047→fr=0∧dM b=1∧bJ b=0∧bT b= -1074)∧(ex=0→dM b=0∧bJ b=fr∧bT b= -1074)∧(ex≠2047→ex≠0→dM b=0∧bJ b=fr+4503599627370496∧bT b=(ex:Int)-1075)):=jH (aJ2 hn hfr2 hex2)
 generalize dM b=kk at*
 generalize bJ b=mm at*
 generalize bT b=xx at*
 have HFS:=jH fun p W h=>uU p 0 fr W h (by omega)
 have HFM:=jH fun p W h=>uU p 0 (fr+4503599627370496) W h (by omega)
 have hor:bits .or .u64 (fr:Int) 4503599627370496=((fr+4503599627370496:Nat):Int):=aUt hfl
 clear hfr2 hex2 hsg2 hn
 have hw1:IntKind.i64.wrap 52=52:=by decide+kernel
 have hw2:IntKind.i64.wrap 63=63:=by decide+kernel
 have hw3:IntKind.u64.wrap 63=63:=by decide+kernel
 have hw4:IntKind.i64.wrap (-1075)= -1075:=by decide+kernel
 have hw5:IntKind.i64.wrap (-1074)= -1074:=by decide+kernel
 obtain⟨f0,hf0⟩:∃f,w.heap.size=f:=⟨_,rfl⟩
 rw [hf0]at HK
 unfold iK pI iJ at*
 go_enter Tryz.func202,Tryz.ntmps202
 obtain⟨⟨c0,c1,c2,c3⟩,-⟩:=(HK.out.get (.head _)).cells4
 go_upto_region 3 with fail
 clear c0 c1 c2 c3
 generalize World.alloc (World.alloc w _) _=W1 at HK ⊢
 go_cut [7]from 29 to 49 (fun nv wx=>∃nb ib:Nat,nv= .pointer (some ⟨nb,0,none⟩)∧Hid (f0+1<nb∧f0+1<ib∧ib≠nb)∧Hid (Bks w wx [(nb,151,#[.int .i64 0,.bool sg,.pointer (some ⟨ib,0,none⟩),.int .i64 (-1074)]),(f0,144,#[.int .i64 53,.int .i64 (-1022),.int .i64 1023,.int .i64 11]),(f0+1,151,#[.int .i64 0,.bool false,.pointer none,.int .i64 0])])∧Hid (fU wx ib (fr:Int)))
 case first=>
  refine aC (fun w':World=>w'.cell? ⟨f0,0,none⟩=some (.int .i64 53)∧w'.cell? ⟨f0,1,none⟩=some (.int .i64 (-1022))∧w'.cell? ⟨f0,2,none⟩=some (.int .i64 1023)∧w'.cell? ⟨f0,3,none⟩=some (.int .i64 11)) 22 (.take 0 (.take 1 (.take 2 (.take 3 (.take 4 (.take 5 (.take 6 (.take 7 (.take 8 (.take 9 (.take 10 (.take 12 (.take 14 (.take 15 (.take 16 (.take 17 (.take 18 (.take 19 (.fork 11 (.fork 13 (.take 20 (.run 21 .nil)) 21 (.run 13 (.take 20 .nil))) 21 (.run 11 (.run 13 (.take 20 .nil)))))))))))))))))))))) (by kernel_rfl) (by kernel_rfl) ?_
  replace HK:=jH (HK.out.later (aB _))
  generalize World.drew _=W2 at HK ⊢
  repeat (first|(refine tkL (v:= ?_) rfl rfl rfl (fun w' hSw=> ?_) ((HK.out.get (.head _)).cells4.1) ?_;rotate_left;(focus (go_simp;with_reducible rfl));simp only [aF])|(refine bK rfl rfl (fun _ _ _ h=>h) rfl ((HK.out.get (.head _)).cells4.1) ?_;simp only [aF]))
  refine kR ?_ ?_
  ·refine aI rfl rfl fun K' hK=> ?_
   go_simp
   have hb1:=Below.aA W2 (.cells #[.bool false,.slice none 0 0] 175)
   have HZ:=jH (dB.zero (k:= .u32) (s:=32) W2 _ iZ)
   have HLib:Hid (f0+1<W2.heap.size):=jH (by have:=HK.out.lt _ (.tail _ (.head _));omega)
   obtain⟨ib,hib⟩:∃i,W2.heap.size=i:=⟨_,rfl⟩
   obtain⟨V1,hV⟩:∃v,W2.alloc (.cells #[.bool false,.slice none 0 0] 175)=v:=⟨_,rfl⟩
   rw [hV]at hb1 HZ
   rw [hib]at HZ HLib
   rw [hV]
   try rw [hib]
   clear hV
   replace HK:=jH (HK.out.later hb1)
   clear hib
   refine hK _ _ ((HK.out.get (.head _)).cells4.1) ?_
   clear hK K' hb1
   try simp only [Act.put,aF]
   repeat (first|(refine tkL (v:= ?_) rfl rfl rfl (fun w' hSw=> ?_) ((HK.out.get (.head _)).cells4.1) ?_;rotate_left;(focus (go_simp;with_reducible rfl));simp only [aF])|(refine bK rfl rfl (fun _ _ _ h=>h) rfl ((HK.out.get (.head _)).cells4.1) ?_;simp only [aF]))
   refine kR ?_ ?_
   ·refine aI rfl rfl fun K' hK=> ?_
    go_simp
    refine(HFS.out ib _ HZ.out.1).mono ?_
    rintro e1 V2 ⟨rfl,hi1,hm1⟩
    have hbs:=HLib.out
    replace HK:=jH (HK.out.mod hm1 (fun t m=>by have:=HLib.out;simp only [List.mem_cons,List.not_mem_nil,or_false]at m;rcases m with rfl|rfl<;>simp<;>omega) (by have:=HLib.out;omega))
    replace HZ:=jH hi1
    clear hbs hi1 hm1
    refine hK _ _ ((HK.out.get (.head _)).cells4.1) ?_
    clear hK K'
    try simp only [Act.put,aF]
    repeat (first|(refine tkL (v:= ?_) rfl rfl rfl (fun w' hSw=> ?_) ((HK.out.get (.head _)).cells4.1) ?_;rotate_left;(focus (go_simp;with_reducible rfl));simp only [aF])|(refine bK rfl rfl (fun _ _ _ h=>h) rfl ((HK.out.get (.head _)).cells4.1) ?_;simp only [aF]))
    refine aI rfl rfl fun K' hK=> ?_
    go_simp
    have hb1:=Below.aA V2 (.cells #[.int .i64 0,.bool false,.pointer none,.int .i64 0] 151)
    have HN:=jH (aJ.new V2 #[.int .i64 0,.bool false,.pointer none,.int .i64 0] 151)
    have HLnb:Hid (f0+1<V2.heap.size∧ib<V2.heap.size):=jH (by have:=HK.out.lt _ (.tail _ (.head _));have:=HZ.out.1.1;omega)
    obtain⟨nb,hnb⟩:∃i,V2.heap.size=i:=⟨_,rfl⟩
    obtain⟨V3,hV⟩:∃v,V2.alloc (.cells #[.int .i64 0,.bool false,.pointer none,.int .i64 0] 151)=v:=⟨_,rfl⟩
    rw [hV]at hb1 HN
    rw [hnb]at HN HLnb
    rw [hV]
    try rw [hnb]
    clear hV
    replace HK:=jH (HK.out.later hb1)
    replace HZ:=jH (HZ.out.below hb1)
    clear hnb
    refine hK _ _ ((HK.out.get (.head _)).cells4.1) ?_
    clear hK K' hb1
    try simp only [Act.put,aF]
    repeat (first|(refine tkL (v:= ?_) rfl rfl rfl (fun w' hSw=> ?_) ((HK.out.get (.head _)).cells4.1) ?_;rotate_left;(focus (go_simp;with_reducible rfl));simp only [aF])|(refine bK rfl rfl (fun _ _ _ h=>h) rfl ((HK.out.get (.head _)).cells4.1) ?_;simp only [aF]))
    refine aN ?_
    simp only [drL]
    obtain⟨⟨k0,k1,k2,k3⟩,k4,k5,k6,k7⟩:=HN.out.cells4
    have HB1:=jH ((HK.out.cons HN.out).rY (by have:=HLnb.out;omega) (fun t m=>by have:=HLnb.out;simp only [List.mem_cons,List.not_mem_nil,or_false]at m;rcases m with rfl|rfl<;>simp<;>omega) (.int .i64 0) (.bool sg) (.pointer (some ⟨ib,0,none⟩)) (.int .i64 (-1074)))
    have HI1:=jH (fU.rY HZ.out HN.out (by have:=HLnb.out;have:=HLib.out;omega) (.int .i64 0) (.bool sg) (.pointer (some ⟨ib,0,none⟩)) (.int .i64 (-1074)))
    go_wp2
    go_meet
    exact⟨nb,ib,rfl,jH (by have:=HLnb.out;have:=HLib.out;omega),HB1,HI1⟩
   ·refine aI rfl rfl fun K' hK=> ?_
    go_simp
    have hb1:=Below.aA V1 (.cells #[.int .i64 0,.bool false,.pointer none,.int .i64 0] 151)
    have HN:=jH (aJ.new V1 #[.int .i64 0,.bool false,.pointer none,.int .i64 0] 151)
    have HLnb:Hid (f0+1<V1.heap.size∧ib<V1.heap.size):=jH (by have:=HK.out.lt _ (.tail _ (.head _));have:=HZ.out.1.1;omega)
    obtain⟨nb,hnb⟩:∃i,V1.heap.size=i:=⟨_,rfl⟩
    obtain⟨V4,hV⟩:∃v,V1.alloc (.cells #[.int .i64 0,.bool false,.pointer none,.int .i64 0] 151)=v:=⟨_,rfl⟩
    rw [hV]at hb1 HN
    rw [hnb]at HN HLnb
    rw [hV]
    try rw [hnb]
    clear hV
    replace HK:=jH (HK.out.later hb1)
    replace HZ:=jH (HZ.out.below hb1)
    clear hnb
    refine hK _ _ ((HK.out.get (.head _)).cells4.1) ?_
    clear hK K' hb1
    try simp only [Act.put,aF]
    repeat (first|(refine tkL (v:= ?_) rfl rfl rfl (fun w' hSw=> ?_) ((HK.out.get (.head _)).cells4.1) ?_;rotate_left;(focus (go_simp;with_reducible rfl));simp only [aF])|(refine bK rfl rfl (fun _ _ _ h=>h) rfl ((HK.out.get (.head _)).cells4.1) ?_;simp only [aF]))
    refine aI rfl rfl fun K' hK=> ?_
    go_simp
    refine(HFS.out ib _ HZ.out.1).mono ?_
    rintro e1 V5 ⟨rfl,hi1,hm1⟩
    have hbs:=HLib.out
    replace HK:=jH (HK.out.mod hm1 (fun t m=>by have:=HLib.out;simp only [List.mem_cons,List.not_mem_nil,or_false]at m;rcases m with rfl|rfl<;>simp<;>omega) (by have:=HLib.out;omega))
    replace HN:=jH (HN.out.mod hm1 (by have:=HLnb.out;have:=HLib.out;omega))
    replace HZ:=jH hi1
    clear hbs hi1 hm1
    refine hK _ _ ((HK.out.get (.head _)).cells4.1) ?_
    clear hK K'
    try simp only [Act.put,aF]
    repeat (first|(refine tkL (v:= ?_) rfl rfl rfl (fun w' hSw=> ?_) ((HK.out.get (.head _)).cells4.1) ?_;rotate_left;(focus (go_simp;with_reducible rfl));simp only [aF])|(refine bK rfl rfl (fun _ _ _ h=>h) rfl ((HK.out.get (.head _)).cells4.1) ?_;simp only [aF]))
    refine aN ?_
    simp only [drL]
    obtain⟨⟨k0,k1,k2,k3⟩,k4,k5,k6,k7⟩:=HN.out.cells4
    have HB1:=jH ((HK.out.cons HN.out).rY (by have:=HLnb.out;omega) (fun t m=>by have:=HLnb.out;simp only [List.mem_cons,List.not_mem_nil,or_false]at m;rcases m with rfl|rfl<;>simp<;>omega) (.int .i64 0) (.bool sg) (.pointer (some ⟨ib,0,none⟩)) (.int .i64 (-1074)))
    have HI1:=jH (fU.rY HZ.out HN.out (by have:=HLnb.out;have:=HLib.out;omega) (.int .i64 0) (.bool sg) (.pointer (some ⟨ib,0,none⟩)) (.int .i64 (-1074)))
    go_wp2
    go_meet
    exact⟨nb,ib,rfl,jH (by have:=HLnb.out;have:=HLib.out;omega),HB1,HI1⟩
  ·refine aI rfl rfl fun K' hK=> ?_
   go_simp
   have hb1:=Below.aA W2 (.cells #[.int .i64 0,.bool false,.pointer none,.int .i64 0] 151)
   have HN:=jH (aJ.new W2 #[.int .i64 0,.bool false,.pointer none,.int .i64 0] 151)
   have HLnb:Hid (f0+1<W2.heap.size):=jH (by have:=HK.out.lt _ (.tail _ (.head _));omega)
   obtain⟨nb,hnb⟩:∃i,W2.heap.size=i:=⟨_,rfl⟩
   obtain⟨V6,hV⟩:∃v,W2.alloc (.cells #[.int .i64 0,.bool false,.pointer none,.int .i64 0] 151)=v:=⟨_,rfl⟩
   rw [hV]at hb1 HN
   rw [hnb]at HN HLnb
   rw [hV]
   try rw [hnb]
   clear hV
   replace HK:=jH (HK.out.later hb1)
   clear hnb
   refine hK _ _ ((HK.out.get (.head _)).cells4.1) ?_
   clear hK K' hb1
   try simp only [Act.put,aF]
   repeat (first|(refine tkL (v:= ?_) rfl rfl rfl (fun w' hSw=> ?_) ((HK.out.get (.head _)).cells4.1) ?_;rotate_left;(focus (go_simp;with_reducible rfl));simp only [aF])|(refine bK rfl rfl (fun _ _ _ h=>h) rfl ((HK.out.get (.head _)).cells4.1) ?_;simp only [aF]))
   refine aI rfl rfl fun K' hK=> ?_
   go_simp
   have hb1:=Below.aA V6 (.cells #[.bool false,.slice none 0 0] 175)
   have HZ:=jH (dB.zero (k:= .u32) (s:=32) V6 _ iZ)
   have HLib:Hid (f0+1<V6.heap.size∧nb<V6.heap.size):=jH (by have:=HK.out.lt _ (.tail _ (.head _));have:=HN.out.lt;omega)
   obtain⟨ib,hib⟩:∃i,V6.heap.size=i:=⟨_,rfl⟩
   obtain⟨V7,hV⟩:∃v,V6.alloc (.cells #[.bool false,.slice none 0 0] 175)=v:=⟨_,rfl⟩
   rw [hV]at hb1 HZ
   rw [hib]at HZ HLib
   rw [hV]
   try rw [hib]
   clear hV
   replace HK:=jH (HK.out.later hb1)
   replace HN:=jH (HN.out.below hb1)
   clear hib
   refine hK _ _ ((HK.out.get (.head _)).cells4.1) ?_
   clear hK K' hb1
   try simp only [Act.put,aF]
   repeat (first|(refine tkL (v:= ?_) rfl rfl rfl (fun w' hSw=> ?_) ((HK.out.get (.head _)).cells4.1) ?_;rotate_left;(focus (go_simp;with_reducible rfl));simp only [aF])|(refine bK rfl rfl (fun _ _ _ h=>h) rfl ((HK.out.get (.head _)).cells4.1) ?_;simp only [aF]))
   refine aI rfl rfl fun K' hK=> ?_
   go_simp
   refine(HFS.out ib _ HZ.out.1).mono ?_
   rintro e1 V8 ⟨rfl,hi1,hm1⟩
   have hbs:=HLib.out
   replace HK:=jH (HK.out.mod hm1 (fun t m=>by have:=HLib.out;simp only [List.mem_cons,List.not_mem_nil,or_false]at m;rcases m with rfl|rfl<;>simp<;>omega) (by have:=HLib.out;omega))
   replace HN:=jH (HN.out.mod hm1 (by have:=HLnb.out;have:=HLib.out;omega))
   replace HZ:=jH hi1
   clear hbs hi1 hm1
   refine hK _ _ ((HK.out.get (.head _)).cells4.1) ?_
   clear hK K'
   try simp only [Act.put,aF]
   repeat (first|(refine tkL (v:= ?_) rfl rfl rfl (fun w' hSw=> ?_) ((HK.out.get (.head _)).cells4.1) ?_;rotate_left;(focus (go_simp;with_reducible rfl));simp only [aF])|(refine bK rfl rfl (fun _ _ _ h=>h) rfl ((HK.out.get (.head _)).cells4.1) ?_;simp only [aF]))
   refine aN ?_
   simp only [drL]
   obtain⟨⟨k0,k1,k2,k3⟩,k4,k5,k6,k7⟩:=HN.out.cells4
   have HB1:=jH ((HK.out.cons HN.out).rY (by have:=HLnb.out;omega) (fun t m=>by have:=HLnb.out;simp only [List.mem_cons,List.not_mem_nil,or_false]at m;rcases m with rfl|rfl<;>simp<;>omega) (.int .i64 0) (.bool sg) (.pointer (some ⟨ib,0,none⟩)) (.int .i64 (-1074)))
   have HI1:=jH (fU.rY HZ.out HN.out (by have:=HLnb.out;have:=HLib.out;omega) (.int .i64 0) (.bool sg) (.pointer (some ⟨ib,0,none⟩)) (.int .i64 (-1074)))
   go_wp2
   go_meet
   exact⟨nb,ib,rfl,jH (by have:=HLnb.out;have:=HLib.out;omega),HB1,HI1⟩
 case rest=>
 clear HK HFS
 obtain⟨nb,ib,rfl,HL,HK,HI⟩:=hcut
 obtain⟨⟨c0,c1,c2,c3⟩,-⟩:=(HK.out.get (.tail _ (.head _))).cells4
 obtain⟨⟨d0,d1,d2,d3⟩,d4,d5,d6,d7⟩:=(HK.out.get (.tail _ (.tail _ (.head _)))).cells4
 obtain⟨⟨k0,k1,k2,k3⟩,k4,k5,k6,k7⟩:=(HK.out.get (.head _)).cells4
 have hne1:f0≠nb:=by have:=HL.out;omega
 have hne2:f0+1≠nb:=by have:=HL.out;omega
 have hne3:nb≠f0+1:=by omega
 have hne4:nb≠f0:=by omega
 by_cases h47:ex=2047
 ·obtain⟨p1,p2,p3,p4⟩:=HP.out.1 h47
  subst h47
  subst p1
  have HQ:=jH (And.intro p2 (And.intro p3 p4))
  clear p2 p3 p4 HP hex
  have HI2:=jH (fU.set1 (i:=0) HI.out HK.out.aXi HL.out.2.2 (.int .i64 1))
  have HK2:Hid (Bks w (wc.setCell ⟨nb,0,none⟩ (.int .i64 1)) [(nb,151,#[.int .i64 1,.bool sg,.pointer (some ⟨ib,0,none⟩),.int .i64 (-1074)]),(f0,144,#[.int .i64 53,.int .i64 (-1022),.int .i64 1023,.int .i64 11]),(f0+1,151,#[.int .i64 0,.bool false,.pointer none,.int .i64 0])]):=jH (HK.out.set (by have:=HL.out;omega) (fun t m=>by have:=HL.out;simp only [List.mem_cons,List.not_mem_nil,or_false]at m;rcases m with rfl|rfl<;>simp<;>omega) 0 (.int .i64 1))
  go_upto_region 6 with fail
  clear c0 c1 c2 c3 d0 d1 d2 d3 d4 d5 d6 d7 k0 k1 k2 k3 k4 k5 k6 k7
  generalize World.setCell wc _ _=W9 at HI2 HK2 ⊢
  obtain⟨⟨k0,k1,k2,k3⟩,k4,k5,k6,k7⟩:=(HK2.out.get (.head _)).cells4
  obtain⟨⟨d0,d1,d2,d3⟩,d4,d5,d6,d7⟩:=(HK2.out.get (.tail _ (.tail _ (.head _)))).cells4
  go_wp2
  refine bodyPost_ret (v:= .agg #[.int .i64 1,.bool sg,.pointer (some ⟨ib,0,none⟩),.int .i64 (-1074)]) (by simp [results,Tryz.results202,go_sem,d0,d1,d2,d3]) rfl ⟨ib,by rw [HQ.out.1,HQ.out.2.2],by rw [hf0];have:=HL.out;omega,?_,?_⟩
  ·rw [HQ.out.2.1];exact fU.rY HI2.out (HK2.out.get (.tail _ (.tail _ (.head _)))) (by have:=HL.out;omega) _ _ _ _
  ·exact(((HK2.out.sub (l':=[(f0+1,151,#[.int .i64 0,.bool false,.pointer none,.int .i64 0])]) (fun t m=> .tail _ (.tail _ m))).rY (by omega) (fun t m=>by cases m) (.int .i64 1) (.bool sg) (.pointer (some ⟨ib,0,none⟩)) (.int .i64 (-1074)))).2
 ·by_cases h00:ex=0
  ·obtain⟨p2,p3,p4⟩:=HP.out.2.1 h00
   subst h00
   have HQ:=jH (And.intro p2 (And.intro p3 p4))
   clear p2 p3 p4 HP hex
   go_upto_region 12 with fail
   clear c0 c1 c2 c3 d0 d1 d2 d3 d4 d5 d6 d7 k0 k1 k2 k3 k4 k5 k6 k7
   obtain⟨⟨k0,k1,k2,k3⟩,k4,k5,k6,k7⟩:=(HK.out.get (.head _)).cells4
   obtain⟨⟨d0,d1,d2,d3⟩,d4,d5,d6,d7⟩:=(HK.out.get (.tail _ (.tail _ (.head _)))).cells4
   go_wp2
   refine bodyPost_ret (v:= .agg #[.int .i64 0,.bool sg,.pointer (some ⟨ib,0,none⟩),.int .i64 (-1074)]) (by simp [results,Tryz.results202,go_sem,d0,d1,d2,d3]) rfl ⟨ib,by rw [HQ.out.1,HQ.out.2.2],by rw [hf0];have:=HL.out;omega,?_,?_⟩
   ·rw [HQ.out.2.1];exact fU.rY HI.out (HK.out.get (.tail _ (.tail _ (.head _)))) (by have:=HL.out;omega) _ _ _ _
   ·exact(((HK.out.sub (l':=[(f0+1,151,#[.int .i64 0,.bool false,.pointer none,.int .i64 0])]) (fun t m=> .tail _ (.tail _ m))).rY (by omega) (fun t m=>by cases m) (.int .i64 0) (.bool sg) (.pointer (some ⟨ib,0,none⟩)) (.int .i64 (-1074)))).2
  ·obtain⟨p2,p3,p4⟩:=HP.out.2.2 h47 h00
   have HQ:=jH (And.intro p2 (And.intro p3 p4))
   clear p2 p3 p4 HP hex
   have hpos:0<ex:=by omega
   obtain⟨E,hE⟩:∃t:Int,(ex:Int)-1075=t:=⟨_,rfl⟩
   rw [hE]at HQ
   go_wp2_with fail
   refine(HFM.out ib _ HI.out.1).mono ?_
   rintro e1 W9 ⟨rfl,hi1,hm1⟩
   have HK2:=jH (HK.out.mod hm1 (fun t m=>by have:=HL.out;simp only [List.mem_cons,List.not_mem_nil,or_false]at m;rcases m with rfl|rfl|rfl<;>simp<;>omega) (by have:=HL.out;omega))
   have HI2:=jH hi1
   clear hi1 hm1
   clear c0 c1 c2 c3 d0 d1 d2 d3 d4 d5 d6 d7 k0 k1 k2 k3 k4 k5 k6 k7
   obtain⟨⟨c0,c1,c2,c3⟩,-⟩:=(HK2.out.get (.tail _ (.head _))).cells4
   obtain⟨⟨k0,k1,k2,k3⟩,k4,k5,k6,k7⟩:=(HK2.out.get (.head _)).cells4
   have HI3:=jH (fU.set1 (i:=3) HI2.out HK2.out.aXi HL.out.2.2 (.int .i64 E))
   have HK3:Hid (Bks w (W9.setCell ⟨nb,3,none⟩ (.int .i64 E)) [(nb,151,#[.int .i64 0,.bool sg,.pointer (some ⟨ib,0,none⟩),.int .i64 E]),(f0,144,#[.int .i64 53,.int .i64 (-1022),.int .i64 1023,.int .i64 11]),(f0+1,151,#[.int .i64 0,.bool false,.pointer none,.int .i64 0])]):=jH (HK2.out.set (by have:=HL.out;omega) (fun t m=>by have:=HL.out;simp only [List.mem_cons,List.not_mem_nil,or_false]at m;rcases m with rfl|rfl<;>simp<;>omega) 3 (.int .i64 E))
   have hE2:(ex:Int)-1+ -1022-53+1=E:=by omega
   have hE3:(ex:Int)-1-1022-53+1=E:=by omega
   go_upto_region 12 with fail
   clear c0 c1 c2 c3 k0 k1 k2 k3 k4 k5 k6 k7
   generalize World.setCell W9 _ _=W10 at HI3 HK3 ⊢
   obtain⟨⟨k0,k1,k2,k3⟩,k4,k5,k6,k7⟩:=(HK3.out.get (.head _)).cells4
   obtain⟨⟨d0,d1,d2,d3⟩,d4,d5,d6,d7⟩:=(HK3.out.get (.tail _ (.tail _ (.head _)))).cells4
   go_wp2
   refine bodyPost_ret (v:= .agg #[.int .i64 0,.bool sg,.pointer (some ⟨ib,0,none⟩),.int .i64 E]) (by simp [results,Tryz.results202,go_sem,d0,d1,d2,d3]) rfl ⟨ib,by rw [HQ.out.1,HQ.out.2.2],by rw [hf0];have:=HL.out;omega,?_,?_⟩
   ·rw [HQ.out.2.1];exact fU.rY HI3.out (HK3.out.get (.tail _ (.tail _ (.head _)))) (by have:=HL.out;omega) _ _ _ _
   ·exact(((HK3.out.sub (l':=[(f0+1,151,#[.int .i64 0,.bool false,.pointer none,.int .i64 0])]) (fun t m=> .tail _ (.tail _ m))).rY (by omega) (fun t m=>by cases m) (.int .i64 0) (.bool sg) (.pointer (some ⟨ib,0,none⟩)) (.int .i64 E))).2
end
section
set_option maxRecDepth 100000
set_option maxHeartbeats 6400000
open Go.RowKit
theorem aUo (b:Nat) (w:World) (hb:W64 b) (hn:aU b=false):Calls Tryz.prog 169 #[.int .u64 (b:Nat)] w (pI (dM b) (aQ b) (bJ b:Nat) (bT b) w):=by
 have HD:=jH fun W=>mV W
 have HT:=jH fun W=>aMz b W hb hn
 have HK:=jH ((Bks.nil w).alloc #[.int .i64 0,.bool false,.pointer none,.int .i64 0] 151)
 go_enter Tryz.func169,Tryz.ntmps169
 go_wp2_with fail
 refine(HD.out _).mono ?_
 rintro e0 w0 ⟨rfl,hb0⟩
 replace HK:=jH (HK.out.later hb0)
 clear hb0
 go_wp2_with fail
 refine(HT.out _).mono ?_
 rintro e9 w9 ⟨p,rfl,hp,hi,hb9⟩
 have HL:Hid (w.heap.size<p):=jH (by have:=HK.out.lt _ (.head _);omega)
 replace HK:=jH (HK.out.later hb9)
 have HI:=jH hi
 clear hp hi hb9
 unfold iJ
 obtain⟨⟨d0,d1,d2,d3⟩,d4,d5,d6,d7⟩:=(HK.out.get (.head _)).cells4
 go_wp2
 refine bodyPost_ret (v:= .agg #[.int .i64 (dM b),.bool (aQ b),.pointer (some ⟨p,0,none⟩),.int .i64 (bT b)]) (by simp [results,Tryz.results169,go_sem,d0,d1,d2,d3]) rfl ⟨p,rfl,Nat.le_of_lt HL.out,fU.rY HI.out (HK.out.get (.head _)) (Nat.ne_of_gt HL.out) _ _ _ _,(HK.out.rY (Nat.le_refl _) (fun t m=>by cases m) (.int .i64 (dM b)) (.bool (aQ b)) (.pointer (some ⟨p,0,none⟩)) (.int .i64 (bT b))).2⟩
theorem jJ (b:Nat) (w:World) (hb:W64 b) (hn:aU b=false):Calls Tryz.prog 139 #[.float .f64 b] w (pI (dM b) (aQ b) (bJ b:Nat) (bT b) w):=by
 have HO:=jH fun W=>aUo b W hb hn
 have h1:=gZ b
 have HK:=jH ((Bks.nil w).alloc #[.int .i64 0,.bool false,.pointer none,.int .i64 0] 151)
 go_enter Tryz.func139,Tryz.ntmps139
 go_wp2_with fail
 refine(HO.out _).mono ?_
 rintro e9 w9 ⟨p,rfl,hp,hi,hb9⟩
 have HL:Hid (w.heap.size<p):=jH (by have:=HK.out.lt _ (.head _);omega)
 replace HK:=jH (HK.out.later hb9)
 have HI:=jH hi
 clear hp hi hb9
 unfold iJ
 obtain⟨⟨d0,d1,d2,d3⟩,d4,d5,d6,d7⟩:=(HK.out.get (.head _)).cells4
 go_wp2
 refine bodyPost_ret (v:= .agg #[.int .i64 (dM b),.bool (aQ b),.pointer (some ⟨p,0,none⟩),.int .i64 (bT b)]) (by simp [results,Tryz.results139,go_sem,d0,d1,d2,d3]) rfl ⟨p,rfl,Nat.le_of_lt HL.out,fU.rY HI.out (HK.out.get (.head _)) (Nat.ne_of_gt HL.out) _ _ _ _,(HK.out.rY (Nat.le_refl _) (fun t m=>by cases m) (.int .i64 (dM b)) (.bool (aQ b)) (.pointer (some ⟨p,0,none⟩)) (.int .i64 (bT b))).2⟩
theorem qJ (b:Nat) (fl:Int) (w:World):Calls Tryz.prog 137 #[.int .u64 (b:Nat),.int .i64 fl] w (Gives (.float .f64 b) w):=by
 have h1:=lM b
 go_enter Tryz.func137,Tryz.ntmps137
 go_wp2
 go_ret
 exact⟨rfl,Below.refl _ _⟩
theorem qO (neg:Bool) (p N:Nat) (e:Int) (w:World) (hp:fU w p (N:Int)):Calls Tryz.prog 166 #[iJ 0 neg p e] w (Gives (.bool (decide (N=0))) w):=by
 have HP:=jH hp
 have HK:=jH ((Bks.nil w).alloc #[.int .i64 0,.bool neg,.pointer (some ⟨p,0,none⟩),.int .i64 e] 151)
 have HS:=jH fun W h=>wH p 0 (N:Int) W h
 have hsg:((N:Int).sign==0)=decide (N=0):=by by_cases h:N=0<;>simp [h]
 generalize (N:Int).sign=sg at*
 generalize decide (N=0)=b at*
 clear hp
 unfold iJ
 go_enter Tryz.func166,Tryz.ntmps166
 obtain⟨⟨c0,c1,c2,c3⟩,-⟩:=(HK.out.get (.head _)).cells4
 go_wp2_with fail
 refine(HS.out _ (HP.out.below HK.out.2)).mono ?_
 rintro e1 w1 ⟨rfl,rfl⟩
 go_wp2
 go_ret
 exact⟨rfl,HK.out.2⟩
def aQv (z:Int) (w:World) (en:Ending) (w':World):Prop:=∃b,en= .returned (.pointer (some ⟨b,0,none⟩))∧w.heap.size≤b∧fU w' b z∧Below w.heap.size w w'
theorem aAs (k:Int) (neg:Bool) (p N:Nat) (E e:Int) (w:World) (hp:fU w p (N:Int)) (he:e≤E) (hE:E-e≤16777216) (hl:ln 32 N≤1048576):
  Calls Tryz.prog 163 #[iJ k neg p E,.int .i64 e] w (aQv (sgI neg N*2^(E-e).toNat) w):=by
 obtain⟨s,hs⟩:∃s:Nat,E-e=s:=⟨(E-e).toNat,by omega⟩
 have HP:=jH hp
 have hsl:s≤16777216:=by omega
 have HLS:=jH fun b W h1 h2=>vC b 0 p 0 s (N:Int) W h1 h2 (by rw [Int.natAbs_natCast];omega) (by omega)
 have HZ:Hid (sgI neg N*2^(E-e).toNat=if neg then-((N:Int)*2^s)else(N:Int)*2^s):=jH (by rw [hs,Int.toNat_natCast];cases neg<;>simp [sgI,Int.neg_mul])
 have HK:=jH ((Bks.nil w).alloc #[.int .i64 k,.bool neg,.pointer (some ⟨p,0,none⟩),.int .i64 E] 151)
 have hw:IntKind.i64.wrap (E-e)=(s:Int):=by rw [hs];exact IntWalk.i64_in _ (by omega)
 generalize sgI neg N*2^(E-e).toNat=Z at*
 obtain⟨T,hT⟩:∃t:Int,(N:Int)*2^s=t:=⟨_,rfl⟩
 rw [hT]at HLS HZ
 clear hp hl hT
 unfold iJ aQv
 obtain⟨f0,hf0⟩:∃f,w.heap.size=f:=⟨_,rfl⟩
 rw [hf0]at HK
 go_enter Tryz.func163,Tryz.ntmps163
 obtain⟨⟨c0,c1,c2,c3⟩,-⟩:=(HK.out.get (.head _)).cells4
 go_wp2_with fail
 clear c0 c1 c2 c3
 have HJ0:Hid (Its w _ []):=jH ⟨fun t m=>(by cases m),HK.out.2⟩
 have HJ1:=jH HJ0.out.alloc
 have hsz:(w.alloc (.cells #[.int .i64 k,.bool neg,.pointer (some ⟨p,0,none⟩),.int .i64 E] 151)).heap.size=f0+1:=by simp [hf0]
 rw [hsz]at HJ1
 have HK1:=jH (HK.out.later (Below.aA _ (.cells #[.bool false,.slice none 0 0] 175)))
 refine(HLS.out _ _ (HJ1.out.get (.head _)).1 (HP.out.below HJ1.out.2)).mono ?_
 rintro e1 w1 ⟨rfl,hi1,hm1⟩
 have HJ:=jH (HJ1.out.puts (by omega) (fun t m=>by cases m) hm1 hi1)
 have HK2:=jH (HK1.out.mod hm1 (fun t m=>by simp only [List.mem_cons,List.not_mem_nil,or_false]at m;subst m;simp) (by omega))
 clear hi1 hm1 hsz HJ0 HJ1 HK1 HK
 obtain⟨⟨c0,c1,c2,c3⟩,-⟩:=(HK2.out.get (.head _)).cells4
 cases neg
 ·go_wp2
  go_ret
  refine⟨f0+1,rfl,by omega,?_,HJ.out.2⟩
  rw [HZ.out];exact HJ.out.get (.head _)
 ·go_wp2_with fail
  refine(aQy (f0+1) 0 (f0+1) 0 T _ (HJ.out.get (.head _)).1 (HJ.out.get (.head _))).mono ?_
  rintro e2 w2 ⟨rfl,hi2,hm2⟩
  replace HJ:=jH (HJ.out.puts (by omega) (fun t m=>by cases m) hm2 hi2)
  clear hi2 hm2 c0 c1 c2 c3
  go_wp2
  go_ret
  refine⟨f0+1,rfl,by omega,?_,HJ.out.2⟩
  rw [HZ.out];exact HJ.out.get (.head _)
theorem aNw (N s:Nat):bl (N*2^s)≤bl N+s:=by
 by_cases h:N=0
 ·subst h;rw [Nat.zero_mul];omega
 ·exact Nat.le_of_eq (aK7 h)
theorem aQc (a b:Int) (ts:Array TypeId) (t:TypeId) (w:World):(Builtin.min_ ts t #[.int .i64 a,.int .i64 b]).run Tryz.prog w= .ok (.int .i64 (min a b)) w:=by
 have e:∀x y:Int,(if y<x then y else x)=min x y:=by intro x y;split<;>omega
 simp [Builtin.min_,Builtin.min2,e]
theorem Bks.ab4 {w0 W:World}{l:List (Nat×Nat×Array Value)}{c x y t u v:Nat}{cs:Array Value}{a b d e a' b' d' e':Value}(h:Bks w0 W ((c,t,cs)::(x,u,#[a,b,d,e])::(y,v,#[a',b',d',e'])::l)):
  (W.cell? ⟨x,0,none⟩=some a∧W.cell? ⟨x,1,none⟩=some b∧W.cell? ⟨x,2,none⟩=some d∧W.cell? ⟨x,3,none⟩=some e)∧W.cell? ⟨y,0,none⟩=some a'∧W.cell? ⟨y,1,none⟩=some b'∧W.cell? ⟨y,2,none⟩=some d'∧W.cell? ⟨y,3,none⟩=some e':=
 ⟨(h.get (.tail _ (.head _))).cells4.1,(h.get (.tail _ (.tail _ (.head _)))).cells4.1⟩
def aGj (na:Bool) (A:Nat) (ea:Int) (nb:Bool) (B:Nat) (eb:Int):Int:=sgI na A*2^(ea-min ea eb).toNat+sgI nb B*2^(eb-min ea eb).toNat
theorem aHc {neg:Bool}{N s:Nat}(hl:bl N≤1048576) (hs:s≤16777216):ln 32 (sgI neg N*2^s).natAbs≤68719476736:=by
 rw [Int.natAbs_mul,wC,Int.natAbs_pow]
 exact Nat.le_trans (dV 32 _ (by decide)) (Nat.le_trans (aNw N s) (by omega))
end
section
open Go.RowKit
attribute [local go_sem] bG
theorem nU {x:Nat}(f:aK x=true):dM x=0:=by unfold dM;rw [f];rfl
theorem aBe {x:Nat}(f:aK x=true) {M:Int}(hM:1074≤M):sc M (sgI (aQ x) (bJ x)) (bT x)=sc M (aO x) (pE x):=by
 rw [aBs f M hM]
 unfold bJ bT sgI
 rw [f]
 rfl
theorem nG {x:Nat}(f:aK x=true): -1074≤bT x∧bT x≤971:=by unfold bT;rw [f];exact dI f
theorem nH (x:Nat):bl (bJ x)≤53:=by
 refine aY ?_
 unfold bJ
 split
 ·exact fP x
 ·decide
theorem aU6 (S:Int):sgI (decide (S<0)) S.natAbs=S:=by
 unfold sgI
 split
 ·rename_i h;have:=of_decide_eq_true h;omega
 ·rename_i h;have:¬S<0:=fun t=>h (decide_eq_true t);omega
theorem aU2 {na nb:Bool}{A B:Nat}{ea eb M:Int}(h1:0≤ea+M) (h2:0≤eb+M):sc M (aGj na A ea nb B eb) (min ea eb)=sc M (sgI na A) ea+sc M (sgI nb B) eb:=by
 unfold aGj sc
 rw [Int.add_mul,Int.mul_assoc,Int.mul_assoc,←Int.pow_add,←Int.pow_add]
 congr 3<;>congr 1<;>omega
theorem aUn {na nb:Bool}{A B:Nat}{ea eb:Int}{k:Nat}(hA:bl A≤k) (hB:bl B≤k):bl (aGj na A ea nb B eb).natAbs≤k+(ea-eb).natAbs+1:=by
 have h1:(aGj na A ea nb B eb).natAbs≤A*2^(ea-min ea eb).toNat+B*2^(eb-min ea eb).toNat:=by
  unfold aGj
  refine Nat.le_trans (Int.natAbs_add_le _ _) ?_
  rw [Int.natAbs_mul,Int.natAbs_mul,wC,wC,Int.natAbs_pow,Int.natAbs_pow]
  exact Nat.le_refl _
 have h2:=aPl (A*2^(ea-min ea eb).toNat) (B*2^(eb-min ea eb).toNat)
 have h3:=fG A (ea-min ea eb).toNat
 have h4:=fG B (eb-min ea eb).toNat
 have h5:bl (aGj na A ea nb B eb).natAbs≤bl (A*2^(ea-min ea eb).toNat+B*2^(eb-min ea eb).toNat):=aY (Nat.lt_of_le_of_lt h1 (lC _))
 omega
theorem aE5 {M z e y f:Int}(mode:Int) (hM:0≤M) (h1:0≤e+M) (h2:0≤f+M) (h:sc M z e=sc M y f):ky (aV z e mode)=ky (aV y f mode):=
 Int.le_antisymm (pV mode hM h1 h2 (Int.le_of_eq h)) (pV mode hM h2 h1 (Int.le_of_eq h.symm))
theorem aPs (x:Nat) (w:World) (hx:W64 x) (n:aU x=false):Calls Tryz.prog 140 #[.float .f64 x,.int .i64 0] w (Gives (.bool (!aK x)) w):=by
 have h:=aMo x w hx (dH n)
 rwa [show decide (x%aH=aG)= !aK x by
  have h1:=dH n
  have h2:x<18446744073709551616:=hx
  unfold aK eF
  unfold aG aH aT at*
  rw [Bool.eq_iff_iff];simp;omega]at h
end
end Go.Proofs.YtfmecpembnmnkaaGreatDoor
