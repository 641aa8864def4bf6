/- Walks: what the laws of layer 9 ask ahead and behind. Printed by wip/gen/ch17.py. -/
import Derived.Test.YtfmecpembnmnkaaGreatDoorPLF
import Derived.Test.YtfmecpembnmnkaaGreatDoorPLD
import Derived.Test.YtfmecpembnmnkaaGreatDoorPGR
namespace Go.Proofs.YtfmecpembnmnkaaGreatDoor
set_option maxRecDepth 100000
set_option maxHeartbeats 6400000
open Go.RowKit
attribute [local go_sem] bG
def aw4 :List Nat:=[4616189618054758400,4611686018427387904,4611686018427387904,4617315517961601024]
def aw2 :List Nat:=[4620693217682128896,4621256167635550208]
def aXz :List Nat:=[4611686018427387904,0,4607182418800017408,4611686018427387904]
def aX8 :List Nat:=[4608871268660281344,4608308318706860032]
theorem aBa :jR 2 2 aw4=0∧uM 2 2 aw4=0∧wY 2 2 aw4=2∧nD 2 2 aw4=aXz:=by refine⟨?_,?_,?_,?_⟩<;>decide+kernel
theorem aJ3 :wJ 2 2 aw4 aw2=0∧aDr 2 2 aw4 aw2=0∧aAa 2 2 aw4 aw2=aX8:=by refine⟨?_,?_,?_⟩<;>decide+kernel
theorem aO6 :iC 2 2 aw4=0∧aHl 2 2 aw4=true:=by refine⟨?_,?_⟩<;>decide+kernel
theorem aL7 (w:World) (l:List Nat) (hl:l.length≤4096) (hx:∀x∈l,x<18446744073709551616):FSl (w.alloc (.cells (l.map (Value.float .f64)).toArray 35)) (.slice (some ⟨w.heap.size,0,none⟩) l.length l.length) l:=
 ⟨_,_,rfl,Nat.le_refl _,by omega,hx,fun _=>⟨w.heap.size,0,rfl,by simp,fun i hi=>by
  rw [cell_of_row _ w.heap.size _ _ _ _ (heap_alloc_new w _)]
  simp [hi]⟩⟩
theorem aH9 (w:World) (a b c d:Nat) (h:∀x∈[a,b,c,d],x<18446744073709551616):FSl (w.alloc (.cells #[.float .f64 a,.float .f64 b,.float .f64 c,.float .f64 d] 35)) (.slice (some ⟨w.heap.size,0,none⟩) 4 4) [a,b,c,d]:=aL7 w [a,b,c,d] (by simp) h
theorem aIm (w:World) (a b:Nat) (h:∀x∈[a,b],x<18446744073709551616):FSl (w.alloc (.cells #[.float .f64 a,.float .f64 b] 35)) (.slice (some ⟨w.heap.size,0,none⟩) 2 2) [a,b]:=aL7 w [a,b] (by simp) h
theorem aCb (va vb:Value) (l:List Nat) (w:World) (ha:FSl w va l) (hb:FSl w vb l):Calls Tryz.prog 20 #[va,vb] w (Gives (.bool true) w):=by
 obtain⟨ao,ca,rfl,-,hn,hx,hca⟩:=ha
 obtain⟨bo,cb,rfl,-,-,-,hcb⟩:=hb
 have HA:=jH hca
 have HB:=jH hcb
 clear hca hcb hx
 go_enter Tryz.func20,Tryz.ntmps20
 go_wp2
 go_loopw [13] (fun i wr=>∃k:Nat,k≤l.length∧i= .int .i64 k∧Hid (Below w.heap.size w wr)) (fun i _=>l.length-(intOf i).toNat)
 case atStart=>exact⟨0,Nat.zero_le _,rfl,jH (Below.refl _ _)⟩
 case round=>
  obtain⟨k,hk,rfl,HW⟩:=hrel
  by_cases hlt:k<l.length
  ·obtain⟨b,off,rfl,h1,h2⟩:=HA.out (by omega)
   obtain⟨d,of2,rfl,h3,h4⟩:=HB.out (by omega)
   have c0:=(HW.out.cell (p:=⟨b,off+k,none⟩) h1).trans (h2 k hlt)
   have c1:=(HW.out.cell (p:=⟨d,of2+k,none⟩) h3).trans (h4 k hlt)
   have hf:=gZ l[k]
   have hne:(((l[k]:Nat):Int) !=((l[k]:Nat):Int))=false:=by simp
   have C0:=jH (fun W (hb:Below w.heap.size w W)=>And.intro ((hb.cell (p:=⟨b,off+k,none⟩) h1).trans (h2 k hlt)) ((hb.cell (p:=⟨d,of2+k,none⟩) h3).trans (h4 k hlt)))
   clear h1 h2 h3 h4 c0 c1
   generalize l[k]=x at*
   go_upto_region 6 with fail
   refine aC (fun w':World=>w'.cell? ⟨b,off+k,none⟩=some (.float .f64 x)∧w'.cell? ⟨d,of2+k,none⟩=some (.float .f64 x)) 9 (.take 0 (.take 1 (.take 2 (.take 3 (.take 5 (.take 6 (.take 7 (.take 8 (.run 4 .nil))))))))) (by kernel_rfl) (by kernel_rfl) ?_
   have HX:=jH (HW.out.trans ((aB wr).mono HW.out.size))
   generalize World.drew wr=W5 at HX ⊢
   repeat (refine tkL (v:= ?_) rfl rfl rfl (fun w' hSw=> ?_) (C0.out _ (HX.out)) ?_;rotate_left;(focus (go_simp;with_reducible rfl));simp only [aF])
   refine aI rfl rfl fun K' hK=> ?_
   go_simp
   refine hK _ _ (C0.out _ (HX.out)) ?_
   clear hK K'
   try simp only [Act.put,aF]
   repeat (refine tkL (v:= ?_) rfl rfl rfl (fun w' hSw=> ?_) (C0.out _ (HX.out)) ?_;rotate_left;(focus (go_simp;with_reducible rfl));simp only [aF])
   refine aN ?_
   simp only [drL]
   go_wp2
   go_roundw
   case rel=>exact⟨k+1,by omega,by go_num,HX⟩
   case measure=>simp [intOf]<;>omega
  ·obtain rfl:k=l.length:=by omega
   go_wp2
   go_ret
   exact⟨rfl,HW.out⟩
theorem aNq (r c:Int) (va vb:Value) (l:List Nat) (w:World) (ha:FSl w va l) (hb:FSl w vb l):Calls Tryz.prog 17 #[kG r c va,kG r c vb] w (Gives (.bool true) w):=by
 have HM:Hid (aJ ((w.alloc (.cells #[.int .i64 r,.int .i64 c,va] 25)).alloc (.cells #[.int .i64 r,.int .i64 c,vb] 25)) w.heap.size 25 #[.int .i64 r,.int .i64 c,va]∧aJ ((w.alloc (.cells #[.int .i64 r,.int .i64 c,va] 25)).alloc (.cells #[.int .i64 r,.int .i64 c,vb] 25)) (w.heap.size+1) 25 #[.int .i64 r,.int .i64 c,vb]):=jH ⟨(aJ.new w _ _).alloc _,aJ.new1 w _ _ _⟩
 have HL:=jH (aCb va vb l _ (ha.below (below2 w (.cells #[.int .i64 r,.int .i64 c,va] 25) (.cells #[.int .i64 r,.int .i64 c,vb] 25))) (hb.below (below2 w (.cells #[.int .i64 r,.int .i64 c,va] 25) (.cells #[.int .i64 r,.int .i64 c,vb] 25))))
 have HB:=jH (below2 w (.cells #[.int .i64 r,.int .i64 c,va] 25) (.cells #[.int .i64 r,.int .i64 c,vb] 25))
 obtain⟨ao,ca,rfl,-⟩:=id ha
 obtain⟨bo,cb,rfl,-⟩:=id hb
 clear ha hb
 go_enter Tryz.func17,Tryz.ntmps17
 go_upto_region 1 with fail
 generalize World.alloc (World.alloc w _) _=W0 at*
 obtain⟨a0,a1,a2,-⟩:=HM.out.1.cells3
 obtain⟨b0,b1,b2,-⟩:=HM.out.2.cells3
 have h1:(r==r)=true:=by simp
 have h2:(c==c)=true:=by simp
 go_wp2_with fail
 refine HL.out.mono ?_
 rintro e1 w1 ⟨rfl,hb1⟩
 have HB2:=jH (HB.out.trans (hb1.mono HB.out.size))
 clear hb1 a0 a1 a2 b0 b1 b2 HM HB HL
 go_wp2
 go_ret
 exact⟨rfl,HB2.out⟩
theorem aOu (v:Value) (l:List Nat) (w:World) (hl:USl w v l):
  Calls Tryz.prog 23 #[v] w fun en w'=>∃u,en= .returned u∧FSl w' u l∧(∀a c d,u= .slice (some a) c d→w.heap.size≤a.block)∧Below w.heap.size w w':=by
 obtain⟨i0,hi,hz0,hz1,hz2⟩:=info_parts Tryz.info35
 obtain⟨ao,cap,rfl,hcap,hn,hx,hc⟩:=hl
 have HC:=jH hc
 have HX:=jH hx
 clear hc hx
 go_enter Tryz.func23,Tryz.ntmps23
 go_wp2
 go_loopw [3,8] (fun u i wr=>∃k:Nat,k≤l.length∧i= .int .i64 k∧Hid (wr.ownsRow w.heap.size 35 1 u k (aBu (l.take k))∧Below w.heap.size w wr)) (fun _ i _=>l.length-(intOf i).toNat)
 case atStart=>exact⟨0,Nat.zero_le _,rfl,jH ⟨World.ownsRow_nil _ _ _ _,Below.refl _ _⟩⟩
 case round=>
  obtain⟨k,hk,rfl,HR⟩:=hrel
  obtain⟨ao2,cap2,rfl⟩:=iM HR.out.1
  by_cases hlt:k<l.length
  ·obtain⟨b,off,rfl,hb,hcc⟩:=HC.out (by omega)
   have hck:=(HR.out.2.cell (p:=⟨b,off+k,none⟩) hb).trans (hcc k hlt)
   have HSU:=jH (aSm hlt)
   have hfr:=lM l[k]
   clear hcc
   generalize l[k]=x at*
   have HOW:=jH fun o=>HR.out.1.kept (oP (Below.aA wr o)) (by cases(Value.slice ao2 k cap2).ownBlock<;>simp)
   have HNW:=jH fun W=>cell_one_new W (.float .f64 x) 35
   go_wp2_with (at_builtin;refine wpList_append_own _ rfl _ _ 23 rfl w.heap.size 35 i0 (.float .f64 0) 1 8 Tryz.underlying23 hi hz0 hz1 hz2 rfl (by decide) _ _ _ rfl (HOW.out _) ⟨_,0,none⟩ 1 1 [.float .f64 x] rfl rfl (HNW.out _) ?c2 ?c3 ?c4 ?c5 ?_)
   case c2=>intro u hu;simp only [List.mem_singleton]at hu;subst hu;rfl
   case c3=>unfold maxLen;omega
   case c4=>omega
   case c5=>exact Nat.le_trans HR.out.2.size (by simp)
   intro v' U4 hown hgrow _
   rw [←HSU.out]at hown
   have HR2:=jH hown
   have HB2:=jH ((HR.out.2.trans ((Below.aA wr _).mono HR.out.2.size)).grown hgrow (Nat.le_trans HR.out.2.size (by simp)) (fun j hj=>(HR.out.1.lt j hj).1))
   obtain⟨ao',cap',hv'⟩:=iM hown
   rw [hv']at HR2 ⊢
   clear hown hgrow hv' HNW HOW hck hfr
   go_wp2
   go_roundw
   case rel=>exact⟨k+1,by omega,by go_num,jH ⟨HR2.out,HB2.out⟩⟩
   case measure=>simp [intOf];omega
  ·obtain rfl:k=l.length:=by omega
   have HT:Hid (l.take l.length=l):=jH List.take_length
   rw [HT.out]at HR
   go_wp2
   go_ret
   exact⟨_,rfl,FSl.mM HR.out.1 hn HX.out,fun a c d e=>(HR.out.1.lt a.block (by have e2:Value.slice ao2 l.length cap2= .slice (some a) c d:=e;rw [e2];rfl)).1,HR.out.2⟩
theorem aTa (r c:Int) (v:Value) (l:List Nat) (w:World) (hl:USl w v l):Calls Tryz.prog 8 #[.int .i64 r,.int .i64 c,v] w fun e w'=>∃u,e= .returned (kG r c u)∧FSl w' u l∧Below w.heap.size w w':=by
 have HO:=jH (aOu v l _ (hl.below (Below.aA w (.cells #[.int .i64 0,.int .i64 0,.slice none 0 0] 25))))
 have HR:Hid (MBx w (w.alloc (.cells #[.int .i64 0,.int .i64 0,.slice none 0 0] 25)) w.heap.size 0 0 (.slice none 0 0)):=jH (MBx.new w _ _ _)
 clear hl
 go_enter Tryz.func8,Tryz.ntmps8
 go_wp2_with fail
 have HSZ:Hid (w.heap.size<(w.alloc (.cells #[.int .i64 0,.int .i64 0,.slice none 0 0] 25)).heap.size):=jH (by simp)
 generalize World.alloc w _=W0 at*
 refine HO.out.mono ?_
 rintro e1 w1 ⟨u,rfl,hu,hun,hb1⟩
 obtain⟨uo,uc,rfl,-⟩:=id hu
 have HFU:Hid (∀(a b c:Value),FSl (((w1.setCell ⟨w.heap.size,0,none⟩ a).setCell ⟨w.heap.size,1,none⟩ b).setCell ⟨w.heap.size,2,none⟩ c) (.slice uo l.length uc) l):=jH fun a b c=>(FSn.upd ⟨hu,fun _ x p q e=>by have:=hun x p q e;have h2:=HSZ.out;omega⟩ (((Upd.set (b:=w.heap.size) a).trans (Upd.set (b:=w.heap.size) b)).trans (Upd.set (b:=w.heap.size) c))).1
 replace HR:=jH (HR.out.later hb1)
 clear hu hun hb1 HO HSZ
 obtain⟨r0,r1,r2⟩:=HR.out.m3
 have f0:=HR.out.m.frozen 0
 have f1:=HR.out.m.frozen 1
 have f2:=HR.out.m.frozen 2
 go_wp2
 refine bodyPost_ret (v:=kG r c (.slice uo l.length uc)) (by simp [results,Tryz.results8,go_sem,r0,r1,r2]) rfl ⟨_,rfl,HFU.out _ _ _,uP HR.out.b _ (Nat.le_refl _) _ _ _⟩
structure AwR (w0 W:World) (mb:Nat) (av:Value):Prop where
 m:aJ W mb 25 #[.int .i64 2,.int .i64 2,av]
 l:FSl W av aw4
 T:dR W
 b:Below w0.heap.size w0 W
theorem AwR.later {w0 W V:World}{mb:Nat}{av:Value}(h:AwR w0 W mb av) (hb:Below W.heap.size W V):AwR w0 V mb av:=⟨h.m.below hb,h.l.below hb,h.T.below hb,h.b.trans (hb.mono h.b.size)⟩
theorem aJ7 (w:World) (hT:dR w):Calls Tryz.prog 14 #[] w (Gives (.bool true) w):=by
 have HM:Hid (AwR w ((w.alloc (.cells #[.float .f64 4616189618054758400,.float .f64 4611686018427387904,.float .f64 4611686018427387904,.float .f64 4617315517961601024] 35)).alloc (.cells #[.int .i64 2,.int .i64 2,.slice (some ⟨w.heap.size,0,none⟩) 4 4] 25)) (w.heap.size+1) (.slice (some ⟨w.heap.size,0,none⟩) 4 4)):=jH ⟨aJ.new1 w _ _ _,(aH9 w _ _ _ _ (by decide)).below (Below.aA _ _),hT.below (below2 w _ _),below2 w _ _⟩
 have HCH:=jH fun W sl (h:FSl W sl aw4)=>aGe 2 2 sl aw4 W h
 rw [aBa.1,aBa.2.1,aBa.2.2.1,aBa.2.2.2]at HCH
 have HSV:=jH fun W sl bv (h:FSl W sl aw4) (hb:FSl W bv aw2)=>aNi 2 2 sl aw4 bv aw2 W h hb
 rw [aJ3.1,aJ3.2.1,aJ3.2.2]at HSV
 have HVE:=jH fun W sl (h:FSl W sl aw4) (ht:dR W)=>zB 2 2 sl aw4 W h ht
 rw [aO6.1,aO6.2]at HVE
 clear hT
 go_enter Tryz.func14,Tryz.ntmps14
 go_upto_region 2 with fail
 generalize World.alloc (World.alloc w _) _=W0 at*
 generalize w.heap.size+1=mb at*
 obtain⟨m0,m1,m2,-⟩:=HM.out.m.cells3
 go_wp2_with fail
 refine(HCH.out _ _ HM.out.l).mono ?_
 rintro e1 w1 ⟨u,rfl,hu,-,hb1⟩
 obtain⟨ul,hul⟩:∃ul,ul=u:=⟨_,rfl⟩
 obtain⟨uo,uc,hue,-⟩:=id hu
 generalize List.length _=un at hue
 subst hul
 subst hue
 replace HM:=jH (HM.out.later hb1)
 clear hb1 m0 m1 m2 HCH
 go_upto_region 3 with fail
 have HUB:Hid (aJ (w1.alloc (.cells #[.int .i64 2,.int .i64 2,.slice uo un uc] 25)) w1.heap.size 25 #[.int .i64 2,.int .i64 2,.slice uo un uc]):=jH (aJ.new w1 _ _)
 have HU:Hid (FSl (w1.alloc (.cells #[.int .i64 2,.int .i64 2,.slice uo un uc] 25)) (.slice uo un uc) aXz):=jH (hu.below (Below.aA _ _))
 replace HM:=jH (HM.out.later (Below.aA w1 (.cells #[.int .i64 2,.int .i64 2,.slice uo un uc] 25)))
 obtain⟨ub,hub⟩:∃b,w1.heap.size=b:=⟨_,rfl⟩
 rw [hub]at HUB ⊢
 generalize World.alloc w1 _=W1 at*
 clear hub hu
 obtain⟨m0,m1,m2,-⟩:=HM.out.m.cells3
 go_wp2_with fail
 have HL2:=jH (aIm W1 4620693217682128896 4621256167635550208 (by decide))
 have HB2:=Below.aA W1 (.cells #[.float .f64 4620693217682128896,.float .f64 4621256167635550208] 35)
 replace HM:=jH (HM.out.later HB2)
 replace HUB:=jH (HUB.out.below HB2)
 replace HU:=jH (HU.out.below HB2)
 obtain⟨lb,hlb⟩:∃b,W1.heap.size=b:=⟨_,rfl⟩
 rw [hlb]at HL2 ⊢
 clear HB2 hlb m0 m1 m2
 generalize World.alloc W1 _=W2 at*
 refine(HSV.out _ _ _ HM.out.l HL2.out).mono ?_
 rintro e3 w3 ⟨x,rfl,hx,-,hb1⟩
 obtain⟨xl,hxl⟩:∃xl,xl=x:=⟨_,rfl⟩
 obtain⟨xo,xc,hxe,-⟩:=id hx
 generalize List.length _=xn at hxe
 subst hxl
 subst hxe
 replace HM:=jH (HM.out.later hb1)
 replace HUB:=jH (HUB.out.below hb1)
 replace HU:=jH (HU.out.below hb1)
 have HX:=jH hx
 clear hb1 hx HL2 HSV
 obtain⟨m0,m1,m2,-⟩:=HM.out.m.cells3
 go_wp2_with fail
 refine(HVE.out _ _ HM.out.l HM.out.T).mono ?_
 rintro e4 w4 ⟨rfl,hb1⟩
 replace HM:=jH (HM.out.later hb1)
 replace HUB:=jH (HUB.out.below hb1)
 replace HU:=jH (HU.out.below hb1)
 replace HX:=jH (HX.out.below hb1)
 clear hb1 m0 m1 m2 HVE
 obtain⟨m0,m1,m2,-⟩:=HUB.out.cells3
 go_wp2_with fail
 have HL4:=jH (aH9 w4 4611686018427387904 0 4607182418800017408 4611686018427387904 (by decide))
 have HB2:=Below.aA w4 (.cells #[.float .f64 4611686018427387904,.float .f64 0,.float .f64 4607182418800017408,.float .f64 4611686018427387904] 35)
 replace HM:=jH (HM.out.later HB2)
 replace HU:=jH (HU.out.below HB2)
 replace HX:=jH (HX.out.below HB2)
 clear HB2 m0 m1 m2 HUB
 obtain⟨lb,hlb⟩:∃b,w4.heap.size=b:=⟨_,rfl⟩
 rw [hlb]at HL4 ⊢
 clear hlb
 generalize World.alloc w4 _=W4 at*
 refine(aNq 2 2 _ _ _ _ HU.out HL4.out).mono ?_
 rintro e5 w5 ⟨rfl,hb1⟩
 replace HM:=jH (HM.out.later hb1)
 replace HX:=jH (HX.out.below hb1)
 clear hb1 HL4 HU
 go_wp2_with fail
 have HL2:=jH (aIm w5 4608871268660281344 4608308318706860032 (by decide))
 have HB2:=Below.aA w5 (.cells #[.float .f64 4608871268660281344,.float .f64 4608308318706860032] 35)
 replace HM:=jH (HM.out.later HB2)
 replace HX:=jH (HX.out.below HB2)
 clear HB2
 obtain⟨lb,hlb⟩:∃b,w5.heap.size=b:=⟨_,rfl⟩
 rw [hlb]at HL2 ⊢
 clear hlb
 generalize World.alloc w5 _=W5 at*
 refine(aCb _ _ _ _ HX.out HL2.out).mono ?_
 rintro e6 w6 ⟨rfl,hb1⟩
 replace HM:=jH (HM.out.later hb1)
 clear hb1 HL2 HX
 go_wp2
 go_ret
 exact⟨rfl,HM.out.b⟩
end Go.Proofs.YtfmecpembnmnkaaGreatDoor
