/- Walks: the references' format of binary64 (binnacleref02): its words. -/
import Derived.Test.YtfmecpembnmnkaaGreatDoorPKC
import Derived.Test.YtfmecpembnmnkaaGreatDoorPGK
import Derived.Test.YtfmecpembnmnkaaGreatDoorPGT
import Derived.Test.YtfmecpembnmnkaaGreatDoorPGM
namespace Go.Proofs.YtfmecpembnmnkaaGreatDoor
section
set_option maxRecDepth 100000
set_option maxHeartbeats 6400000
open Go.RowKit
def iK :Value:= .agg #[.int .i64 53,.int .i64 (-1022),.int .i64 1023,.int .i64 11]
theorem mV (w:World):Calls Tryz.prog 136 #[] w (Gives iK w):=by
 unfold iK
 go_enter Tryz.func136,Tryz.ntmps136
 go_wp2
 exact bodyPost_ret (v:= .agg #[.int .i64 53,.int .i64 (-1022),.int .i64 1023,.int .i64 11]) (by simp [results,Tryz.results136,go_sem]) rfl ⟨rfl,Below.aA _ _⟩
def rQ (w0 W:World) (b:Nat):Prop:=aJ W b 144 #[.int .i64 53,.int .i64 (-1022),.int .i64 1023,.int .i64 11]∧Below w0.heap.size w0 W
theorem rQ.new (w:World):rQ w (w.alloc (.cells #[.int .i64 53,.int .i64 (-1022),.int .i64 1023,.int .i64 11] 144)) w.heap.size:=⟨aJ.new w _ _,Below.aA w _⟩
theorem rQ.later {w0 W V:World}{b:Nat}(h:rQ w0 W b) (hb:Below W.heap.size W V):rQ w0 V b:=⟨h.1.below hb,h.2.trans (hb.mono h.2.size)⟩
theorem rQ.cells {w0 W:World}{b:Nat}(h:rQ w0 W b):W.cell? ⟨b,0,none⟩=some (.int .i64 53)∧W.cell? ⟨b,1,none⟩=some (.int .i64 (-1022))∧W.cell? ⟨b,2,none⟩=some (.int .i64 1023)∧W.cell? ⟨b,3,none⟩=some (.int .i64 11):=
 ⟨h.1.cell 0,h.1.cell 1,h.1.cell 2,h.1.cell 3⟩
theorem yA (neg:Bool) (e f:Nat) (w:World) (he:e<2048) (hf:f<aT):
  Calls Tryz.prog 190 #[iK,.bool neg,.int .i64 e,.int .u64 f] w (Gives (.int .u64 (dA neg e f:Nat)) w):=by
 have HO:Hid (bits .or .u64 ((e:Int)*4503599627370496) (f:Int)=((e*aT+f:Nat):Int)):=jH (by have:=aKw he hf;rw [Int.natCast_mul]at this;exact this)
 have HJ:Hid ((neg=false→dA neg e f=e*aT+f)∧(neg=true→dA neg e f=aH+(e*aT+f))):=jH ⟨fun h=>by unfold dA;rw [h];simp,fun h=>by unfold dA;rw [h];simp [Nat.add_assoc]⟩
 have HJS:=jH (zW (show e*aT+f<aH by unfold aT aH at*;omega))
 have HW:=jH (rQ.new w)
 have hw1:IntKind.u64.wrap ((e:Int)*4503599627370496)=(e:Int)*4503599627370496:=by rw [IntKind.wrap_u64];omega
 have ho:=HO.out
 obtain⟨c0,c1,c2,c3⟩:=HW.out.cells
 unfold iK
 obtain⟨M,hM⟩:∃M,e*aT+f=M:=⟨_,rfl⟩
 rw [hM]at ho HJ HJS
 obtain⟨J,hJ⟩:∃J,dA neg e f=J:=⟨_,rfl⟩
 rw [hJ]at HJ ⊢
 clear hM hJ HO hf
 cases neg
 ·have hMJ:=jH (HJ.out.1 rfl)
  go_enter Tryz.func190,Tryz.ntmps190
  go_wp2
  go_ret
  exact⟨by rw [hMJ.out];rfl,HW.out.2⟩
 ·have hMJ:=jH (HJ.out.2 rfl)
  go_enter Tryz.func190,Tryz.ntmps190
  go_wp2
  go_ret
  refine⟨?_,HW.out.2⟩
  show Ending.returned (Value.int .u64 (bits .or .u64 (M:Int) 9223372036854775808))=_
  rw [show(9223372036854775808:Int)=(aH:Int)from rfl,HJS.out,hMJ.out]
theorem aG6 (neg:Bool) (w:World):Calls Tryz.prog 173 #[iK,.bool neg] w (Gives (.int .u64 (dA neg 0 0:Nat)) w):=by
 have HW:=jH (rQ.new w)
 have HP:=jH fun W=>yA neg 0 0 W (by decide) (by decide)
 obtain⟨c0,c1,c2,c3⟩:=HW.out.cells
 unfold iK at*
 go_enter Tryz.func173,Tryz.ntmps173
 go_wp2_with fail
 refine(HP.out _).mono ?_
 rintro e1 w1 ⟨rfl,hb1⟩
 have HB:=jH (HW.out.2.trans (hb1.mono HW.out.2.size))
 clear hb1
 go_wp2
 go_ret
 exact⟨rfl,HB.out⟩
theorem iD (neg:Bool) (w:World):Calls Tryz.prog 161 #[iK,.bool neg] w (Gives (.int .u64 (dA neg 2047 0:Nat)) w):=by
 have HW:=jH (rQ.new w)
 have HP:=jH fun W=>yA neg 2047 0 W (by decide) (by decide)
 obtain⟨c0,c1,c2,c3⟩:=HW.out.cells
 unfold iK at*
 go_enter Tryz.func161,Tryz.ntmps161
 go_wp2_with fail
 refine(HP.out _).mono ?_
 rintro e1 w1 ⟨rfl,hb1⟩
 have HB:=jH (HW.out.2.trans (hb1.mono HW.out.2.size))
 clear hb1
 go_wp2
 go_ret
 exact⟨rfl,HB.out⟩
theorem aDg (neg:Bool) (w:World):Calls Tryz.prog 235 #[iK,.bool neg] w (Gives (.int .u64 (dA neg 2046 4503599627370495:Nat)) w):=by
 have HW:=jH (rQ.new w)
 have HP:=jH fun W=>yA neg 2046 4503599627370495 W (by decide) (by decide)
 obtain⟨c0,c1,c2,c3⟩:=HW.out.cells
 unfold iK at*
 go_enter Tryz.func235,Tryz.ntmps235
 go_wp2_with fail
 refine(HP.out _).mono ?_
 rintro e1 w1 ⟨rfl,hb1⟩
 have HB:=jH (HW.out.2.trans (hb1.mono HW.out.2.size))
 clear hb1
 go_wp2
 go_ret
 exact⟨rfl,HB.out⟩
def ovB (neg:Bool) (mode:Int):Nat:=if mode=2∨mode=3∧neg=true∨mode=4∧neg=false then dA neg 2046 4503599627370495 else dA neg 2047 0
theorem aM3 (neg:Bool) (mode:Int) (w:World) (hm:mode=0∨mode=3∨mode=4):Calls Tryz.prog 199 #[iK,.bool neg,.int .i64 mode] w (Gives (.int .u64 (ovB neg mode:Nat)) w):=by
 have HW:=jH (rQ.new w)
 have HG:=jH fun W=>aDg neg W
 have HI:=jH fun W=>iD neg W
 obtain⟨c0,c1,c2,c3⟩:=HW.out.cells
 unfold iK ovB at*
 rcases hm with rfl|rfl|rfl
 ·cases neg
  ·rw [if_neg (by simp)]
   go_enter Tryz.func199,Tryz.ntmps199
   go_wp2_with fail
   refine(HI.out _).mono ?_
   rintro e1 w1 ⟨rfl,hb1⟩
   have HB:=jH (HW.out.2.trans (hb1.mono HW.out.2.size))
   clear hb1
   go_wp2
   go_ret
   exact⟨rfl,HB.out⟩
  ·rw [if_neg (by simp)]
   go_enter Tryz.func199,Tryz.ntmps199
   go_wp2_with fail
   refine(HI.out _).mono ?_
   rintro e1 w1 ⟨rfl,hb1⟩
   have HB:=jH (HW.out.2.trans (hb1.mono HW.out.2.size))
   clear hb1
   go_wp2
   go_ret
   exact⟨rfl,HB.out⟩
 ·cases neg
  ·rw [if_neg (by simp)]
   go_enter Tryz.func199,Tryz.ntmps199
   go_wp2_with fail
   refine(HI.out _).mono ?_
   rintro e1 w1 ⟨rfl,hb1⟩
   have HB:=jH (HW.out.2.trans (hb1.mono HW.out.2.size))
   clear hb1
   go_wp2
   go_ret
   exact⟨rfl,HB.out⟩
  ·rw [if_pos (by simp)]
   go_enter Tryz.func199,Tryz.ntmps199
   go_wp2_with fail
   refine(HG.out _).mono ?_
   rintro e1 w1 ⟨rfl,hb1⟩
   have HB:=jH (HW.out.2.trans (hb1.mono HW.out.2.size))
   clear hb1
   go_wp2
   go_ret
   exact⟨rfl,HB.out⟩
 ·cases neg
  ·rw [if_pos (by simp)]
   go_enter Tryz.func199,Tryz.ntmps199
   go_wp2_with fail
   refine(HG.out _).mono ?_
   rintro e1 w1 ⟨rfl,hb1⟩
   have HB:=jH (HW.out.2.trans (hb1.mono HW.out.2.size))
   clear hb1
   go_wp2
   go_ret
   exact⟨rfl,HB.out⟩
  ·rw [if_neg (by simp)]
   go_enter Tryz.func199,Tryz.ntmps199
   go_wp2_with fail
   refine(HI.out _).mono ?_
   rintro e1 w1 ⟨rfl,hb1⟩
   have HB:=jH (HW.out.2.trans (hb1.mono HW.out.2.size))
   clear hb1
   go_wp2
   go_ret
   exact⟨rfl,HB.out⟩
end
section
set_option maxRecDepth 100000
set_option maxHeartbeats 6400000
open Go.RowKit
def Its (w0 W:World) (l:List (Nat×Int)):Prop:=(∀t∈l,fU W t.1 t.2)∧Below w0.heap.size w0 W
theorem Its.nil (w:World):Its w w []:=⟨fun _ h=>(by cases h),Below.refl _ _⟩
theorem Its.later {w0 W V:World}{l:List (Nat×Int)}(h:Its w0 W l) (hb:Below W.heap.size W V):Its w0 V l:=⟨fun t m=>(h.1 t m).below hb,h.2.trans (hb.mono h.2.size)⟩
theorem Its.get {w0 W:World}{l:List (Nat×Int)}(h:Its w0 W l) {b:Nat}{z:Int}(m:(b,z)∈l):fU W b z:=h.1 _ m
theorem Its.lt {w0 W:World}{l:List (Nat×Int)}(h:Its w0 W l):∀t∈l,t.1<W.heap.size:=fun t m=>(h.1 t m).1.1
theorem Its.sub {w0 W:World}{l l':List (Nat×Int)}(h:Its w0 W l) (hs:∀t∈l',t∈l):Its w0 W l':=⟨fun t m=>h.1 t (hs t m),h.2⟩
theorem Its.cons {w0 W:World}{l:List (Nat×Int)}(h:Its w0 W l) {b:Nat}{z:Int}(hb:fU W b z):Its w0 W ((b,z)::l):=
 ⟨fun t m=>by rcases List.mem_cons.1 m with rfl|m;exact hb;exact h.1 t m,h.2⟩
theorem Its.alloc {w0 W:World}{l:List (Nat×Int)}(h:Its w0 W l):Its w0 (W.alloc (.cells #[.bool false,.slice none 0 0] 175)) ((W.heap.size,0)::l):=
 (h.later (Below.aA W _)).cons (dB.zero (k:= .u32) (s:=32) W _ iZ)
theorem Its.puts {w0 W V:World}{l:List (Nat×Int)}{b:Nat}{z y:Int}(h:Its w0 W ((b,z)::l)) (hb:w0.heap.size≤b) (hn:∀t∈l,t.1≠b) (hm:Mod b 0 W V) (hi:fU V b y):Its w0 V ((b,y)::l):=by
 have h0:=(h.get (.head _)).1
 refine⟨fun t m=> ?_,Mod.below h.2 hm hb h.2.size⟩
 rcases List.mem_cons.1 m with rfl|m
 ·exact hi
 ·exact(h.1 t (.tail _ m)).mod hm (.inl (hn t m)) h0.2.1
def pR (N s:Nat) (more:Bool):Int:=
 if N%2^s=0∧more=false then-2 else if dQ (N%2^s:Nat) (2^(s-1):Nat)=0∧more=true then 1 else dQ (N%2^s:Nat) (2^(s-1):Nat)
def aQe (N s:Nat) (more:Bool) (w:World) (e:Ending) (w':World):Prop:=
 ∃q,e= .returned (.tuple #[.pointer (some ⟨q,0,none⟩),.int .i64 (pR N s more)])∧w.heap.size≤q∧fU w' q (N/2^s:Nat)∧Below w.heap.size w w'
theorem aRx (N s:Nat):(N:Int)/2^s=((N/2^s:Nat):Int)∧(N:Int)-((N/2^s:Nat):Int)*2^s=((N%2^s:Nat):Int):=by
 have h:=Nat.div_add_mod N (2^s)
 refine⟨by simp,?_⟩
 have e:((2^s:Nat):Int)=(2:Int)^s:=by simp
 rw [←e,←Int.natCast_mul]
 rw [Nat.mul_comm]at h
 omega
theorem aRw (p N s:Nat) (more:Bool) (w:World) (hm:fU w p (N:Int)) (hs:1≤s) (hs2:s≤33554432) (hl:ln 32 N≤1048576):
  Calls Tryz.prog 195 #[.pointer (some ⟨p,0,none⟩),.int .i64 s,.bool more] w (aQe N s more w):=by
 obtain⟨i1,i2⟩:=aRx N s
 have HM:=jH hm
 have HI:=jH (And.intro i1 i2)
 have HL:=jH hl
 have HRS:=jH fun b W h1 h2=>aHh b 0 p 0 s (N:Int) W h1 h2 (by rw [Int.natAbs_natCast];omega) (by omega)
 rw [i1]at HRS
 have hlq:ln 32 (N/2^s)≤1048576:=Nat.le_trans (sN (by decide) (Nat.div_le_self _ _)) hl
 have HLS:=jH fun b c W h1 h2=>vC b 0 c 0 s ((N/2^s:Nat):Int) W h1 h2 (by rw [Int.natAbs_natCast];omega) (by omega)
 have hlm:ln 32 (N/2^s*2^s)≤1048576:=Nat.le_trans (sN (by decide) (Nat.div_mul_le_self _ _)) hl
 have HSB:=jH fun b d W h1 h2 h3=>aQq b 0 p 0 d 0 (N:Int) (((N/2^s:Nat):Int)*2^s) W h1 h2 h3 (by rw [Int.natAbs_natCast];omega) (by
  rw [show((N/2^s:Nat):Int)*2^s=((N/2^s*2^s:Nat):Int) by simp,Int.natAbs_natCast];omega)
 rw [i2]at HSB
 generalize ((N/2^s:Nat):Int)*2^s=T at*
 unfold aQe
 obtain⟨R,hR⟩:∃r,N%2^s=r:=⟨_,rfl⟩
 obtain⟨s1,hs1⟩:∃k,s-1=k:=⟨_,rfl⟩
 obtain⟨H,hH⟩:∃h,2^s1=h:=⟨_,rfl⟩
 have hsi:(s:Int)-1=(s1:Int):=by omega
 have HCC:Hid (pR N s more=if R=0∧more=false then-2 else if dQ (R:Int) (H:Int)=0∧more=true then 1 else dQ (R:Int) (H:Int)):=jH (by unfold pR;rw [hR,hs1,hH])
 have HL1:=jH fun b c W h1 h2=>vC b 0 c 0 s1 1 W h1 h2 (by decide) (by omega)
 rw [show(1:Int)*2^s1=(H:Int) by rw [←hH];simp]at HL1
 rw [hR]at HSB
 clear hm i1 i2 hl hlq hlm HI HL hR hs1 hH
 have hs0:((s:Int)==0)=false:=by simp;omega
 generalize N/2^s=Q at*
 go_enter Tryz.func195,Tryz.ntmps195
 go_wp2_with fail
 refine(HRS.out _ _ (dB.zero (k:= .u32) (s:=32) w _ iZ).1 (HM.out.below (Below.aA w _))).mono ?_
 rintro e1 w1 ⟨rfl,hi1,hm1⟩
 have HJ:=jH (((Its.nil w).alloc).puts (Nat.le_refl _) (fun t m=>by cases m) hm1 hi1)
 have HS1:Hid (w.heap.size<w1.heap.size):=jH (HJ.out.lt _ (.head _))
 clear hi1 hm1 HRS
 go_wp2_with fail
 have HJ2:=jH (HJ.out.alloc).alloc
 have hsz:(w1.alloc (.cells #[.bool false,.slice none 0 0] 175)).heap.size=w1.heap.size+1:=by simp
 rw [hsz]at HJ2
 refine(HLS.out _ _ _ (HJ2.out.get (.head _)).1 (HJ2.out.get (.tail _ (.tail _ (.head _))))).mono ?_
 rintro e2 w2 ⟨rfl,hi2,hm2⟩
 replace HJ2:=jH (HJ2.out.puts (by have:=HS1.out;omega) (fun t m=>by have:=HS1.out;simp only [List.mem_cons,List.not_mem_nil,or_false]at m;rcases m with rfl|rfl<;>simp<;>omega) hm2 hi2)
 clear hi2 hm2 HLS hsz
 go_wp2_with fail
 refine(HSB.out _ _ _ (HJ2.out.get (.tail _ (.head _))).1 (HM.out.below HJ2.out.2) (HJ2.out.get (.head _))).mono ?_
 rintro e3 w3 ⟨rfl,hi3,hm3⟩
 have HJ3:=jH ((HJ2.out.sub (l':=[(w1.heap.size,0),(w.heap.size,(Q:Int))]) (fun t m=> .tail _ m)).puts (by have:=HS1.out;omega) (fun t m=>by have:=HS1.out;simp only [List.mem_cons,List.not_mem_nil,or_false]at m;rcases m with rfl;simp;omega) hm3 hi3)
 clear hi3 hm3 HJ2 HJ HSB
 generalize w1.heap.size=b1 at*
 go_wp2_with fail
 have HSG:=jH fun W h=>wH b1 0 (R:Int) W h
 refine(HSG.out _ (HJ3.out.get (.head _))).mono ?_
 rintro e4 w4 ⟨rfl,rfl⟩
 rcases Nat.eq_zero_or_pos R with hr|hr
 ·have HRZ:=jH hr
  have hsg:((R:Int).sign==0)=true:=by rw [hr];rfl
  generalize (R:Int).sign=sg at*
  clear hr
  cases more
  ·have HJ:=jH (HJ3.out.sub (l':=[(w.heap.size,(Q:Int))]) (fun t m=> .tail _ m))
   have HCC2:Hid (pR N s false= -2):=jH (by rw [HCC.out,if_pos ⟨HRZ.out,rfl⟩])
   replace HCC:=HCC2
   clear HCC2
   go_wp2
   exact bodyPost_ret (v:= .tuple #[.pointer (some ⟨w.heap.size,0,none⟩),.int .i64 (-2)]) (by simp [results,Tryz.results195,go_sem]) rfl ⟨w.heap.size,by rw [HCC.out],Nat.le_refl _,HJ.out.get (by simp),HJ.out.2⟩
  ·go_wp2_with fail
   have HJ4:=jH HJ3.out.alloc
   have HS3:Hid (w.heap.size<w3.heap.size∧b1<w3.heap.size):=jH ⟨HJ3.out.lt _ (.tail _ (.head _)),HJ3.out.lt _ (.head _)⟩
   refine(qL 1 _ (by decide) (by decide)).mono ?_
   rintro e5 w5 ⟨c,rfl,hc,hi5,hb5⟩
   have HC5:Hid (w3.heap.size<c):=jH (by simp at hc;omega)
   have HJ5:=jH (((HJ4.out.later hb5).cons hi5).sub (l':=[(w3.heap.size,0),(c,1),(b1,(R:Int)),(w.heap.size,(Q:Int))]) (by intro t m;simp only [List.mem_cons,List.not_mem_nil,or_false]at m ⊢;rcases m with rfl|rfl|rfl|rfl<;>simp))
   clear hc hi5 hb5 HJ4
   go_wp2_with fail
   refine(HL1.out _ _ _ (HJ5.out.get (.head _)).1 (HJ5.out.get (.tail _ (.head _)))).mono ?_
   rintro e6 w6 ⟨rfl,hi6,hm6⟩
   replace HJ5:=jH (HJ5.out.puts (by have:=HS3.out;omega) (fun t m=>by have:=HS3.out;have:=HC5.out;simp only [List.mem_cons,List.not_mem_nil,or_false]at m;rcases m with rfl|rfl|rfl<;>simp<;>omega) hm6 hi6)
   clear hi6 hm6
   go_wp2_with fail
   refine(aC7 b1 0 w3.heap.size 0 R H _ (HJ5.out.get (.tail _ (.tail _ (.head _)))) (HJ5.out.get (.head _))).mono ?_
   rintro e7 w7 ⟨rfl,nd,rfl⟩
   have HJ:=jH ((HJ5.out.later (show Below w6.heap.size w6 (w6.drewN nd)from⟨rfl,rfl,rfl,Nat.le_refl _,fun _ _=>rfl⟩)).sub (l':=[(w.heap.size,(Q:Int))]) (by intro t m;simp only [List.mem_cons,List.not_mem_nil,or_false]at m ⊢;subst m;simp))
   clear HJ5
   generalize w6.drewN nd=w8 at HJ ⊢
   generalize dQ (R:Int) (H:Int)=cz at*
   by_cases hcz:cz=0
   ·have HCC2:Hid (pR N s true=1):=jH (by rw [HCC.out,if_neg (fun t=>by cases t.2),if_pos ⟨hcz,by simp⟩])
    replace HCC:=HCC2
    clear HCC2
    have hcb:(cz==0)=true:=by simp [hcz]
    clear hcz
    go_wp2
    exact bodyPost_ret (v:= .tuple #[.pointer (some ⟨w.heap.size,0,none⟩),.int .i64 1]) (by simp [results,Tryz.results195,go_sem]) rfl ⟨w.heap.size,by rw [HCC.out],Nat.le_refl _,HJ.out.get (by simp),HJ.out.2⟩
   ·have HCC2:Hid (pR N s true=cz):=jH (by rw [HCC.out,if_neg (fun t=>by cases t.2),if_neg (fun t=>hcz t.1)])
    replace HCC:=HCC2
    clear HCC2
    have hcb:(cz==0)=false:=by simp [hcz]
    clear hcz
    go_wp2
    exact bodyPost_ret (v:= .tuple #[.pointer (some ⟨w.heap.size,0,none⟩),.int .i64 cz]) (by simp [results,Tryz.results195,go_sem]) rfl ⟨w.heap.size,by rw [HCC.out],Nat.le_refl _,HJ.out.get (by simp),HJ.out.2⟩
 ·have HRN:Hid (R≠0):=jH (by omega)
  have hsg:((R:Int).sign==0)=false:=by rw [beq_eq_false_iff_ne];intro e;have:=Int.sign_eq_zero_iff_zero.1 e;omega
  generalize (R:Int).sign=sg at*
  clear hr
  cases more
  ·go_wp2_with fail
   have HJ4:=jH HJ3.out.alloc
   have HS3:Hid (w.heap.size<w3.heap.size∧b1<w3.heap.size):=jH ⟨HJ3.out.lt _ (.tail _ (.head _)),HJ3.out.lt _ (.head _)⟩
   refine(qL 1 _ (by decide) (by decide)).mono ?_
   rintro e5 w5 ⟨c,rfl,hc,hi5,hb5⟩
   have HC5:Hid (w3.heap.size<c):=jH (by simp at hc;omega)
   have HJ5:=jH (((HJ4.out.later hb5).cons hi5).sub (l':=[(w3.heap.size,0),(c,1),(b1,(R:Int)),(w.heap.size,(Q:Int))]) (by intro t m;simp only [List.mem_cons,List.not_mem_nil,or_false]at m ⊢;rcases m with rfl|rfl|rfl|rfl<;>simp))
   clear hc hi5 hb5 HJ4
   go_wp2_with fail
   refine(HL1.out _ _ _ (HJ5.out.get (.head _)).1 (HJ5.out.get (.tail _ (.head _)))).mono ?_
   rintro e6 w6 ⟨rfl,hi6,hm6⟩
   replace HJ5:=jH (HJ5.out.puts (by have:=HS3.out;omega) (fun t m=>by have:=HS3.out;have:=HC5.out;simp only [List.mem_cons,List.not_mem_nil,or_false]at m;rcases m with rfl|rfl|rfl<;>simp<;>omega) hm6 hi6)
   clear hi6 hm6
   go_wp2_with fail
   refine(aC7 b1 0 w3.heap.size 0 R H _ (HJ5.out.get (.tail _ (.tail _ (.head _)))) (HJ5.out.get (.head _))).mono ?_
   rintro e7 w7 ⟨rfl,nd,rfl⟩
   have HJ:=jH ((HJ5.out.later (show Below w6.heap.size w6 (w6.drewN nd)from⟨rfl,rfl,rfl,Nat.le_refl _,fun _ _=>rfl⟩)).sub (l':=[(w.heap.size,(Q:Int))]) (by intro t m;simp only [List.mem_cons,List.not_mem_nil,or_false]at m ⊢;subst m;simp))
   clear HJ5
   generalize w6.drewN nd=w8 at HJ ⊢
   generalize dQ (R:Int) (H:Int)=cz at*
   have HCC2:Hid (pR N s false=cz):=jH (by rw [HCC.out,if_neg (fun t=>HRN.out t.1),if_neg (fun t=>by cases t.2)])
   replace HCC:=HCC2
   clear HCC2
   obtain⟨cb,hcb⟩:∃b,(cz==0)=b:=⟨_,rfl⟩
   cases cb
   ·go_wp2
    exact bodyPost_ret (v:= .tuple #[.pointer (some ⟨w.heap.size,0,none⟩),.int .i64 cz]) (by simp [results,Tryz.results195,go_sem]) rfl ⟨w.heap.size,by rw [HCC.out],Nat.le_refl _,HJ.out.get (by simp),HJ.out.2⟩
   ·go_wp2
    exact bodyPost_ret (v:= .tuple #[.pointer (some ⟨w.heap.size,0,none⟩),.int .i64 cz]) (by simp [results,Tryz.results195,go_sem]) rfl ⟨w.heap.size,by rw [HCC.out],Nat.le_refl _,HJ.out.get (by simp),HJ.out.2⟩
  ·go_wp2_with fail
   have HJ4:=jH HJ3.out.alloc
   have HS3:Hid (w.heap.size<w3.heap.size∧b1<w3.heap.size):=jH ⟨HJ3.out.lt _ (.tail _ (.head _)),HJ3.out.lt _ (.head _)⟩
   refine(qL 1 _ (by decide) (by decide)).mono ?_
   rintro e5 w5 ⟨c,rfl,hc,hi5,hb5⟩
   have HC5:Hid (w3.heap.size<c):=jH (by simp at hc;omega)
   have HJ5:=jH (((HJ4.out.later hb5).cons hi5).sub (l':=[(w3.heap.size,0),(c,1),(b1,(R:Int)),(w.heap.size,(Q:Int))]) (by intro t m;simp only [List.mem_cons,List.not_mem_nil,or_false]at m ⊢;rcases m with rfl|rfl|rfl|rfl<;>simp))
   clear hc hi5 hb5 HJ4
   go_wp2_with fail
   refine(HL1.out _ _ _ (HJ5.out.get (.head _)).1 (HJ5.out.get (.tail _ (.head _)))).mono ?_
   rintro e6 w6 ⟨rfl,hi6,hm6⟩
   replace HJ5:=jH (HJ5.out.puts (by have:=HS3.out;omega) (fun t m=>by have:=HS3.out;have:=HC5.out;simp only [List.mem_cons,List.not_mem_nil,or_false]at m;rcases m with rfl|rfl|rfl<;>simp<;>omega) hm6 hi6)
   clear hi6 hm6
   go_wp2_with fail
   refine(aC7 b1 0 w3.heap.size 0 R H _ (HJ5.out.get (.tail _ (.tail _ (.head _)))) (HJ5.out.get (.head _))).mono ?_
   rintro e7 w7 ⟨rfl,nd,rfl⟩
   have HJ:=jH ((HJ5.out.later (show Below w6.heap.size w6 (w6.drewN nd)from⟨rfl,rfl,rfl,Nat.le_refl _,fun _ _=>rfl⟩)).sub (l':=[(w.heap.size,(Q:Int))]) (by intro t m;simp only [List.mem_cons,List.not_mem_nil,or_false]at m ⊢;subst m;simp))
   clear HJ5
   generalize w6.drewN nd=w8 at HJ ⊢
   generalize dQ (R:Int) (H:Int)=cz at*
   by_cases hcz:cz=0
   ·have HCC2:Hid (pR N s true=1):=jH (by rw [HCC.out,if_neg (fun t=>by cases t.2),if_pos ⟨hcz,by simp⟩])
    replace HCC:=HCC2
    clear HCC2
    have hcb:(cz==0)=true:=by simp [hcz]
    clear hcz
    go_wp2
    exact bodyPost_ret (v:= .tuple #[.pointer (some ⟨w.heap.size,0,none⟩),.int .i64 1]) (by simp [results,Tryz.results195,go_sem]) rfl ⟨w.heap.size,by rw [HCC.out],Nat.le_refl _,HJ.out.get (by simp),HJ.out.2⟩
   ·have HCC2:Hid (pR N s true=cz):=jH (by rw [HCC.out,if_neg (fun t=>by cases t.2),if_neg (fun t=>hcz t.1)])
    replace HCC:=HCC2
    clear HCC2
    have hcb:(cz==0)=false:=by simp [hcz]
    clear hcz
    go_wp2
    exact bodyPost_ret (v:= .tuple #[.pointer (some ⟨w.heap.size,0,none⟩),.int .i64 cz]) (by simp [results,Tryz.results195,go_sem]) rfl ⟨w.heap.size,by rw [HCC.out],Nat.le_refl _,HJ.out.get (by simp),HJ.out.2⟩
end
section
set_option maxRecDepth 100000
set_option maxHeartbeats 6400000
open Go.RowKit
def gU (neg:Bool) (Q:Nat) (c mode:Int):Bool:=
 if mode=0 then decide (0<c)||(decide (c=0)&&decide (Q%2=1))else if mode=3 then !neg&&decide (-2<c)else neg&&decide (-2<c)
theorem aHo (neg:Bool) (q Q:Nat) (c mode:Int) (w:World) (hq:fU w q (Q:Int)) (hl:ln 32 Q≤1048576) (hc:c= -2∨c= -1∨c=0∨c=1) (hm:mode=0∨mode=3∨mode=4):
  Calls Tryz.prog 196 #[.bool neg,.pointer (some ⟨q,0,none⟩),.int .i64 c,.int .i64 mode] w (Gives (.bool (gU neg Q c mode)) w):=by
 have HBT:=jH (aRk q 0 (Q:Int) w hq (by rw [Int.natAbs_natCast];omega))
 clear hq hl
 rcases hm with rfl|rfl|rfl
 ·rcases hc with rfl|rfl|rfl|rfl
  ·rw [show gU neg Q (-2) 0=false from rfl]
   go_enter Tryz.func196,Tryz.ntmps196
   go_wp2
   go_ret
   exact⟨rfl,Below.refl _ _⟩
  ·rw [show gU neg Q (-1) 0=false from rfl]
   go_enter Tryz.func196,Tryz.ntmps196
   go_wp2
   go_ret
   exact⟨rfl,Below.refl _ _⟩
  ·obtain⟨b,hb⟩:∃b,decide (Q%2=1)=b:=⟨_,rfl⟩
   have HG:Hid (gU neg Q 0 0=b):=jH (by rw [←hb];unfold gU;simp)
   have HI:Hid ((((Q:Int)%2)==1)=b):=jH (by rw [←hb];by_cases h:Q%2=1<;>simp [h]<;>omega)
   have hi:=HI.out
   generalize (Q:Int)%2=q2 at*
   clear hb HI
   go_enter Tryz.func196,Tryz.ntmps196
   go_wp2_with fail
   refine HBT.out.mono ?_
   rintro e1 w1 ⟨rfl,hb1⟩
   have HB:=jH hb1
   clear hb1
   go_wp2
   go_ret
   exact⟨by rw [HG.out];rfl,HB.out⟩
  ·rw [show gU neg Q 1 0=true from rfl]
   go_enter Tryz.func196,Tryz.ntmps196
   go_wp2
   go_ret
   exact⟨rfl,Below.refl _ _⟩
 ·cases neg
  ·rcases hc with rfl|rfl|rfl|rfl
   ·rw [show gU false Q (-2) 3=false from rfl]
    go_enter Tryz.func196,Tryz.ntmps196
    go_wp2
    go_ret
    exact⟨rfl,Below.refl _ _⟩
   ·rw [show gU false Q (-1) 3=true from rfl]
    go_enter Tryz.func196,Tryz.ntmps196
    go_wp2
    go_ret
    exact⟨rfl,Below.refl _ _⟩
   ·rw [show gU false Q (0) 3=true from rfl]
    go_enter Tryz.func196,Tryz.ntmps196
    go_wp2
    go_ret
    exact⟨rfl,Below.refl _ _⟩
   ·rw [show gU false Q (1) 3=true from rfl]
    go_enter Tryz.func196,Tryz.ntmps196
    go_wp2
    go_ret
    exact⟨rfl,Below.refl _ _⟩
  ·rcases hc with rfl|rfl|rfl|rfl
   ·rw [show gU true Q (-2) 3=false from rfl]
    go_enter Tryz.func196,Tryz.ntmps196
    go_wp2
    go_ret
    exact⟨rfl,Below.refl _ _⟩
   ·rw [show gU true Q (-1) 3=false from rfl]
    go_enter Tryz.func196,Tryz.ntmps196
    go_wp2
    go_ret
    exact⟨rfl,Below.refl _ _⟩
   ·rw [show gU true Q (0) 3=false from rfl]
    go_enter Tryz.func196,Tryz.ntmps196
    go_wp2
    go_ret
    exact⟨rfl,Below.refl _ _⟩
   ·rw [show gU true Q (1) 3=false from rfl]
    go_enter Tryz.func196,Tryz.ntmps196
    go_wp2
    go_ret
    exact⟨rfl,Below.refl _ _⟩
 ·cases neg
  ·rcases hc with rfl|rfl|rfl|rfl
   ·rw [show gU false Q (-2) 4=false from rfl]
    go_enter Tryz.func196,Tryz.ntmps196
    go_wp2
    go_ret
    exact⟨rfl,Below.refl _ _⟩
   ·rw [show gU false Q (-1) 4=false from rfl]
    go_enter Tryz.func196,Tryz.ntmps196
    go_wp2
    go_ret
    exact⟨rfl,Below.refl _ _⟩
   ·rw [show gU false Q (0) 4=false from rfl]
    go_enter Tryz.func196,Tryz.ntmps196
    go_wp2
    go_ret
    exact⟨rfl,Below.refl _ _⟩
   ·rw [show gU false Q (1) 4=false from rfl]
    go_enter Tryz.func196,Tryz.ntmps196
    go_wp2
    go_ret
    exact⟨rfl,Below.refl _ _⟩
  ·rcases hc with rfl|rfl|rfl|rfl
   ·rw [show gU true Q (-2) 4=false from rfl]
    go_enter Tryz.func196,Tryz.ntmps196
    go_wp2
    go_ret
    exact⟨rfl,Below.refl _ _⟩
   ·rw [show gU true Q (-1) 4=true from rfl]
    go_enter Tryz.func196,Tryz.ntmps196
    go_wp2
    go_ret
    exact⟨rfl,Below.refl _ _⟩
   ·rw [show gU true Q (0) 4=true from rfl]
    go_enter Tryz.func196,Tryz.ntmps196
    go_wp2
    go_ret
    exact⟨rfl,Below.refl _ _⟩
   ·rw [show gU true Q (1) 4=true from rfl]
    go_enter Tryz.func196,Tryz.ntmps196
    go_wp2
    go_ret
    exact⟨rfl,Below.refl _ _⟩
theorem aNr (a b:Int):dQ a b= -1∨dQ a b=0∨dQ a b=1:=by
 unfold dQ
 split
 ·exact .inl rfl
 ·split
  ·exact .inr (.inr rfl)
  ·exact .inr (.inl rfl)
theorem aLh (a b:Nat):(0<dQ a b↔b<a)∧(dQ a b=0↔a=b)∧-2<dQ a b:=by
 unfold dQ
 split
 ·omega
 ·split<;>omega
theorem aMv (N s:Nat) (more:Bool):pR N s more= -2∨pR N s more= -1∨pR N s more=0∨pR N s more=1:=by
 unfold pR
 have h:=aNr (N%2^s:Nat) (2^(s-1):Nat)
 generalize dQ (N%2^s:Nat) (2^(s-1):Nat)=z at*
 split
 ·exact .inl rfl
 ·split
  ·exact .inr (.inr (.inr rfl))
  ·exact .inr h
theorem aXn {N s:Nat}{neg:Bool}{mode:Int}(hm:mode=0∨mode=3∨mode=4):gU neg (N/2^s) (pR N s false) mode=upB N s neg mode:=by
 by_cases h0:N%2^s=0
 ·rw [aPt h0,show pR N s false= -2 from if_pos ⟨h0,rfl⟩]
  rcases hm with rfl|rfl|rfl
  ·rfl
  ·cases neg<;>rfl
  ·cases neg<;>rfl
 ·have hc:pR N s false=dQ (N%2^s:Nat) (2^(s-1):Nat):=by
   unfold pR
   rw [if_neg (fun t=>h0 t.1),if_neg (fun t=>by cases t.2)]
  rw [hc]
  obtain⟨c1,c2,c3⟩:=aLh (N%2^s) (2^(s-1))
  generalize dQ (N%2^s:Nat) (2^(s-1):Nat)=z at*
  rcases hm with rfl|rfl|rfl
  ·rw [aH1 h0]
   show(decide (0<z)||(decide (z=0)&&_))=_
   rw [decide_eq_decide.2 c1,decide_eq_decide.2 c2]
  ·rw [aTk h0]
   show(!neg&&decide (-2<z))=_
   rw [decide_eq_true c3,Bool.and_true]
  ·rw [aT1 h0]
   show(neg&&decide (-2<z))=_
   rw [decide_eq_true c3,Bool.and_true]
theorem aTz {N s:Nat}(hs:1≤s) {neg:Bool}{mode:Int}(hm:mode=0∨mode=3∨mode=4):
  (2*N+1)/2^(s+1)=N/2^s∧gU neg (N/2^s) (pR N s true) mode=upB (2*N+1) (s+1) neg mode:=by
 have e1:2^(s+1)=2*2^s:=by rw [Nat.pow_succ,Nat.mul_comm]
 have e2:2^s=2*2^(s-1):=by rw [←Nat.pow_succ',Nat.succ_eq_add_one,Nat.sub_add_cancel hs]
 have hd:(2*N+1)/2^(s+1)=N/2^s:=by
  rw [e1,←Nat.div_div_eq_div_mul,show(2*N+1)/2=N by omega]
 have hr:(2*N+1)%2^(s+1)=2*(N%2^s)+1:=by
  have h1:=Nat.div_add_mod (2*N+1) (2^(s+1))
  have h2:=Nat.div_add_mod N (2^s)
  rw [hd,e1,Nat.mul_assoc]at h1
  rw [e1]
  omega
 have h0:¬(2*N+1)%2^(s+1)=0:=by omega
 refine⟨hd,?_⟩
 have hc:pR N s true=if dQ (N%2^s:Nat) (2^(s-1):Nat)=0 then 1 else dQ (N%2^s:Nat) (2^(s-1):Nat):=by
  unfold pR
  rw [if_neg (fun t=>by cases t.2)]
  simp
 rw [hc]
 obtain⟨c1,c2,c3⟩:=aLh (N%2^s) (2^(s-1))
 generalize dQ (N%2^s:Nat) (2^(s-1):Nat)=z at*
 have d1:(0<if z=0 then 1 else z)↔2^(s+1-1)<(2*N+1)%2^(s+1):=by
  rw [hr,Nat.add_sub_cancel]
  split<;>omega
 have d2:((if z=0 then 1 else z)=0)↔(2*N+1)%2^(s+1)=2^(s+1-1):=by
  rw [hr,Nat.add_sub_cancel]
  split<;>omega
 have d3:(-2:Int)<if z=0 then 1 else z:=by split<;>omega
 generalize (if z=0 then 1 else z)=y at*
 rcases hm with rfl|rfl|rfl
 ·rw [aH1 h0,hd]
  show(decide (0<y)||(decide (y=0)&&_))=_
  rw [decide_eq_decide.2 d1,decide_eq_decide.2 d2]
 ·rw [aTk h0]
  show(!neg&&decide (-2<y))=_
  rw [decide_eq_true d3,Bool.and_true]
 ·rw [aT1 h0]
  show(neg&&decide (-2<y))=_
  rw [decide_eq_true d3,Bool.and_true]
def yM (neg:Bool) (q:Nat) (L mode:Int):Nat:=
 if 53<bl q then(if 1023<L+1+bl (q/2)-1 then ovB neg mode else if bl (q/2)<53 then dA neg 0 (q/2)else dA neg (L+1+1075).toNat (q/2%aT))
 else(if 1023<L+bl q-1 then ovB neg mode else if bl q<53 then dA neg 0 q else dA neg (L+1075).toNat (q%aT))
theorem aWs (neg:Bool) (mode:Int):ovB neg mode=(if neg then aH else 0)+(if kD neg mode then aG-1 else aG):=by
 have e:(mode=2∨mode=3∧neg=true∨mode=4∧neg=false)↔kD neg mode=true:=by
  unfold kD
  cases neg<;>simp
 unfold ovB
 by_cases h:kD neg mode=true
 ·rw [if_pos (e.2 h),if_pos h];cases neg<;>decide
 ·rw [if_neg (fun t=>h (e.1 t)),if_neg h];cases neg<;>decide
theorem aHr {z e mode:Int}(hz:z≠0):yM (decide (z<0)) (bW z e 53 (-1074) mode) (aX z e 53 (-1074)) mode=eU z e mode:=by
 have h1:=jP z e 53 (-1074) mode 53 rfl
 have h2: -1074≤aX z e 53 (-1074):=by unfold aX;omega
 have h3:=mF (e:=e) (mode:=mode) hz
 unfold eU
 generalize bW z e 53 (-1074) mode=m at*
 generalize aX z e 53 (-1074)=L at*
 generalize decide (z<0)=neg
 rw [yX h1 h2 h3]
 unfold yM dA
 rw [aWs]
 have k1:aT=2^52:=by decide
 rcases Nat.lt_or_ge m (2^53)with h|h
 ·have hb:bl m≤53:=aY h
  rw [if_neg (by omega)]
  by_cases ho:L+(bl m:Int)≤1024
  ·rw [if_neg (by omega),if_pos ho]
   by_cases hb2:bl m<53
   ·rw [if_pos hb2]
    have hm:m<2^52:=dD.1 (by omega)
    have hL:L= -1074:=by rcases h3 with h3|h3;exact h3;omega
    subst hL
    rw [show((-1074:Int)+1074).toNat=0 by decide]
    omega
   ·rw [if_neg hb2]
    have hm:2^52≤m:=by
     rcases Nat.lt_or_ge m (2^52)with h5|h5
     ·have:=aY h5;omega
     ·exact h5
    have hmod:m%aT=m-aT:=by rw [k1,Nat.mod_eq_sub_mod hm,Nat.mod_eq_of_lt (by omega)]
    have hsplit:(L+1075).toNat=(L+1074).toNat+1:=by omega
    rw [hmod,hsplit,Nat.add_mul,Nat.one_mul]
    omega
  ·rw [if_pos (by omega),if_neg ho]
 ·have hm:m=2^53:=by omega
  subst hm
  have hb:bl (2^53)=54:=by decide
  have hb2:bl (2^53/2)=53:=by decide
  rw [hb,hb2,if_pos (by decide)]
  by_cases ho:L+((54:Nat):Int)≤1024
  ·rw [if_neg (by omega),if_pos ho,if_neg (by decide)]
   have hsplit:(L+1+1075).toNat=(L+1074).toNat+2:=by omega
   rw [hsplit,Nat.add_mul,show 2^53/2%aT=0 by decide,show 2*aT=2^53 by decide]
   omega
  ·rw [if_pos (by omega),if_neg ho]
end
end Go.Proofs.YtfmecpembnmnkaaGreatDoor
