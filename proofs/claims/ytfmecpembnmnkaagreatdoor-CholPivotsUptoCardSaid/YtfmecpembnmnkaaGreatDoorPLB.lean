/- Plain: a matrix taken apart column by column, in whatever way. No program. -/
import Derived.Test.YtfmecpembnmnkaaGreatDoorPLA
import Derived.Test.YtfmecpembnmnkaaGreatDoorPGV
import Derived.Deep.CutRange
namespace Go.Proofs.YtfmecpembnmnkaaGreatDoor
section
open Go.RowKit
structure Way (V:Type) where
 zero:V
 less:(Nat→V)→V×Bool→V→V→Nat→V×Bool
 head:V×Bool→V×Int
 over:V×Bool→V→V×Bool
def aFt {V:Type}(L:Nat→Nat→V) (i j:Nat) (v:V):Nat→Nat→V:=fun a b=>if a=i∧b=j then v else L a b
theorem vT {V:Type}(L:Nat→Nat→V) (i j:Nat) (v:V):aFt L i j v i j=v:=if_pos ⟨rfl,rfl⟩
theorem aBi {V:Type}{L:Nat→Nat→V}{i j a b:Nat}{v:V}(h:¬(a=i∧b=j)):aFt L i j v a b=L a b:=if_neg h
section
variable {V : Type} (W : Way V)
def Way.dw (L:Nat→Nat→V) (H:Nat→V) (i j:Nat) (s:V×Bool) (m:Nat):V×Bool:=itr (fun k s=>W.less H s (L i k) (L j k) k) m s
def Way.row (a:Nat→Nat→V) (H:Nat→V) (h:V) (j i:Nat) (s:(Nat→Nat→V)×Bool):(Nat→Nat→V)×Bool:=
 if i≤j then s else(aFt s.1 i j (W.over (W.dw s.1 H i j (a i j,s.2) j) h).1,(W.over (W.dw s.1 H i j (a i j,s.2) j) h).2)
def Way.rows (a:Nat→Nat→V) (H:Nat→V) (h:V) (j m:Nat) (s:(Nat→Nat→V)×Bool):(Nat→Nat→V)×Bool:=itr (W.row a H h j) m s
end
structure WSt (V:Type) where
 L:Nat→Nat→V
 H:Nat→V
 f:Bool
 e:Int
 p:Nat
section
variable {V : Type} (W : Way V)
def Way.pv (a:Nat→Nat→V) (j:Nat) (s:WSt V):V×Bool:=W.dw s.L s.H j j (a j j,s.f) j
def Way.col (a:Nat→Nat→V) (n j:Nat) (s:WSt V):WSt V:=
 if s.e≠0 then s
 else if(W.head (W.pv a j s)).2≠0 then⟨s.L,s.H,(W.pv a j s).2,(W.head (W.pv a j s)).2,j⟩
 else⟨(W.rows a (dJ s.H j (W.head (W.pv a j s)).1) (W.head (W.pv a j s)).1 j n (s.L,(W.pv a j s).2)).1,dJ s.H j (W.head (W.pv a j s)).1,(W.rows a (dJ s.H j (W.head (W.pv a j s)).1) (W.head (W.pv a j s)).1 j n (s.L,(W.pv a j s).2)).2,0,0⟩
def Way.all (a:Nat→Nat→V) (n m:Nat):WSt V:=itr (W.col a n) m ⟨fun _ _=>W.zero,fun _=>W.zero,false,0,0⟩
theorem Way.all_succ (a:Nat→Nat→V) (n m:Nat):W.all a n (m+1)=W.col a n m (W.all a n m):=rfl
theorem Way.rC (a:Nat→Nat→V) (n m:Nat) (h:(W.all a n m).e≠0):∀k,W.all a n (m+k)=W.all a n m
 |0=>rfl
 | k+1=>by
  show W.col a n (m+k) (W.all a n (m+k))=_
  rw [Way.rC a n m h k]
  exact if_pos h
theorem Way.vX {a:Nat→Nat→V}{n m:Nat}(h0:(W.all a n m).e=0) (h:(W.head (W.pv a m (W.all a n m))).2≠0):
  W.all a n (m+1)=⟨(W.all a n m).L,(W.all a n m).H,(W.pv a m (W.all a n m)).2,(W.head (W.pv a m (W.all a n m))).2,m⟩:=by
 rw [W.all_succ]
 unfold Way.col
 rw [if_neg (fun t=>t h0),if_pos h]
theorem Way.all_good {a:Nat→Nat→V}{n m:Nat}(h0:(W.all a n m).e=0) (h:(W.head (W.pv a m (W.all a n m))).2=0):
  W.all a n (m+1)=⟨(W.rows a (dJ (W.all a n m).H m (W.head (W.pv a m (W.all a n m))).1) (W.head (W.pv a m (W.all a n m))).1 m n ((W.all a n m).L,(W.pv a m (W.all a n m)).2)).1,dJ (W.all a n m).H m (W.head (W.pv a m (W.all a n m))).1,
   (W.rows a (dJ (W.all a n m).H m (W.head (W.pv a m (W.all a n m))).1) (W.head (W.pv a m (W.all a n m))).1 m n ((W.all a n m).L,(W.pv a m (W.all a n m)).2)).2,0,0⟩:=by
 rw [W.all_succ]
 unfold Way.col
 rw [if_neg (fun t=>t h0),if_neg (fun t=>t h)]
theorem Way.oI (a:Nat→Nat→V) (H:Nat→V) (h:V) (j:Nat) (s:(Nat→Nat→V)×Bool):∀m,m≤j+1→W.rows a H h j m s=s
 |0,_=>rfl
 | m+1,hm=>by
  show W.row a H h j m (W.rows a H h j m s)=s
  rw [Way.oI a H h j s m (by omega)]
  exact if_pos (by omega)
theorem Way.zZ {a:Nat→Nat→V}{H:Nat→V}{h:V}{j m:Nat}{s:(Nat→Nat→V)×Bool}(hj:j<m):
  W.rows a H h j (m+1) s=(aFt (W.rows a H h j m s).1 m j (W.over (W.dw (W.rows a H h j m s).1 H m j (a m j,(W.rows a H h j m s).2) j) h).1,(W.over (W.dw (W.rows a H h j m s).1 H m j (a m j,(W.rows a H h j m s).2) j) h).2):=by
 show W.row a H h j m (W.rows a H h j m s)=_
 exact if_neg (by omega)
variable {W}
def WSt.res (ov:Int) (s:WSt V):Int×Nat:=if s.e=0 then(if s.f then(ov,0)else(0,0))else(s.e,if s.e=ov then 0 else s.p)
end
def dgL {V:Type}(L:Nat→Nat→V) (D:Nat→V) (m:Nat):Nat→Nat→V:=fun i j=>if i=j∧i<m then D i else L i j
def sqO (o:Fo):Fo:=match o with|some x=>F6.sqrt x|none=>none
def gtO (o:Fo):Bool:=match o with|some x=>posB x|none=>false
def chW :Way Fo where
 zero:=some 0
 less:=fun _ s a b _=>aAi s a b
 head:=fun s=>if s.2 then(some 0,5)else if gtO s.1 then(sqO s.1,0)else(some 0,90)
 over:=fun s h=>(oA .quo s.1 h,ovr s.2 (oA .quo s.1 h))
end
section
set_option maxRecDepth 100000
set_option maxHeartbeats 6400000
open Go.RowKit
structure MBx (w0 W:World) (mb:Nat) (r c:Int) (sl:Value):Prop where
 m:aJ W mb 25 #[.int .i64 r,.int .i64 c,sl]
 b:Below w0.heap.size w0 W
theorem MBx.later {w0 W V:World}{mb:Nat}{r c:Int}{sl:Value}(h:MBx w0 W mb r c sl) (hb:Below W.heap.size W V):MBx w0 V mb r c sl:=⟨h.m.below hb,h.b.trans (hb.mono h.b.size)⟩
theorem MBx.new (w:World) (r c:Int) (sl:Value):MBx w (w.alloc (.cells #[.int .i64 r,.int .i64 c,sl] 25)) w.heap.size r c sl:=⟨aJ.new w _ _,Below.aA w _⟩
theorem MBx.m3 {w0 W:World}{mb:Nat}{r c:Int}{sl:Value}(h:MBx w0 W mb r c sl):W.cell? ⟨mb,0,none⟩=some (.int .i64 r)∧W.cell? ⟨mb,1,none⟩=some (.int .i64 c)∧W.cell? ⟨mb,2,none⟩=some sl:=⟨h.m.cell 0,h.m.cell 1,h.m.cell 2⟩
theorem aVb (r c:Int) (l:List Nat):lQ r c l=bif decide (0≤r∧r≤12)then(bif decide (0≤c∧c≤12)then(bif (l.length:Int)==r*c then(bif l.all aK then 0 else 4)else 3)else 1)else 1:=by
 unfold lQ
 by_cases h1:0≤r∧r≤12
 ·rw [decide_eq_true h1]
  by_cases h2:0≤c∧c≤12
  ·rw [decide_eq_true h2,if_pos ⟨h1.1,h1.2,h2⟩]
   by_cases h3:(l.length:Int)=r*c
   ·rw [if_pos h3,beq_iff_eq.2 h3];cases l.all aK<;>rfl
   ·rw [if_neg h3,beq_eq_false_iff_ne.2 h3];rfl
  ·rw [decide_eq_false h2,if_neg (fun h=>h2 h.2.2)];rfl
 ·rw [decide_eq_false h1,if_neg (fun h=>h1 ⟨h.1,h.2.1⟩)];rfl
theorem aK6 (r c:Int) (l:List Nat):kN r c l=bif lQ r c l==0 then(bif r==c then 0 else 3)else lQ r c l:=by
 unfold kN
 by_cases h:lQ r c l=0
 ·rw [if_neg (fun t=>t h),beq_iff_eq.2 h]
  by_cases h3:r=c
  ·rw [if_pos h3,beq_iff_eq.2 h3];rfl
  ·rw [if_neg h3,beq_eq_false_iff_ne.2 h3];rfl
 ·rw [if_pos h,beq_eq_false_iff_ne.2 h];rfl
theorem aUd (r c:Int) (l:List Nat):lQ r c l=0∨lQ r c l=1∨lQ r c l=3∨lQ r c l=4:=by unfold lQ;split<;>(try split)<;>(try split)<;>simp
theorem aU4 (r c:Int) (l:List Nat):kN r c l=0∨kN r c l=1∨kN r c l=3∨kN r c l=4:=by
 rw [aK6]
 rcases aUd r c l with h|h|h|h<;>rw [h]
 ·by_cases h3:r=c
  ·rw [beq_iff_eq.2 h3];exact .inl rfl
  ·rw [beq_eq_false_iff_ne.2 h3];exact .inr (.inr (.inl rfl))
 ·exact .inr (.inl rfl)
 ·exact .inr (.inr (.inl rfl))
 ·exact .inr (.inr (.inr rfl))
theorem aVl (r:Int) (b:List Nat):xU r b=bif (b.length:Int)==r then(bif b.all aK then 0 else 4)else 3:=by
 unfold xU
 by_cases h:(b.length:Int)=r
 ·rw [if_neg (fun t=>t h),beq_iff_eq.2 h];cases b.all aK<;>rfl
 ·rw [if_pos h,beq_eq_false_iff_ne.2 h];rfl
theorem Sq.chk {n:Nat}{r c:Int}{l:List Nat}(h:Sq n r c l):lQ r c l=0:=by
 obtain⟨rfl,rfl,h1,h2,h3⟩:=h
 unfold lQ
 rw [if_pos (by omega),if_pos (by rw [h2,Int.natCast_mul]),h3];rfl
theorem aMe {r c:Int}(h1:decide (0≤r∧r≤12)=true) (h2:decide (0≤c∧c≤12)=true):IntKind.i64.wrap (r*c)=r*c:=by
 have h1:=of_decide_eq_true h1
 have h2:=of_decide_eq_true h2
 obtain⟨n,rfl⟩:∃n:Nat,r=n:=⟨r.toNat,by omega⟩
 obtain⟨m,rfl⟩:∃m:Nat,c=m:=⟨c.toNat,by omega⟩
 rw [←Int.natCast_mul]
 have:n*m≤12*12:=Nat.mul_le_mul (by omega) (by omega)
 exact IntWalk.i64_in _ (by omega)
theorem check_any (r c:Int) (sl:Value) (l:List Nat) (w:World) (hl:FSl w sl l):
  Calls Tryz.prog 84 #[kG r c sl] w (Gives (.int .i64 (lQ r c l)) w):=by
 have HF:=jH fun W (h:FSl W sl l)=>sD sl l W h
 have HS:=jH fun(n:Int) W=>size_any n W
 have HL:=jH hl
 have HM:=jH (MBx.new w r c sl)
 obtain⟨ao,cap,rfl,hcap,hn,-,-⟩:=id hl
 have HB:=jH (aVb r c l)
 obtain⟨rc,hrc⟩:∃x,r*c=x:=⟨_,rfl⟩
 have HW:=jH (fun h1 h2=>(aMe (r:=r) (c:=c) h1 h2).trans hrc)
 rw [hrc]at HB
 generalize lQ r c l=B at*
 generalize hp1:decide (0≤r∧r≤12)=p1 at*
 generalize hp2:decide (0≤c∧c≤12)=p2 at*
 generalize hp4:l.all aK=p4 at*
 have HS1:Hid (∀W,Calls Tryz.prog 122 #[.int .i64 r] W (Gives (.bool p1) W)):=jH fun W=>by rw [←hp1];exact HS.out r W
 have HS2:Hid (∀W,Calls Tryz.prog 122 #[.int .i64 c] W (Gives (.bool p2) W)):=jH fun W=>by rw [←hp2];exact HS.out c W
 have HN:=jH hn
 clear hl hcap hn hp1 hp2 hp4 HS
 obtain⟨p3,hp3⟩:∃p,((l.length:Int)==rc)=p:=⟨_,rfl⟩
 rw [hp3]at HB
 cases p1
 ·clear hrc hp3
  obtain⟨q0,q1,q2⟩:=HM.out.m3
  go_enter Tryz.func84,Tryz.ntmps84
  go_wp2_with fail
  refine(HS1.out _).mono ?_
  rintro e1 w1 ⟨rfl,hb1⟩
  replace HM:=jH (HM.out.later hb1)
  clear hb1 q0 q1 q2
  obtain⟨q0,q1,q2⟩:=HM.out.m3
  go_wp2
  go_ret
  exact⟨by rw [HB.out];rfl,HM.out.b⟩
 ·cases p2
  ·clear hrc hp3
   obtain⟨q0,q1,q2⟩:=HM.out.m3
   go_enter Tryz.func84,Tryz.ntmps84
   go_wp2_with fail
   refine(HS1.out _).mono ?_
   rintro e1 w1 ⟨rfl,hb1⟩
   replace HM:=jH (HM.out.later hb1)
   replace HL:=jH (HL.out.below ((Below.aA w _).trans (hb1.mono (Below.aA w _).size)))
   clear hb1 q0 q1 q2
   obtain⟨q0,q1,q2⟩:=HM.out.m3
   go_wp2_with fail
   refine(HS2.out _).mono ?_
   rintro e2 w2 ⟨rfl,hb2⟩
   replace HM:=jH (HM.out.later hb2)
   replace HL:=jH (HL.out.below hb2)
   clear hb2 q0 q1 q2
   obtain⟨q0,q1,q2⟩:=HM.out.m3
   go_wp2
   go_ret
   exact⟨by rw [HB.out];rfl,HM.out.b⟩
  ·have hw:=HW.out rfl rfl
   skip
   obtain⟨q0,q1,q2⟩:=HM.out.m3
   go_enter Tryz.func84,Tryz.ntmps84
   go_wp2_with fail
   refine(HS1.out _).mono ?_
   rintro e1 w1 ⟨rfl,hb1⟩
   replace HM:=jH (HM.out.later hb1)
   replace HL:=jH (HL.out.below ((Below.aA w _).trans (hb1.mono (Below.aA w _).size)))
   clear hb1 q0 q1 q2
   obtain⟨q0,q1,q2⟩:=HM.out.m3
   go_wp2_with fail
   refine(HS2.out _).mono ?_
   rintro e2 w2 ⟨rfl,hb2⟩
   replace HM:=jH (HM.out.later hb2)
   replace HL:=jH (HL.out.below hb2)
   clear hb2 q0 q1 q2
   obtain⟨q0,q1,q2⟩:=HM.out.m3
   have hn:=HN.out
   clear hrc
   cases p3
   ·clear hn
    go_wp2
    go_ret
    exact⟨by rw [HB.out];rfl,HM.out.b⟩
   ·go_wp2_with fail
    refine(HF.out _ HL.out).mono ?_
    rintro e3 w3 ⟨rfl,hb3⟩
    replace HM:=jH (HM.out.later hb3)
    clear hb3 q0 q1 q2 hw hp3 hn
    cases p4
    ·go_wp2
     go_ret
     exact⟨by rw [HB.out];rfl,HM.out.b⟩
    ·go_wp2
     go_ret
     exact⟨by rw [HB.out];rfl,HM.out.b⟩
theorem aGy (r c:Int) (sl:Value) (l:List Nat) (w:World) (hl:FSl w sl l):
  Calls Tryz.prog 81 #[kG r c sl] w (Gives (.int .i64 (kN r c l)) w):=by
 have HC:=jH fun W (h:FSl W sl l)=>check_any r c sl l W h
 have HL:=jH hl
 have HM:=jH (MBx.new w r c sl)
 obtain⟨ao,cap,rfl,-⟩:=id hl
 have HB:=jH (aK6 r c l)
 replace HL:=jH (HL.out.below (Below.aA w (.cells #[.int .i64 r,.int .i64 c,.slice ao l.length cap] 25)))
 generalize kN r c l=B at*
 generalize lQ r c l=k at*
 obtain⟨p3,hp3⟩:∃p,(r==c)=p:=⟨_,rfl⟩
 rw [hp3]at HB
 obtain⟨p1,hp1⟩:∃p,(k==0)=p:=⟨_,rfl⟩
 rw [hp1]at HB
 clear hl
 cases p1
 ·clear hp3
  obtain⟨q0,q1,q2⟩:=HM.out.m3
  go_enter Tryz.func81,Tryz.ntmps81
  go_wp2_with fail
  refine(HC.out _ HL.out).mono ?_
  rintro e1 w1 ⟨rfl,hb1⟩
  replace HM:=jH (HM.out.later hb1)
  clear hb1 q0 q1 q2
  obtain⟨q0,q1,q2⟩:=HM.out.m3
  go_wp2
  go_ret
  exact⟨by rw [HB.out];rfl,HM.out.b⟩
 ·obtain⟨q0,q1,q2⟩:=HM.out.m3
  go_enter Tryz.func81,Tryz.ntmps81
  go_wp2_with fail
  refine(HC.out _ HL.out).mono ?_
  rintro e1 w1 ⟨rfl,hb1⟩
  replace HM:=jH (HM.out.later hb1)
  clear hb1 q0 q1 q2
  obtain⟨q0,q1,q2⟩:=HM.out.m3
  clear HL
  obtain rfl:k=0:=by simpa using hp1
  cases p3
  ·go_wp2
   go_ret
   exact⟨by rw [HB.out];rfl,HM.out.b⟩
  ·go_wp2
   go_ret
   exact⟨by rw [HB.out];rfl,HM.out.b⟩
theorem fits_any (r:Int) (bv:Value) (b:List Nat) (w:World) (hb:FSl w bv b):
  Calls Tryz.prog 82 #[.int .i64 r,bv] w (Gives (.int .i64 (xU r b)) w):=by
 have HF:=jH fun W (h:FSl W bv b)=>sD bv b W h
 have HL:=jH hb
 obtain⟨ao,cap,rfl,-,hn,-⟩:=id hb
 have HB:=jH (aVl r b)
 generalize xU r b=B at*
 obtain⟨p3,hp3⟩:∃p,((b.length:Int)==r)=p:=⟨_,rfl⟩
 rw [hp3]at HB
 generalize b.all aK=p4 at*
 clear hb
 cases p3
 ·go_enter Tryz.func82,Tryz.ntmps82
  go_wp2
  go_ret
  exact⟨by rw [HB.out];rfl,Below.refl _ _⟩
 ·go_enter Tryz.func82,Tryz.ntmps82
  go_wp2_with fail
  refine(HF.out _ HL.out).mono ?_
  rintro e1 w1 ⟨rfl,hb1⟩
  have HE:=jH hb1
  clear hb1 hp3 hn HL HF
  cases p4
  ·go_wp2
   go_ret
   exact⟨by rw [HB.out];rfl,HE.out⟩
  ·go_wp2
   go_ret
   exact⟨by rw [HB.out];rfl,HE.out⟩
def aJz (r c:Int) (n:Nat):Int:=bif decide (0≤r∧r≤12)then(bif decide (0≤c∧c≤12)then(bif (n:Int)==r*c then 0 else 3)else 1)else 1
theorem aTf (r c:Int) (l:List Nat):lQ r c l=bif aJz r c l.length==0 then(bif l.all aK then 0 else 4)else aJz r c l.length:=by
 rw [aVb];unfold aJz
 cases decide (0≤r∧r≤12)<;>cases decide (0≤c∧c≤12)<;>cases(l.length:Int)==r*c<;>cases l.all aK<;>rfl
theorem aM6 (r c:Int) (n:Nat) (w:World):
  Calls Tryz.prog 90 #[.int .i64 r,.int .i64 c,.int .i64 n] w (Gives (.int .i64 (aJz r c n)) w):=by
 have HW:=jH (fun h1 h2=>aMe (r:=r) (c:=c) h1 h2)
 have HB:Hid (aJz r c n=bif decide (0≤r∧r≤12)then(bif decide (0≤c∧c≤12)then(bif (n:Int)==r*c then 0 else 3)else 1)else 1):=jH rfl
 generalize aJz r c n=B at*
 by_cases a1:r<0
 ·have g1:=decide_eq_true a1
  rw [decide_eq_false (show¬(0≤r∧r≤12) by omega)]at HB
  clear HW a1
  go_enter Tryz.func90,Tryz.ntmps90
  go_wp2
  go_ret
  exact⟨by rw [HB.out];rfl,Below.refl _ _⟩
 have g1:=decide_eq_false a1
 by_cases a2:12<r
 ·have g2:=decide_eq_true a2
  rw [decide_eq_false (show¬(0≤r∧r≤12) by omega)]at HB
  clear HW a1 a2
  go_enter Tryz.func90,Tryz.ntmps90
  go_wp2
  go_ret
  exact⟨by rw [HB.out];rfl,Below.refl _ _⟩
 have g2:=decide_eq_false a2
 rw [decide_eq_true (show 0≤r∧r≤12 by omega)]at HB HW
 by_cases a3:c<0
 ·have g3:=decide_eq_true a3
  rw [decide_eq_false (show¬(0≤c∧c≤12) by omega)]at HB
  clear HW a1 a2 a3
  go_enter Tryz.func90,Tryz.ntmps90
  go_wp2
  go_ret
  exact⟨by rw [HB.out];rfl,Below.refl _ _⟩
 have g3:=decide_eq_false a3
 by_cases a4:12<c
 ·have g4:=decide_eq_true a4
  rw [decide_eq_false (show¬(0≤c∧c≤12) by omega)]at HB
  clear HW a1 a2 a3 a4
  go_enter Tryz.func90,Tryz.ntmps90
  go_wp2
  go_ret
  exact⟨by rw [HB.out];rfl,Below.refl _ _⟩
 have g4:=decide_eq_false a4
 rw [decide_eq_true (show 0≤c∧c≤12 by omega)]at HB HW
 obtain⟨rc,hrc⟩:∃x,r*c=x:=⟨_,rfl⟩
 have hw:=(HW.out rfl rfl).trans hrc
 rw [hrc]at HB
 clear a1 a2 a3 a4 HW hrc
 obtain⟨p3,hp3⟩:∃p,((n:Int)==rc)=p:=⟨_,rfl⟩
 rw [hp3]at HB
 cases p3
 ·go_enter Tryz.func90,Tryz.ntmps90
  go_wp2
  go_ret
  exact⟨by rw [HB.out];rfl,Below.refl _ _⟩
 ·go_enter Tryz.func90,Tryz.ntmps90
  go_wp2
  go_ret
  exact⟨by rw [HB.out];rfl,Below.refl _ _⟩
theorem aSk (r c:Int) (sl:Value) (l:List Nat) (w:World) (hl:FSl w sl l):
  Calls Tryz.prog 37 #[kG r c sl] w (Gives (.int .i64 (lQ r c l)) w):=by
 have HF:=jH fun W (h:FSl W sl l)=>aB1 sl l W h
 have HS:=jH fun W=>aM6 r c l.length W
 have HL:=jH hl
 have HM:=jH (MBx.new w r c sl)
 obtain⟨ao,cap,rfl,-⟩:=id hl
 have HB:=jH (aTf r c l)
 replace HL:=jH (HL.out.below (Below.aA w (.cells #[.int .i64 r,.int .i64 c,.slice ao l.length cap] 25)))
 generalize lQ r c l=B at*
 generalize aJz r c l.length=k at*
 generalize l.all aK=p4 at*
 obtain⟨p1,hp1⟩:∃p,(k==0)=p:=⟨_,rfl⟩
 rw [hp1]at HB
 clear hl
 cases p1
 ·obtain⟨q0,q1,q2⟩:=HM.out.m3
  go_enter Tryz.func37,Tryz.ntmps37
  go_wp2_with fail
  refine(HS.out _).mono ?_
  rintro e1 w1 ⟨rfl,hb1⟩
  replace HM:=jH (HM.out.later hb1)
  replace HL:=jH (HL.out.below hb1)
  clear hb1 q0 q1 q2
  obtain⟨q0,q1,q2⟩:=HM.out.m3
  go_wp2
  go_ret
  exact⟨by rw [HB.out];rfl,HM.out.b⟩
 ·obtain⟨q0,q1,q2⟩:=HM.out.m3
  go_enter Tryz.func37,Tryz.ntmps37
  go_wp2_with fail
  refine(HS.out _).mono ?_
  rintro e1 w1 ⟨rfl,hb1⟩
  replace HM:=jH (HM.out.later hb1)
  replace HL:=jH (HL.out.below hb1)
  clear hb1 q0 q1 q2
  obtain⟨q0,q1,q2⟩:=HM.out.m3
  obtain rfl:k=0:=by simpa using hp1
  go_wp2_with fail
  refine(HF.out _ HL.out).mono ?_
  rintro e1 w1 ⟨rfl,hb1⟩
  replace HM:=jH (HM.out.later hb1)
  clear hb1 HL HF q0 q1 q2
  cases p4
  ·go_wp2
   go_ret
   exact⟨by rw [HB.out];rfl,HM.out.b⟩
  ·go_wp2
   go_ret
   exact⟨by rw [HB.out];rfl,HM.out.b⟩
theorem aMg (x y:Nat) (w:World) (hx:x<18446744073709551616) (hy:y<18446744073709551616) (fx:aK x=true) (fy:aK y=true):
  Calls Tryz.prog 132 #[.float .f64 x,.float .f64 y] w (Gives (.bool (x==y)) w):=by
 have HCX:=jH fun w=>rE x w hx
 have HCY:=jH fun w=>rE y w hy
 have HO:=jH fun w=>zU w
 have h0:=gZ x
 have h1:=gZ y
 rw [oH fx]at HCX
 rw [oH fy]at HCY
 clear hx hy fx fy
 have HE:Hid (((x:Int)==(y:Int))=(x==y)):=jH (by rw [Bool.eq_iff_iff,beq_iff_eq,beq_iff_eq];omega)
 generalize hq:(x==y)=q at*
 unfold F64 at*
 go_enter Tryz.func132,Tryz.ntmps132
 have HB:=jH (Below.refl w.heap.size w)
 go_wp2_with fail
 refine(HO.out _).mono ?_
 rintro e0 w0 ⟨rfl,hb1⟩
 replace HB:=jH (HB.out.trans (hb1.mono HB.out.size))
 clear hb1
 go_wp2_with fail
 refine(HCX.out _).mono ?_
 rintro e1 w1 ⟨rfl,hb1⟩
 replace HB:=jH (HB.out.trans (hb1.mono HB.out.size))
 clear hb1
 go_wp2_with fail
 refine(HO.out _).mono ?_
 rintro e2 w2 ⟨rfl,hb1⟩
 replace HB:=jH (HB.out.trans (hb1.mono HB.out.size))
 clear hb1
 go_wp2_with fail
 refine(HCY.out _).mono ?_
 rintro e3 w3 ⟨rfl,hb1⟩
 replace HB:=jH (HB.out.trans (hb1.mono HB.out.size))
 clear hb1
 have he:=HE.out
 go_wp2
 go_ret
 exact⟨by first|rfl|rw [he]|simp [he,hq],HB.out⟩
theorem aOh (x y:Nat) (w:World) (_hx:x<18446744073709551616) (_hy:y<18446744073709551616) (fx:aK x=true) (fy:aK y=true):
  Calls Tryz.prog 89 #[.float .f64 x,.float .f64 y] w (Gives (.bool (x==y)) w):=by
 have HCX:=jH fun w=>aAc x w
 have HCY:=jH fun w=>aAc y w
 rw [oH fx]at HCX
 rw [oH fy]at HCY
 clear _hx _hy fx fy
 have HE:Hid (((x:Int)==(y:Int))=(x==y)):=jH (by rw [Bool.eq_iff_iff,beq_iff_eq,beq_iff_eq];omega)
 generalize hq:(x==y)=q at*
 go_enter Tryz.func89,Tryz.ntmps89
 have HB:=jH (Below.refl w.heap.size w)
 go_wp2_with fail
 refine(HCX.out _).mono ?_
 rintro e0 w0 ⟨rfl,hb1⟩
 replace HB:=jH (HB.out.trans (hb1.mono HB.out.size))
 clear hb1
 go_wp2_with fail
 refine(HCY.out _).mono ?_
 rintro e1 w1 ⟨rfl,hb1⟩
 replace HB:=jH (HB.out.trans (hb1.mono HB.out.size))
 clear hb1
 have he:=HE.out
 go_wp2
 go_ret
 exact⟨by first|rfl|rw [he]|simp [he,hq],HB.out⟩
end
section
set_option maxRecDepth 100000
set_option maxHeartbeats 6400000
open Go.RowKit
theorem aTw (i j c k:Nat) (r:Int) (sl:Value) (l:List Nat) (w:World) (hl:FSl w sl l) (hk:i*c+j=k) (h:k<l.length):
  Calls Tryz.prog 130 #[kG r c sl,.int .i64 i,.int .i64 j] w (Gives (.float .f64 l[k]) w):=by
 obtain⟨ao,cap,rfl,hcap,hn,-,hc⟩:=hl
 obtain⟨b,off,rfl,hb,hcc⟩:=hc (by omega)
 obtain⟨m,hm⟩:∃m,i*c=m:=⟨_,rfl⟩
 rw [hm]at hk
 have hw1:IntKind.i64.wrap ((i:Int)*(c:Int))=(m:Int):=by rw [←Int.natCast_mul,hm];exact IntWalk.i64_in _ (by omega)
 have hw2:IntKind.i64.wrap ((m:Int)+(j:Int))=(k:Int):=by rw [show(m:Int)+(j:Int)=(k:Int) by omega];exact IntWalk.i64_in _ (by omega)
 have HB:=jH (Below.aA w (.cells #[.int .i64 r,.int .i64 c,.slice (some ⟨b,off,none⟩) l.length cap] 25))
 have hck:=(HB.out.cell (p:=⟨b,off+k,none⟩) hb).trans (hcc k h)
 obtain⟨q0,q1,q2,-⟩:=(aJ.new w #[.int .i64 r,.int .i64 c,.slice (some ⟨b,off,none⟩) l.length cap] 25).cells3
 clear hcc hc hm hb
 generalize l[k]=x at*
 go_enter Tryz.func130,Tryz.ntmps130
 go_wp2
 go_ret
 exact⟨rfl,HB.out⟩
def AtG (F n:Nat) (sl:Value) (l:List Nat) (w:World):Prop:=∀i j W,i<n→j<n→Below w.heap.size w W→Calls Tryz.prog F #[kG n n sl,.int .i64 i,.int .i64 j] W (Gives (.float .f64 (atN n l i j)) W)
theorem aCt {F n:Nat}{sl:Value}{l:List Nat}{w:World}(hl:FSl w sl l) (hll:l.length=n*n)
  (hF:∀(i j c k:Nat) (r:Int) (sl:Value) (l:List Nat) (w:World) (_:FSl w sl l) (_:i*c+j=k) (h:k<l.length),Calls Tryz.prog F #[kG r c sl,.int .i64 i,.int .i64 j] w (Gives (.float .f64 l[k]) w)):AtG F n sl l w:=fun i j W hi hj hu=>by
 have hk:i*n+j<l.length:=by rw [hll];exact jZ hi hj
 have:=hF i j n _ n sl l W (hl.below hu) rfl hk
 rwa [zJ hk]at this
theorem Sq.fin_at {n:Nat}{r c:Int}{l:List Nat}(h:Sq n r c l) {i j:Nat}(hi:i<n) (hj:j<n):aK (atN n l i j)=true:=by
 have hk:i*n+j<l.length:=by rw [h.len];exact jZ hi hj
 rw [←zJ hk]
 exact List.all_eq_true.1 h.fin _ (List.getElem_mem hk)
theorem FSl.jZ {n:Nat}{r c:Int}{l:List Nat}{w:World}{sl:Value}(h:FSl w sl l) (q:Sq n r c l) {i j:Nat}(hi:i<n) (hj:j<n):atN n l i j<18446744073709551616:=by
 have hk:i*n+j<l.length:=by rw [q.len];exact Go.Proofs.YtfmecpembnmnkaaGreatDoor.jZ hi hj
 rw [←zJ hk]
 obtain⟨_,_,_,_,_,hx,_⟩:=h
 exact hx _ (List.getElem_mem hk)
theorem aIa {n k q:Nat}{l:List Nat}(h:∀j,j<q→atN n l k j=atN n l j k) (e:(atN n l k q==atN n l q k)=true):∀j,j<q+1→atN n l k j=atN n l j k:=fun j hj=>by
 rcases Nat.lt_or_eq_of_le (Nat.le_of_lt_succ hj)with h1|rfl
 ·exact h j h1
 ·exact eq_of_beq e
theorem aKz {n k:Nat}{l:List Nat}(h:∀i,i<k→∀j,j<i→atN n l i j=atN n l j i) (e:∀j,j<k→atN n l k j=atN n l j k):∀i,i<k+1→∀j,j<i→atN n l i j=atN n l j i:=fun i hi=>by
 rcases Nat.lt_or_eq_of_le (Nat.le_of_lt_succ hi)with h1|rfl
 ·exact h i h1
 ·exact e
theorem aPu {n k q:Nat}{l:List Nat}(hk:k<n) (hq:q<k) (e:(atN n l k q==atN n l q k)=false):decide (wI n l)=false:=decide_eq_false fun h=>(beq_eq_false_iff_ne.1 e) (h k hk q hq)
theorem aQs (n:Nat) (sl:Value) (l:List Nat) (w:World) (hl:FSl w sl l) (hq:Sq n n n l):
  Calls Tryz.prog 92 #[kG n n sl] w (Gives (.bool (decide (wI n l))) w):=by
 have HAT:=jH (aCt (n:=n) hl hq.len aTw)
 have HLT:=jH fun(i j:Nat) (hi:i<n) (hj:j<n)=>And.intro (hl.jZ hq hi hj) (hq.fin_at hi hj)
 have HSA:=jH fun(x y:Nat) W (hx:x<18446744073709551616∧aK x=true) (hy:y<18446744073709551616∧aK y=true)=>aMg x y W hx.1 hy.1 hx.2 hy.2
 have HM:=jH (MBx.new w n n sl)
 have HC:=jH (check_any n n sl l _ (hl.below (Below.aA w (.cells #[.int .i64 n,.int .i64 n,sl] 25))))
 rw [hq.chk]at HC
 have hn:=hq.hn
 clear hl hq
 obtain⟨q0,q1,q2⟩:=HM.out.m3
 go_enter Tryz.func92,Tryz.ntmps92
 go_wp2_with fail
 refine(HC.out).mono ?_
 rintro e1 w1 ⟨rfl,hb1⟩
 replace HM:=jH (HM.out.later hb1)
 clear hb1 q0 q1 q2 HC
 obtain⟨q0,q1,q2⟩:=HM.out.m3
 go_wp2
 go_loopw [17] (fun i wr=>∃k:Nat,k≤n∧i= .int .i64 k∧Hid (∀i,i<k→∀j,j<i→atN n l i j=atN n l j i)∧Hid (MBx w wr w.heap.size n n sl)) (fun i _=>n-(intOf i).toNat)
 case atStart=>exact⟨0,Nat.zero_le _,rfl,jH (fun _ h=>absurd h (Nat.not_lt_zero _)),HM⟩
 case round=>
  clear HM
  obtain⟨k,hk,rfl,HA,HM⟩:=hrel
  obtain⟨q0,q1,q2⟩:=HM.out.m3
  by_cases hlt:k<n
  ·go_wp2
   go_loopw [21] (fun j wr=>∃q:Nat,q≤k∧j= .int .i64 q∧Hid (∀j,j<q→atN n l k j=atN n l j k)∧Hid (MBx w wr w.heap.size n n sl)) (fun j _=>k-(intOf j).toNat)
   case atStart=>exact⟨0,Nat.zero_le _,rfl,jH (fun _ h=>absurd h (Nat.not_lt_zero _)),HM⟩
   case round=>
    clear HM q0 q1 q2
    obtain⟨q,hq2,rfl,HI,HM⟩:=hrel
    obtain⟨q0,q1,q2⟩:=HM.out.m3
    by_cases hql:q<k
    ·have hqn:q<n:=by omega
     have HE:=jH fun e=>aIa HI.out e
     have HN:=jH fun e=>aPu (l:=l) hlt hql e
     have HX:=jH (HLT.out k q hlt hqn)
     have HY:=jH (HLT.out q k hqn hlt)
     clear q0 q1 q2
     go_upto_region 9 with fail
     refine aC (fun w':World=>w'.cell? ⟨w.heap.size,0,none⟩=some (.int .i64 n)∧w'.cell? ⟨w.heap.size,1,none⟩=some (.int .i64 n)∧w'.cell? ⟨w.heap.size,2,none⟩=some sl) 7 (.take 0 (.take 1 (.take 2 (.take 4 (.take 5 (.take 6 (.run 3 .nil))))))) (by kernel_rfl) (by kernel_rfl) ?_
     replace HM:=jH (HM.out.later (aB _))
     generalize World.drew _=W5 at HM ⊢
     repeat (refine tkL (v:= ?_) rfl rfl rfl (fun w' hSw=> ?_) HM.out.m3 ?_;rotate_left;(focus (go_simp;with_reducible rfl));simp only [aF])
     refine aI rfl rfl fun K' hK=> ?_
     go_simp
     refine(HAT.out k q _ (by omega) (by omega) HM.out.b).mono ?_
     rintro e1 W5v1 ⟨rfl,hb1⟩
     replace HM:=jH (HM.out.later hb1)
     refine hK _ _ HM.out.m3 ?_
     clear hK K' hb1
     try simp only [Act.put,aF]
     repeat (refine tkL (v:= ?_) rfl rfl rfl (fun w' hSw=> ?_) HM.out.m3 ?_;rotate_left;(focus (go_simp;with_reducible rfl));simp only [aF])
     refine aN ?_
     simp only [drL]
     go_wp2_with fail
     refine(HAT.out q k _ (by omega) (by omega) HM.out.b).mono ?_
     rintro e2 w2 ⟨rfl,hb1⟩
     replace HM:=jH (HM.out.later hb1)
     clear hb1
     go_wp2_with fail
     refine(HSA.out _ _ _ HX.out HY.out).mono ?_
     rintro e3 w3 ⟨rfl,hb1⟩
     replace HM:=jH (HM.out.later hb1)
     clear hb1 HX HY
     obtain⟨b,hb⟩:∃b,(atN n l k q==atN n l q k)=b:=⟨_,rfl⟩
     rw [hb]at HE HN ⊢
     cases b
     ·have HR:=jH (HN.out rfl)
      clear hb
      go_wp2
      go_ret
      exact⟨by rw [HR.out];rfl,HM.out.b⟩
     ·have HR:=jH (HE.out rfl)
      clear hb
      obtain⟨q0,q1,q2⟩:=HM.out.m3
      go_wp2
      go_roundw
      case rel=>exact⟨q+1,by omega,by go_num,HR,HM⟩
      case measure=>simp [intOf];omega
    ·obtain rfl:q=k:=by omega
     go_wp2
     go_roundw
     case rel=>exact⟨q+1,by omega,by go_num,jH (aKz HA.out HI.out),HM⟩
     case measure=>simp [intOf];omega
  ·obtain rfl:k=n:=by omega
   have HR:Hid (decide (wI k l)=true):=jH (decide_eq_true HA.out)
   go_wp2
   go_ret
   exact⟨by rw [HR.out];rfl,HM.out.b⟩
theorem aVt (r c:Int) (l:List Nat):iC r c l=bif lQ r c l==0 then(bif r==c then(bif decide (wI r.toNat l)then 0 else 91)else 3)else lQ r c l:=by
 unfold iC
 have h0:=aK6 r c l
 by_cases h:lQ r c l=0
 ·rw [beq_iff_eq.2 h]at h0 ⊢
  by_cases h3:r=c
  ·rw [beq_iff_eq.2 h3]at h0 ⊢
   rw [show kN r c l=0 from h0,if_neg (fun t=>t rfl)]
   by_cases h4:wI r.toNat l
   ·rw [if_pos h4,decide_eq_true h4];rfl
   ·rw [if_neg h4,decide_eq_false h4];rfl
  ·rw [beq_eq_false_iff_ne.2 h3]at h0 ⊢
   rw [show kN r c l=3 from h0,if_pos (by decide)];rfl
 ·rw [beq_eq_false_iff_ne.2 h]at h0 ⊢
  rw [show kN r c l=lQ r c l from h0,if_pos h];rfl
theorem aVr {r c:Int}{l:List Nat}(h1:(lQ r c l==0)=true) (h2:(r==c)=true):∃n:Nat,r=n∧c=n∧Sq n n n l:=by
 have h:kN r c l=0:=by rw [aK6,h1,h2];rfl
 have hq:=rM h
 have h3:=hq.hr
 have h4:=hq.hc
 exact⟨r.toNat,h3,h4,⟨rfl,rfl,hq.hn,hq.len,hq.fin⟩⟩
theorem aD1 {w W:World}{o:_root_.Go.Obj}(h:Below (w.alloc o).heap.size (w.alloc o) W):Below w.heap.size w W:=(Below.aA w o).trans (h.mono (Below.aA w o).size)
theorem tY (r c:Int) (sl:Value) (l:List Nat) (w:World) (hl:FSl w sl l):
  Calls Tryz.prog 39 #[kG r c sl] w (Gives (.int .i64 (iC r c l)) w):=by
 have HC:=jH (aGy r c sl l _ (hl.below (Below.aA w (.cells #[.int .i64 r,.int .i64 c,sl] 25))))
 have HM:=jH (MBx.new w r c sl)
 have HB:Hid (iC r c l=_):=jH rfl
 generalize hS:iC r c l=B at*
 by_cases h:kN r c l=0
 ·have hq:=rM h
  rw [h]at HC
  obtain⟨n,hn⟩:∃n,r.toNat=n:=⟨_,rfl⟩
  have hr:=hq.hr
  have hc:=hq.hc
  rw [hn]at hq hr hc
  subst hr hc
  have HB2:Hid (B=bif decide (wI n l)then 0 else 91):=jH (by rw [←hS];unfold iC;rw [if_neg (fun t=>t h)];simp only [Int.toNat_natCast];by_cases h4:wI n l<;>simp [h4])
  have HSY:=jH fun W (hb:Below w.heap.size w W)=>aQs n sl l W (hl.below hb) ⟨rfl,rfl,hq.hn,hq.len,hq.fin⟩
  generalize decide (wI n l)=b at*
  clear HB hq hl h hn hS
  obtain⟨q0,q1,q2⟩:=HM.out.m3
  go_enter Tryz.func39,Tryz.ntmps39
  go_wp2_with fail
  refine HC.out.mono ?_
  rintro e1 w1 ⟨rfl,hb1⟩
  replace HM:=jH (HM.out.later hb1)
  have HBL:=jH (aD1 hb1)
  clear hb1 q0 q1 q2
  obtain⟨q0,q1,q2⟩:=HM.out.m3
  go_wp2_with fail
  refine(HSY.out _ HBL.out).mono ?_
  rintro e2 w2 ⟨rfl,hb1⟩
  replace HM:=jH (HM.out.later hb1)
  clear hb1 q0 q1 q2 HSY
  cases b
  ·go_wp2
   go_ret
   exact⟨by rw [HB2.out];rfl,HM.out.b⟩
  ·go_wp2
   go_ret
   exact⟨by rw [HB2.out];rfl,HM.out.b⟩
 ·have HB2:Hid (B=kN r c l):=jH (by rw [←hS];unfold iC;rw [if_pos h])
  have hp1:=beq_eq_false_iff_ne.2 h
  generalize kN r c l=k at*
  clear HB h hl hS
  obtain⟨q0,q1,q2⟩:=HM.out.m3
  go_enter Tryz.func39,Tryz.ntmps39
  go_wp2_with fail
  refine HC.out.mono ?_
  rintro e1 w1 ⟨rfl,hb1⟩
  replace HM:=jH (HM.out.later hb1)
  have HBL:=jH (aD1 hb1)
  clear hb1 q0 q1 q2
  obtain⟨q0,q1,q2⟩:=HM.out.m3
  go_wp2
  go_ret
  exact⟨by rw [HB2.out];rfl,HM.out.b⟩
theorem aNm (r c:Int) (sl:Value) (l:List Nat) (w:World) (hl:FSl w sl l):
  Calls Tryz.prog 36 #[kG r c sl] w (Gives (.int .i64 (iC r c l)) w):=by
 have HC:=jH (aSk r c sl l _ (hl.below (Below.aA w (.cells #[.int .i64 r,.int .i64 c,sl] 25))))
 have HM:=jH (MBx.new w r c sl)
 have HB:=jH (aVt r c l)
 have HSQ:=jH (fun h1 h2=>aVr (r:=r) (c:=c) (l:=l) h1 h2)
 generalize iC r c l=B at*
 generalize hk:lQ r c l=k at*
 obtain⟨p3,hp3⟩:∃p,(r==c)=p:=⟨_,rfl⟩
 rw [hp3]at HB HSQ
 obtain⟨p1,hp1⟩:∃p,(k==0)=p:=⟨_,rfl⟩
 rw [hp1]at HB HSQ
 cases p1
 ·clear hp3 hl HSQ
  obtain⟨q0,q1,q2⟩:=HM.out.m3
  go_enter Tryz.func36,Tryz.ntmps36
  go_wp2_with fail
  refine HC.out.mono ?_
  rintro e1 w1 ⟨rfl,hb1⟩
  replace HM:=jH (HM.out.later hb1)
  clear hb1 q0 q1 q2
  obtain⟨q0,q1,q2⟩:=HM.out.m3
  go_wp2
  go_ret
  exact⟨by rw [HB.out];rfl,HM.out.b⟩
 ·obtain rfl:k=0:=by simpa using hp1
  clear hp1
  cases p3
  ·clear hl HSQ
   obtain⟨q0,q1,q2⟩:=HM.out.m3
   go_enter Tryz.func36,Tryz.ntmps36
   go_wp2_with fail
   refine HC.out.mono ?_
   rintro e1 w1 ⟨rfl,hb1⟩
   replace HM:=jH (HM.out.later hb1)
   clear hb1 q0 q1 q2
   obtain⟨q0,q1,q2⟩:=HM.out.m3
   go_wp2
   go_ret
   exact⟨by rw [HB.out];rfl,HM.out.b⟩
  ·obtain⟨n,rfl,rfl,hq⟩:=HSQ.out rfl rfl
   clear HSQ hp3 hk
   have HB:Hid (B=bif decide (wI n l)then 0 else 91):=jH (by simpa using HB.out)
   have HAT:=jH (aCt (n:=n) hl hq.len aLl)
   have HLT:=jH fun(i j:Nat) (hi:i<n) (hj:j<n)=>And.intro (hl.jZ hq hi hj) (hq.fin_at hi hj)
   have HSA:=jH fun(x y:Nat) W (hx:x<18446744073709551616∧aK x=true) (hy:y<18446744073709551616∧aK y=true)=>aOh x y W hx.1 hy.1 hx.2 hy.2
   have hn:=hq.hn
   clear hl hq
   obtain⟨q0,q1,q2⟩:=HM.out.m3
   go_enter Tryz.func36,Tryz.ntmps36
   go_wp2_with fail
   refine HC.out.mono ?_
   rintro e1 w1 ⟨rfl,hb1⟩
   replace HM:=jH (HM.out.later hb1)
   clear hb1 q0 q1 q2
   obtain⟨q0,q1,q2⟩:=HM.out.m3
   go_wp2
   go_loopw [4] (fun i wr=>∃k:Nat,k≤n∧i= .int .i64 k∧Hid (∀i,i<k→∀j,j<i→atN n l i j=atN n l j i)∧Hid (MBx w wr w.heap.size n n sl)) (fun i _=>n-(intOf i).toNat)
   case atStart=>exact⟨0,Nat.zero_le _,rfl,jH (fun _ h=>absurd h (Nat.not_lt_zero _)),HM⟩
   case round=>
    clear HM
    obtain⟨k,hk,rfl,HA,HM⟩:=hrel
    obtain⟨q0,q1,q2⟩:=HM.out.m3
    by_cases hlt:k<n
    ·go_wp2
     go_loopw [5] (fun j wr=>∃q:Nat,q≤k∧j= .int .i64 q∧Hid (∀j,j<q→atN n l k j=atN n l j k)∧Hid (MBx w wr w.heap.size n n sl)) (fun j _=>k-(intOf j).toNat)
     case atStart=>exact⟨0,Nat.zero_le _,rfl,jH (fun _ h=>absurd h (Nat.not_lt_zero _)),HM⟩
     case round=>
      clear HM q0 q1 q2
      obtain⟨q,hq2,rfl,HI,HM⟩:=hrel
      obtain⟨q0,q1,q2⟩:=HM.out.m3
      by_cases hql:q<k
      ·have hqn:q<n:=by omega
       have HE:=jH fun e=>aIa HI.out e
       have HN:=jH fun e=>aPu (l:=l) hlt hql e
       have HX:=jH (HLT.out k q hlt hqn)
       have HY:=jH (HLT.out q k hqn hlt)
       clear q0 q1 q2
       go_upto_region 12 with fail
       refine aC (fun w':World=>w'.cell? ⟨w.heap.size,0,none⟩=some (.int .i64 n)∧w'.cell? ⟨w.heap.size,1,none⟩=some (.int .i64 n)∧w'.cell? ⟨w.heap.size,2,none⟩=some sl) 7 (.take 0 (.take 1 (.take 2 (.take 4 (.take 5 (.take 6 (.run 3 .nil))))))) (by kernel_rfl) (by kernel_rfl) ?_
       replace HM:=jH (HM.out.later (aB _))
       generalize World.drew _=W5 at HM ⊢
       repeat (refine tkL (v:= ?_) rfl rfl rfl (fun w' hSw=> ?_) HM.out.m3 ?_;rotate_left;(focus (go_simp;with_reducible rfl));simp only [aF])
       refine aI rfl rfl fun K' hK=> ?_
       go_simp
       refine(HAT.out k q _ (by omega) (by omega) HM.out.b).mono ?_
       rintro e1 W5v1 ⟨rfl,hb1⟩
       replace HM:=jH (HM.out.later hb1)
       refine hK _ _ HM.out.m3 ?_
       clear hK K' hb1
       try simp only [Act.put,aF]
       repeat (refine tkL (v:= ?_) rfl rfl rfl (fun w' hSw=> ?_) HM.out.m3 ?_;rotate_left;(focus (go_simp;with_reducible rfl));simp only [aF])
       refine aN ?_
       simp only [drL]
       go_wp2_with fail
       refine(HAT.out q k _ (by omega) (by omega) HM.out.b).mono ?_
       rintro e2 w2 ⟨rfl,hb1⟩
       replace HM:=jH (HM.out.later hb1)
       clear hb1
       go_wp2_with fail
       refine(HSA.out _ _ _ HX.out HY.out).mono ?_
       rintro e3 w3 ⟨rfl,hb1⟩
       replace HM:=jH (HM.out.later hb1)
       clear hb1 HX HY
       obtain⟨b,hb⟩:∃b,(atN n l k q==atN n l q k)=b:=⟨_,rfl⟩
       rw [hb]at HE HN ⊢
       cases b
       ·have HR:=jH (HN.out rfl)
        clear hb
        rw [HR.out]at HB
        go_wp2
        go_ret
        exact⟨by rw [HB.out];rfl,HM.out.b⟩
       ·have HR:=jH (HE.out rfl)
        clear hb
        obtain⟨q0,q1,q2⟩:=HM.out.m3
        go_wp2
        go_roundw
        case rel=>exact⟨q+1,by omega,by go_num,HR,HM⟩
        case measure=>simp [intOf];omega
      ·obtain rfl:q=k:=by omega
       go_wp2
       go_roundw
       case rel=>exact⟨q+1,by omega,by go_num,jH (aKz HA.out HI.out),HM⟩
       case measure=>simp [intOf];omega
    ·obtain rfl:k=n:=by omega
     have HR:Hid (decide (wI k l)=true):=jH (decide_eq_true HA.out)
     rw [HR.out]at HB
     go_wp2
     go_ret
     exact⟨by rw [HB.out];rfl,HM.out.b⟩
end
end Go.Proofs.YtfmecpembnmnkaaGreatDoor
