/- Walks: the references' words (binnacleref00): cut, words, put, compare, plus, minus. -/
import Derived.Test.YtfmecpembnmnkaaGreatDoorPGE
import Derived.Test.YtfmecpembnmnkaaGreatDoorPGC
namespace Go.Proofs.YtfmecpembnmnkaaGreatDoor
section
set_option maxRecDepth 100000
set_option maxHeartbeats 6400000
open Go.RowKit
def aXt :Value→Nat
 | .slice _ n _=>n
 |_=>0
theorem oG (ao:Option Addr) (n cap N:Nat) (w:World) (h:Raw .u32 32 w (.slice ao n cap) n N):
  Calls Tryz.prog 236 #[.slice ao n cap] w fun e w'=>e= .returned (.slice ao (ln 32 N) cap)∧w=w':=by
 obtain⟨ao2,cap2,he,hcap,hN,hn,hc⟩:=h
 obtain⟨rfl,-,rfl⟩:ao=ao2∧n=n∧cap=cap2:=by simpa using he
 have HC:Hid _:=jH hc
 have HN:=jH hN
 clear hc hN he
 go_enter Tryz.func236,Tryz.ntmps236
 go_wp2
 go_loop [0] (fun m=>∃k:Nat,k≤n∧m= .slice ao k cap∧N<2^(32*k)) (fun m=>aXt m)
 case atStart=>exact⟨n,Nat.le_refl _,rfl,HN.out⟩
 case round=>
  obtain⟨k,hk,rfl,hNk⟩:=hrel
  have HK:=jH hNk
  clear hNk
  by_cases hk0:0<k
  ·obtain⟨b,off,rfl,hb,-,hc⟩:=HC.out (by omega)
   have hcell:=hc (k-1) (by omega)
   have e1:((k:Int)-1)=((k-1:Nat):Int):=by omega
   by_cases hd:dg 32 N (k-1)=0
   ·rw [hd]at hcell
    have HZ:Hid (N<2^(32*(k-1))):=by
     refine jH (aGg HK.out fun i h1 h2=> ?_)
     have:i=k-1:=by omega
     subst this;exact hd
    clear hc hd
    go_wp2
    go_round
    case rel=>exact⟨k-1,by omega,by go_num,HZ.out⟩
    case measure=>simp [aXt];omega
   ·have hne:((dg 32 N (k-1):Nat)==(0:Int))=false:=by simp;omega
    have e:ln 32 N=k:=by
     have h1:ln 32 N≤k:=(dL (by decide)).2 HK.out
     rcases Nat.lt_or_ge (ln 32 N) k with h2|h2
     ·exact absurd (fK (pW (s:=32) (N:=N) (by decide)) (by omega)) hd
     ·omega
    have HE:=jH e
    clear hc hd e
    go_wp2
    go_ret
    exact⟨congrArg (fun q=>Ending.returned (Value.slice _ q cap)) HE.out.symm,rfl⟩
  ·obtain rfl:k=0:=by omega
   have h0:N=0:=by have:=HK.out;simp at this;omega
   have e:ln 32 N=0:=by subst h0;exact eG 32
   have HE:=jH e
   clear h0 e
   go_wp2
   go_ret
   exact⟨congrArg (fun q=>Ending.returned (Value.slice _ q cap)) HE.out.symm,rfl⟩
theorem Raw.cut {w:World}{ao:Option Addr}{n cap N:Nat}(h:Raw .u32 32 w (.slice ao n cap) n N):Raw .u32 32 w (.slice ao (ln 32 N) cap) (ln 32 N) N:=by
 obtain⟨ao2,cap2,he,hcap,hN,hn,hc⟩:=h
 obtain⟨rfl,-,rfl⟩:ao=ao2∧n=n∧cap=cap2:=by simpa using he
 have hl:ln 32 N≤n:=(dL (by decide)).2 hN
 refine⟨_,_,rfl,by omega,pW (by decide),by omega,fun h0=> ?_⟩
 obtain⟨b,off,e,hb,he,hc⟩:=hc (by omega)
 exact⟨b,off,e,hb,he,fun i hi=>hc i (by omega)⟩
theorem mZ (v:Value) (n N:Nat) (w:World) (h:Raw .u32 32 w v n N):
  Calls Tryz.prog 236 #[v] w (aFe .u32 32 (ln 32 N) N w):=by
 have h2:=h
 obtain⟨ao,cap,rfl,-⟩:=h2
 refine(oG ao n cap N w h).mono ?_
 rintro e w1 ⟨rfl,rfl⟩
 exact⟨_,rfl,rfl,h.cut⟩
def FrS (B:Nat) (v:Value):Prop:=∀a n c,v= .slice (some a) n c→B≤a.block
end
section
set_option maxRecDepth 100000
set_option maxHeartbeats 6400000
open Go.RowKit
theorem Tryz.nV :(Tryz.prog.info? 233).map (fun i=>(i.zero,i.size,i.bytes))=some (some (.int .u32 0),1,4):=by kernel_rfl
theorem bH (N i:Nat):dg 32 N i<4294967296:=iT 32 N i
theorem two32 :(2:Nat)^32=4294967296:=by decide
def lI (X Y m b0 k C:Nat) (wr:World):Prop:=
 C≤1∧X%2^(32*k)+Y%2^(32*k)=(X+Y)%2^(32*k)+C*2^(32*k)∧
  wr.rowIs b0 (ety .u32) m (fun j=> .int .u32 ((if j<k then dg 32 (X+Y) j else 0:Nat)))
theorem lI.step {X Y m b0 k C:Nat}{wr:World}(h:lI X Y m b0 k C wr):
  lI X Y m b0 (k+1) ((dg 32 X k+dg 32 Y k+C)/4294967296) (wr.setCell ⟨b0,k,none⟩ (.int .u32 (((dg 32 X k+dg 32 Y k+C)%4294967296:Nat)))):=by
 obtain⟨h1,h2,h3⟩:=h
 have h4:=aC5 h2
 rw [two32]at h4
 have hx:=bH X k
 have hy:=bH Y k
 refine⟨by omega,h4.2,?_⟩
 refine(h3.set k _).congr fun i hi=> ?_
 rw [h4.1]
 by_cases e:i=k
 ·subst e;simp
 ·rw [if_neg e]
  by_cases e2:i<k
  ·rw [if_pos e2,if_pos (by omega)]
  ·rw [if_neg e2,if_neg (by omega)]
theorem lI.last {X Y m b0 C:Nat}{wr:World}(hX:X<2^(32*m)) (hY:Y<2^(32*m)) (hm:m+1≤1099511627776) (h:lI X Y (m+1) b0 m C wr):
  Raw .u32 32 (wr.setCell ⟨b0,m,none⟩ (.int .u32 C)) (.slice (some ⟨b0,0,none⟩) (m+1) (m+1)) (m+1) (X+Y):=by
 obtain⟨h1,h2,h3⟩:=h
 have h4:=aG5 hX hY h2 (by omega)
 refine Raw.xM (h3.set m _) (fun i hi=> ?_) ?_ hm
 ·by_cases e:i=m
  ·subst e;simp [h4]
  ·rw [if_neg e,if_pos (by omega)]
 ·rw [Nat.mul_succ,Nat.pow_add];omega
def pO (X Y m b0 k C:Nat) (wr:World):Prop:=
 C≤1∧X%2^(32*k)+C*2^(32*k)=(X-Y)%2^(32*k)+Y%2^(32*k)∧
  wr.rowIs b0 (ety .u32) m (fun j=> .int .u32 ((if j<k then dg 32 (X-Y) j else 0:Nat)))
theorem pO.step {X Y m b0 k C:Nat}{wr:World}(hXY:Y≤X) (h:pO X Y m b0 k C wr):
  (dg 32 X k<C+dg 32 Y k→pO X Y m b0 (k+1) 1 (wr.setCell ⟨b0,k,none⟩ (.int .u32 ((dg 32 X k+4294967296-(C+dg 32 Y k):Nat)))))∧
  (¬dg 32 X k<C+dg 32 Y k→pO X Y m b0 (k+1) 0 (wr.setCell ⟨b0,k,none⟩ (.int .u32 ((dg 32 X k-(C+dg 32 Y k):Nat))))):=by
 obtain⟨h1,h2,h3⟩:=h
 obtain⟨b',h4,h5⟩:=aIt hXY h2
 rw [two32]at h4
 have hx:=bH X k
 have hy:=bH Y k
 have hz:=bH (X-Y) k
 have key:∀(b:Nat) (d:Nat),b=b'→d=dg 32 (X-Y) k→b≤1→pO X Y m b0 (k+1) b (wr.setCell ⟨b0,k,none⟩ (.int .u32 (d:Nat))):=by
  rintro b d rfl rfl hb
  refine⟨hb,h5,?_⟩
  refine(h3.set k _).congr fun i hi=> ?_
  by_cases e:i=k
  ·subst e;simp
  ·rw [if_neg e]
   by_cases e2:i<k
   ·rw [if_pos e2,if_pos (by omega)]
   ·rw [if_neg e2,if_neg (by omega)]
 exact⟨fun h=>key _ _ (by omega) (by omega) (by omega),fun h=>key _ _ (by omega) (by omega) (by omega)⟩
theorem aQn (vx vy:Value) (nx ny X Y:Nat) (w:World) (hx:Raw .u32 32 w vx nx X) (hy:Raw .u32 32 w vy ny Y) (hn:nx≤274877906944∧ny≤274877906944) (hge:ny≤nx):
  Calls Tryz.prog 226 #[vx,vy] w (Makes .u32 32 (ln 32 (X+Y)) (X+Y) w):=by
 have hX:X<2^(32*nx):=by obtain⟨_,_,_,_,h,_⟩:=hx;exact h
 have hY:Y<2^(32*ny):=by obtain⟨_,_,_,_,h,_⟩:=hy;exact h
 have HL:Hid (X<2^(32*nx)∧Y<2^(32*nx)):=jH ⟨hX,Nat.lt_of_lt_of_le hY (Nat.pow_le_pow_right (by decide) (by omega))⟩
 have HZ:Hid (∀k,ny≤k→dg 32 Y k=0):=jH fun k hk=>fK hY hk
 clear hX hY
 have hmk:=run_make_row' (P:=Tryz.prog) 165 233 (.int .u32 0) 4 Tryz.underlying165 Tryz.nV rfl .i64 .i64 (nx+1) (by omega) (by omega)
 rw [show((nx+1:Nat):Int)=(nx:Int)+1 from by omega]at hmk
 obtain⟨ax,cx,rfl,hcx,-,-,hcx2⟩:=hx
 obtain⟨ay,cy,rfl,hcy,-,-,hcy2⟩:=hy
 have HCX:=jH hcx2
 have HCY:=jH hcy2
 clear hcx2 hcy2
 go_enter Tryz.func226,Tryz.ntmps226
 go_wp2
 clear hmk
 have hR:lI X Y (nx+1) w.heap.size 0 0 (w.alloc (.cells (madeCells #[.int .u32 0] (nx+1)) 233)):=by
  refine⟨by omega,by simp [Nat.mod_one],(World.rowIs_made _ _ _ _).congr fun i hi=>by simp⟩
 have HR:=jH hR
 clear hR
 go_loopw [7,8] (fun c i wr=>∃k C:Nat,k≤nx∧i= .int .i64 k∧c= .int .u64 C∧Hid (lI X Y (nx+1) w.heap.size k C wr)∧Below w.heap.size w wr)
  (fun _ i _=>nx-(intOf i).toNat)
 case atStart=>exact⟨0,0,Nat.zero_le _,rfl,rfl,HR,(Below.refl _ _).alloc (Nat.le_refl _) _⟩
 case round=>
  obtain⟨k,C,hk,rfl,rfl,HR,hbel⟩:=hrel
  have hC:=HR.out.1
  have hrow:=HR.out.2.2
  have hs:=hrow.lt
  by_cases hlk:k<nx
  ·have hf:=hrow.frozen k
   have hck:∃v,wr.cell? ⟨w.heap.size,k,none⟩=some v:=⟨_,hrow.cell (by omega)⟩
   obtain⟨v0,hck⟩:=hck
   have HB:=jH hbel
   obtain⟨b1,o1,rfl,hb1,-,hcc1⟩:=HCX.out (by omega)
   have hcell1:wr.cell? ⟨b1,o1+k,none⟩=some (.int .u32 (dg 32 X k:Nat)):=(hbel.cell (p:=⟨b1,o1+k,none⟩) hb1).trans (hcc1 k hlk)
   have HST:=jH HR.out.step
   have hd1:=bH X k
   have hne1:¬(b1=w.heap.size):=by omega
   clear hcc1
   by_cases hsk:k<ny
   ·obtain⟨b2,o2,rfl,hb2,-,hcc2⟩:=HCY.out (by omega)
    have hcell2:wr.cell? ⟨b2,o2+k,none⟩=some (.int .u32 (dg 32 Y k:Nat)):=(hbel.cell (p:=⟨b2,o2+k,none⟩) hb2).trans (hcc2 k hsk)
    have hd2:=bH Y k
    have hne2:¬(b2=w.heap.size):=by omega
    clear hcc2 hrow hbel
    generalize dg 32 X k=x at*
    generalize dg 32 Y k=y at*
    have hw:IntKind.u32.wrap ((x:Int)+C+y)=((x+y+C)%4294967296:Nat):=by unfold IntKind.wrap;simp [IntKind.bits,IntKind.signed];omega
    go_wp2
    go_roundw
    case rel=>exact⟨k+1,(x+y+C)/4294967296,by omega,by go_num,by go_num,HST,HB.out.setCell (Nat.le_refl _) _⟩
    case measure=>simp [intOf];omega
   ·have HZk:=jH (HZ.out k (by omega))
    rw [HZk.out]at HST
    clear hrow hbel
    generalize dg 32 X k=x at*
    have hw:IntKind.u32.wrap ((x:Int)+C)=((x+0+C)%4294967296:Nat):=by unfold IntKind.wrap;simp [IntKind.bits,IntKind.signed]
    go_wp2
    go_roundw
    case rel=>exact⟨k+1,(x+0+C)/4294967296,by omega,by go_num,by go_num,HST,HB.out.setCell (Nat.le_refl _) _⟩
    case measure=>simp [intOf];omega
  ·obtain rfl:k=nx:=by omega
   have hf:=hrow.frozen k
   have hck:∃v,wr.cell? ⟨w.heap.size,k,none⟩=some v:=⟨_,hrow.cell (by omega)⟩
   obtain⟨v0,hck⟩:=hck
   have HB:=jH hbel
   have HLast:=jH (lI.last HL.out.1 HL.out.2 (by omega) HR.out)
   clear hrow hbel
   have hw:IntKind.u32.wrap (C:Int)=(C:Int):=by unfold IntKind.wrap;simp [IntKind.bits,IntKind.signed]<;>omega
   go_wp2_with fail
   refine(mZ _ _ (X+Y) _ HLast.out).mono ?_
   rintro e w1 ⟨v,rfl,rfl,hraw⟩
   have HRaw:=jH hraw
   clear hraw
   go_wp2
   go_ret
   exact⟨v,rfl,HB.out.setCell (Nat.le_refl _) _,HRaw.out⟩
theorem aP5 (vx vy:Value) (nx ny X Y:Nat) (w:World) (hx:Raw .u32 32 w vx nx X) (hy:Raw .u32 32 w vy ny Y) (hn:nx≤274877906944∧ny≤274877906944) (hlt:nx<ny):
  Calls Tryz.prog 226 #[vx,vy] w (Makes .u32 32 (ln 32 (Y+X)) (Y+X) w):=by
 have hX:X<2^(32*nx):=by obtain⟨_,_,_,_,h,_⟩:=hx;exact h
 have hY:Y<2^(32*ny):=by obtain⟨_,_,_,_,h,_⟩:=hy;exact h
 have HL:Hid (Y<2^(32*ny)∧X<2^(32*ny)):=jH ⟨hY,Nat.lt_of_lt_of_le hX (Nat.pow_le_pow_right (by decide) (by omega))⟩
 have HZ:Hid (∀k,nx≤k→dg 32 X k=0):=jH fun k hk=>fK hX hk
 clear hX hY
 have hmk:=run_make_row' (P:=Tryz.prog) 165 233 (.int .u32 0) 4 Tryz.underlying165 Tryz.nV rfl .i64 .i64 (ny+1) (by omega) (by omega)
 rw [show((ny+1:Nat):Int)=(ny:Int)+1 from by omega]at hmk
 obtain⟨ax,cx,rfl,hcx,-,-,hcx2⟩:=hx
 obtain⟨ay,cy,rfl,hcy,-,-,hcy2⟩:=hy
 have HCX:=jH hcx2
 have HCY:=jH hcy2
 clear hcx2 hcy2
 go_enter Tryz.func226,Tryz.ntmps226
 go_wp2
 clear hmk
 have hR:lI Y X (ny+1) w.heap.size 0 0 (w.alloc (.cells (madeCells #[.int .u32 0] (ny+1)) 233)):=by
  refine⟨by omega,by simp [Nat.mod_one],(World.rowIs_made _ _ _ _).congr fun i hi=>by simp⟩
 have HR:=jH hR
 clear hR
 go_loopw [7,8] (fun c i wr=>∃k C:Nat,k≤ny∧i= .int .i64 k∧c= .int .u64 C∧Hid (lI Y X (ny+1) w.heap.size k C wr)∧Below w.heap.size w wr)
  (fun _ i _=>ny-(intOf i).toNat)
 case atStart=>exact⟨0,0,Nat.zero_le _,rfl,rfl,HR,(Below.refl _ _).alloc (Nat.le_refl _) _⟩
 case round=>
  obtain⟨k,C,hk,rfl,rfl,HR,hbel⟩:=hrel
  have hC:=HR.out.1
  have hrow:=HR.out.2.2
  have hs:=hrow.lt
  by_cases hlk:k<ny
  ·have hf:=hrow.frozen k
   have hck:∃v,wr.cell? ⟨w.heap.size,k,none⟩=some v:=⟨_,hrow.cell (by omega)⟩
   obtain⟨v0,hck⟩:=hck
   have HB:=jH hbel
   obtain⟨b1,o1,rfl,hb1,-,hcc1⟩:=HCY.out (by omega)
   have hcell1:wr.cell? ⟨b1,o1+k,none⟩=some (.int .u32 (dg 32 Y k:Nat)):=(hbel.cell (p:=⟨b1,o1+k,none⟩) hb1).trans (hcc1 k hlk)
   have HST:=jH HR.out.step
   have hd1:=bH Y k
   have hne1:¬(b1=w.heap.size):=by omega
   clear hcc1
   by_cases hsk:k<nx
   ·obtain⟨b2,o2,rfl,hb2,-,hcc2⟩:=HCX.out (by omega)
    have hcell2:wr.cell? ⟨b2,o2+k,none⟩=some (.int .u32 (dg 32 X k:Nat)):=(hbel.cell (p:=⟨b2,o2+k,none⟩) hb2).trans (hcc2 k hsk)
    have hd2:=bH X k
    have hne2:¬(b2=w.heap.size):=by omega
    clear hcc2 hrow hbel
    generalize dg 32 Y k=x at*
    generalize dg 32 X k=y at*
    have hw:IntKind.u32.wrap ((x:Int)+C+y)=((x+y+C)%4294967296:Nat):=by unfold IntKind.wrap;simp [IntKind.bits,IntKind.signed];omega
    go_wp2
    go_roundw
    case rel=>exact⟨k+1,(x+y+C)/4294967296,by omega,by go_num,by go_num,HST,HB.out.setCell (Nat.le_refl _) _⟩
    case measure=>simp [intOf];omega
   ·have HZk:=jH (HZ.out k (by omega))
    rw [HZk.out]at HST
    clear hrow hbel
    generalize dg 32 Y k=x at*
    have hw:IntKind.u32.wrap ((x:Int)+C)=((x+0+C)%4294967296:Nat):=by unfold IntKind.wrap;simp [IntKind.bits,IntKind.signed]
    go_wp2
    go_roundw
    case rel=>exact⟨k+1,(x+0+C)/4294967296,by omega,by go_num,by go_num,HST,HB.out.setCell (Nat.le_refl _) _⟩
    case measure=>simp [intOf];omega
  ·obtain rfl:k=ny:=by omega
   have hf:=hrow.frozen k
   have hck:∃v,wr.cell? ⟨w.heap.size,k,none⟩=some v:=⟨_,hrow.cell (by omega)⟩
   obtain⟨v0,hck⟩:=hck
   have HB:=jH hbel
   have HLast:=jH (lI.last HL.out.1 HL.out.2 (by omega) HR.out)
   clear hrow hbel
   have hw:IntKind.u32.wrap (C:Int)=(C:Int):=by unfold IntKind.wrap;simp [IntKind.bits,IntKind.signed]<;>omega
   go_wp2_with fail
   refine(mZ _ _ (Y+X) _ HLast.out).mono ?_
   rintro e w1 ⟨v,rfl,rfl,hraw⟩
   have HRaw:=jH hraw
   clear hraw
   go_wp2
   go_ret
   exact⟨v,rfl,HB.out.setCell (Nat.le_refl _) _,HRaw.out⟩
theorem aD2 (vx vy:Value) (nx ny X Y:Nat) (w:World) (hx:Raw .u32 32 w vx nx X) (hy:Raw .u32 32 w vy ny Y) (hn:nx≤274877906944∧ny≤274877906944):
  Calls Tryz.prog 226 #[vx,vy] w (Makes .u32 32 (ln 32 (X+Y)) (X+Y) w):=by
 by_cases h:nx<ny
 ·have:=aP5 vx vy nx ny X Y w hx hy hn h
  rw [Nat.add_comm Y X]at this;exact this
 ·exact aQn vx vy nx ny X Y w hx hy hn (by omega)
theorem sK (vx vy:Value) (nx ny X Y:Nat) (w:World) (hx:Raw .u32 32 w vx nx X) (hy:Raw .u32 32 w vy ny Y) (hn:nx≤274877906944) (hXY:Y≤X):
  Calls Tryz.prog 228 #[vx,vy] w (Makes .u32 32 (ln 32 (X-Y)) (X-Y) w):=by
 have HXY:=jH hXY
 have HD:Hid (X-Y<2^(32*nx)):=by obtain⟨_,_,_,_,h,_⟩:=hx;exact jH (by omega)
 have HZ:Hid (∀k,ny≤k→dg 32 Y k=0):=by obtain⟨_,_,_,_,h,_⟩:=hy;exact jH fun k hk=>fK h hk
 clear hXY
 have hmk:=run_make_row' (P:=Tryz.prog) 165 233 (.int .u32 0) 4 Tryz.underlying165 Tryz.nV rfl .i64 .i64 nx (by omega) (by omega)
 obtain⟨ax,cx,rfl,hcx,-,-,hcx2⟩:=hx
 obtain⟨ay,cy,rfl,hcy,-,hny,hcy2⟩:=hy
 have HCX:=jH hcx2
 have HCY:=jH hcy2
 clear hcx2 hcy2
 go_enter Tryz.func228,Tryz.ntmps228
 go_wp2
 clear hmk
 have hR:pO X Y nx w.heap.size 0 0 (w.alloc (.cells (madeCells #[.int .u32 0] nx) 233)):=by
  refine⟨by omega,by simp [Nat.mod_one],(World.rowIs_made _ _ _ _).congr fun i hi=>by simp⟩
 have HR:=jH hR
 clear hR
 go_loopw [6,7] (fun c i wr=>∃k C:Nat,k≤nx∧i= .int .i64 k∧c= .int .u64 C∧Hid (pO X Y nx w.heap.size k C wr)∧Below w.heap.size w wr)
  (fun _ i _=>nx-(intOf i).toNat)
 case atStart=>exact⟨0,0,Nat.zero_le _,rfl,rfl,HR,(Below.refl _ _).alloc (Nat.le_refl _) _⟩
 case round=>
  obtain⟨k,C,hk,rfl,rfl,HR,hbel⟩:=hrel
  have hC:=HR.out.1
  have hrow:=HR.out.2.2
  have hs:=hrow.lt
  by_cases hlk:k<nx
  ·have hf:=hrow.frozen k
   have hck:∃v,wr.cell? ⟨w.heap.size,k,none⟩=some v:=⟨_,hrow.cell (by omega)⟩
   obtain⟨v0,hck⟩:=hck
   have HB:=jH hbel
   obtain⟨b1,o1,rfl,hb1,-,hcc1⟩:=HCX.out (by omega)
   have hcell1:wr.cell? ⟨b1,o1+k,none⟩=some (.int .u32 (dg 32 X k:Nat)):=(hbel.cell (p:=⟨b1,o1+k,none⟩) hb1).trans (hcc1 k hlk)
   have HST:=jH (HR.out.step HXY.out)
   have hd1:=bH X k
   have hne1:¬(b1=w.heap.size):=by omega
   clear hcc1
   by_cases hsk:k<ny
   ·obtain⟨b2,o2,rfl,hb2,-,hcc2⟩:=HCY.out (by omega)
    have hcell2:wr.cell? ⟨b2,o2+k,none⟩=some (.int .u32 (dg 32 Y k:Nat)):=(hbel.cell (p:=⟨b2,o2+k,none⟩) hb2).trans (hcc2 k hsk)
    have hd2:=bH Y k
    have hne2:¬(b2=w.heap.size):=by omega
    clear hcc2 hrow hbel
    generalize dg 32 X k=x at*
    generalize dg 32 Y k=y at*
    by_cases hxy:x<C+y
    ·have hw:IntKind.u32.wrap ((x:Int)+4294967296-(C+y))=((x+4294967296-(C+y):Nat):Int):=by unfold IntKind.wrap;simp [IntKind.bits,IntKind.signed];omega
     have hlt:(x:Int)<(C:Int)+y:=by omega
     have HS1:=jH (HST.out.1 hxy)
     clear HST
     go_wp2
     go_roundw
     case rel=>exact⟨k+1,1,by omega,by go_num,rfl,HS1,HB.out.setCell (Nat.le_refl _) _⟩
     case measure=>simp [intOf];omega
    ·have hw:IntKind.u32.wrap ((x:Int)-(C+y))=((x-(C+y):Nat):Int):=by unfold IntKind.wrap;simp [IntKind.bits,IntKind.signed];omega
     have hlt:¬(x:Int)<(C:Int)+y:=by omega
     have HS1:=jH (HST.out.2 hxy)
     clear HST
     go_wp2
     go_roundw
     case rel=>exact⟨k+1,0,by omega,by go_num,rfl,HS1,HB.out.setCell (Nat.le_refl _) _⟩
     case measure=>simp [intOf];omega
   ·have HZk:=jH (HZ.out k (by omega))
    rw [HZk.out]at HST
    clear hrow hbel
    generalize dg 32 X k=x at*
    by_cases hxy:x<C+0
    ·have hw:IntKind.u32.wrap ((x:Int)+4294967296-C)=((x+4294967296-(C+0):Nat):Int):=by unfold IntKind.wrap;simp [IntKind.bits,IntKind.signed];omega
     have hlt:(x:Int)<(C:Int):=by omega
     have HS1:=jH (HST.out.1 hxy)
     clear HST
     go_wp2
     go_roundw
     case rel=>exact⟨k+1,1,by omega,by go_num,rfl,HS1,HB.out.setCell (Nat.le_refl _) _⟩
     case measure=>simp [intOf];omega
    ·have hw:IntKind.u32.wrap ((x:Int)-C)=((x-(C+0):Nat):Int):=by unfold IntKind.wrap;simp [IntKind.bits,IntKind.signed];omega
     have hlt:¬(x:Int)<(C:Int):=by omega
     have HS1:=jH (HST.out.2 hxy)
     clear HST
     go_wp2
     go_roundw
     case rel=>exact⟨k+1,0,by omega,by go_num,rfl,HS1,HB.out.setCell (Nat.le_refl _) _⟩
     case measure=>simp [intOf];omega
  ·obtain rfl:k=nx:=by omega
   have hraw:Raw .u32 32 wr (.slice (some ⟨w.heap.size,0,none⟩) k k) k (X-Y):=
    Raw.xM hrow (fun i hi=>by rw [if_pos hi]) HD.out (by omega)
   have HB:=jH hbel
   clear hrow hbel
   go_wp2_with fail
   refine(mZ _ _ (X-Y) _ hraw).mono ?_
   rintro e w1 ⟨v,rfl,rfl,hraw⟩
   have HRaw:=jH hraw
   clear hraw
   go_wp2
   go_ret
   exact⟨v,rfl,HB.out,HRaw.out⟩
end
section
set_option maxRecDepth 100000
set_option maxHeartbeats 6400000
open Go.RowKit
theorem oC (vx vy:Value) (X Y:Nat) (w:World) (hx:Raw .u32 32 w vx (ln 32 X) X) (hy:Raw .u32 32 w vy (ln 32 Y) Y):
  Calls Tryz.prog 227 #[vx,vy] w (aLf (.int .i64 (dQ X Y)) w):=by
 obtain⟨ax,cx,rfl,-,hX,hnx,hcx⟩:=hx
 obtain⟨ay,cy,rfl,-,hY,hny,hcy⟩:=hy
 have HCX:=jH hcx
 have HCY:=jH hcy
 have hlx:Hid (ln 32 X<ln 32 Y→X<Y):=jH (yB (by decide))
 have hly:Hid (ln 32 Y<ln 32 X→Y<X):=jH (yB (by decide))
 have HX:=jH hX
 have HY:=jH hY
 clear hcx hcy hX hY
 generalize ln 32 X=nx at*
 generalize ln 32 Y=ny at*
 by_cases hlt:nx<ny
 ·have hr:=aBh (a:=(X:Int)) (b:=Y) (by have:=hlx.out hlt;omega)
  have hne:((nx:Int) !=(ny:Int))=true:=by simp;omega
  rw [hr]
  clear hr
  go_enter Tryz.func227,Tryz.ntmps227
  go_wp2
  go_ret
  exact⟨rfl,0,rfl⟩
 by_cases hgt:ny<nx
 ·have hr:=aBp (a:=(X:Int)) (b:=Y) (by have:=hly.out hgt;omega)
  have hne:((nx:Int) !=(ny:Int))=true:=by simp;omega
  rw [hr]
  clear hr
  go_enter Tryz.func227,Tryz.ntmps227
  go_wp2
  go_ret
  exact⟨rfl,0,rfl⟩
 obtain rfl:nx=ny:=by omega
 clear hlt hgt hlx hly
 have hne:((nx:Int) !=(nx:Int))=false:=by simp
 go_enter Tryz.func227,Tryz.ntmps227
 go_wp2
 go_loopw [5] (fun i wr=>∃k q:Nat,k≤nx∧i= .int .i64 ((k:Int)-1)∧wr=w.drewN q∧X/2^(32*k)=Y/2^(32*k)) (fun i _=>(intOf i+1).toNat)
 case atStart=>exact⟨nx,0,Nat.le_refl _,rfl,rfl,by rw [Nat.div_eq_of_lt HX.out,Nat.div_eq_of_lt HY.out]⟩
 case round=>
  obtain⟨k,q,hk,rfl,rfl,hdiv⟩:=hrel
  have HD:=jH hdiv
  clear hdiv hne
  by_cases hk0:0<k
  ·obtain⟨j,rfl⟩:∃j,k=j+1:=⟨k-1,by omega⟩
   obtain⟨bx,ox,rfl,hbx,-,hcx⟩:=HCX.out (by omega)
   obtain⟨by',oy,rfl,hby,-,hcy⟩:=HCY.out (by omega)
   have h1:=hcx j (by omega)
   have h2:=hcy j (by omega)
   have ej:((j+1:Nat):Int)-1=(j:Int):=by omega
   rw [ej]
   have hb1:(0:Int)≤(j:Int):=by omega
   have hb2:(j:Int)<(nx:Int):=by omega
   clear hcx hcy ej
   by_cases hd:dg 32 X j=dg 32 Y j
   ·have HDE:=jH (xZ HD.out hd)
    rw [hd]at h1
    have hnl:¬((dg 32 Y j:Nat):Int)<((dg 32 Y j:Nat):Int):=by omega
    clear hd
    go_wp2
    go_quiet (fail)
    go_wp2
    go_quiet (fail)
    go_wp2
    go_roundw
    case rel=>exact⟨j,_,by omega,rfl,rfl,HDE.out⟩
    case measure=>simp [intOf]
   ·by_cases hl:dg 32 X j<dg 32 Y j
    ·have hr:=aBh (a:=(X:Int)) (b:=Y) (by have:=nT HD.out hl;omega)
     have HR:=jH hr
     have hlz:((dg 32 X j:Nat):Int)<((dg 32 Y j:Nat):Int):=by omega
     clear hr hd
     go_wp2
     go_quiet (fail)
     go_wp2
     go_ret
     rw [HR.out]
     exact⟨rfl,_,by first|rfl|rw [World.drewN_drewN]⟩
    ·have hr:=aBp (a:=(X:Int)) (b:=Y) (by have:=nT HD.out.symm (by omega:dg 32 Y j<dg 32 X j);omega)
     have HR:=jH hr
     have hlz:¬((dg 32 X j:Nat):Int)<((dg 32 Y j:Nat):Int):=by omega
     have hlz2:((dg 32 Y j:Nat):Int)<((dg 32 X j:Nat):Int):=by omega
     clear hr hd
     go_wp2
     go_quiet (fail)
     go_wp2
     go_quiet (fail)
     go_wp2
     go_ret
     rw [HR.out]
     exact⟨rfl,_,by first|rw [World.drewN_drewN,World.drewN_drewN]|rw [World.drewN_drewN]|rfl⟩
  ·obtain rfl:k=0:=by omega
   have hr:=aK5 (a:=(X:Int)) (b:=Y) (by have:=HD.out;simp at this;omega)
   have HR:=jH hr
   clear hr
   go_wp2
   go_ret
   rw [HR.out]
   exact⟨rfl,_,rfl⟩
theorem dB.stored' {k:IntKind}{s b o N:Nat}{neg:Bool}{v:Value}{w:World}(hz:fO w b o) (hv:Raw k s w v (ln s N) N):
  dB k s ((w.setCell ⟨b,o+1,none⟩ v).setCell ⟨b,o,none⟩ (.bool (neg&&decide (0<N)))) b o (if neg then-(N:Int)else N)∧
   Mod b o w ((w.setCell ⟨b,o+1,none⟩ v).setCell ⟨b,o,none⟩ (.bool (neg&&decide (0<N)))):=by
 have h1:=Mod.set (b:=b) (o:=o) w (.inr rfl) v
 have h2:=Mod.set (b:=b) (o:=o) (w.setCell ⟨b,o+1,none⟩ v) (.inl rfl) (.bool (neg&&decide (0<N)))
 have hm:=h1.trans hz.1 h2
 have hv':=hv.mod hm hz.2.1
 obtain⟨g1,⟨t,g2,g2'⟩,g3,g4,⟨s0,g5⟩,a,n,m,g6⟩:=hz
 have e1:((w.setCell ⟨b,o+1,none⟩ v).setCell ⟨b,o,none⟩ (.bool (neg&&decide (0<N)))).cell? ⟨b,o+1,none⟩=some v:=
  (lZ (zX (by omega))).trans (vF g6)
 have e0:((w.setCell ⟨b,o+1,none⟩ v).setCell ⟨b,o,none⟩ (.bool (neg&&decide (0<N)))).cell? ⟨b,o,none⟩=some (.bool (neg&&decide (0<N))):=
  vF ((lZ (zX (by omega))).trans g5)
 have ez:(if neg then-(N:Int)else N).natAbs=N:=by cases neg<;>simp
 have es:(neg&&decide (0<N))=decide ((if neg then-(N:Int)else N)<0):=by
  cases neg
  ·simp
  ·simp
 refine⟨⟨⟨Nat.lt_of_lt_of_le g1 hm.size,⟨t,hm.elem t g2,g2'⟩,(hm.frozen _ g1).trans g3,(hm.frozen _ g1).trans g4,⟨_,e0⟩,?_⟩,e0.trans (by rw [es]),v,e1,by rw [ez];exact hv'⟩,hm⟩
 obtain⟨ao,cap,e,-⟩:=hv
 exact⟨ao,_,cap,by rw [e1,e]⟩
theorem Puts.of' {k:IntKind}{s b o N:Nat}{neg:Bool}{v:Value}{w:World}(h:fO w b o∧Raw k s w v (ln s N) N):
  Puts k s b o (if neg then-(N:Int)else N) w (.returned (.pointer (some ⟨b,o,none⟩))) ((w.setCell ⟨b,o+1,none⟩ v).setCell ⟨b,o,none⟩ (.bool (neg&&decide (0<N)))):=
 ⟨rfl,(dB.stored' h.1 h.2).1,(dB.stored' h.1 h.2).2⟩
def aDf (b o:Nat) (z:Int) (v:Value) (w:World) (e:Ending) (w':World):Prop:=Puts .u32 32 b o z w e w'∧∃ao n n' c,v= .slice ao n c∧w'.cell? ⟨b,o+1,none⟩=some (.slice ao n' c)
theorem aDf.of {b o N n cap:Nat}{ao:Option Addr}{neg:Bool}{w:World}(h:fO w b o∧Raw .u32 32 w (.slice ao n cap) n N):
  aDf b o (if neg then-(N:Int)else N) (.slice ao n cap) w (.returned (.pointer (some ⟨b,o,none⟩))) ((w.setCell ⟨b,o+1,none⟩ (.slice ao (ln 32 N) cap)).setCell ⟨b,o,none⟩ (.bool (neg&&decide (0<N)))):=by
 refine⟨Puts.of' ⟨h.1,h.2.cut⟩,ao,n,ln 32 N,cap,rfl,?_⟩
 obtain⟨g1,-,g3,g4,⟨s0,g5⟩,a,m0,m,g6⟩:=h.1
 exact(lZ (zX (by omega))).trans (vF g6)
theorem aPr (b o n N cap:Nat) (ao:Option Addr) (neg:Bool) (z:Int) (w:World) (hz:fO w b o) (hv:Raw .u32 32 w (.slice ao n cap) n N) (he:(if neg then-(N:Int)else N)=z):
  Calls Tryz.prog 201 #[.pointer (some ⟨b,o,none⟩),.bool neg,.slice ao n cap] w (aDf b o z (.slice ao n cap) w):=by
 have HC:=jH (oG ao n cap N w hv)
 have HF:=jH (aDf.of (neg:=neg) (And.intro hz hv))
 rw [he]at HF
 clear he
 have hp:=kL (s:=32) (N:=N) (by decide)
 have hn:ln 32 N≤1099511627776:=by obtain⟨_,_,_,_,_,h,_⟩:=hv.cut;exact h
 obtain⟨g1,-,g3,g4,⟨s0,g5⟩,a,m0,m,g6⟩:=hz
 clear hv
 go_enter Tryz.func201,Tryz.ntmps201
 go_wp2_with fail
 refine HC.out.mono ?_
 rintro e1 w1 ⟨rfl,rfl⟩
 clear HC
 by_cases h0:0<N
 ·have h1:0<ln 32 N:=hp.2 h0
  rw [decide_eq_true h0,Bool.and_true]at HF
  clear hp h0
  generalize ln 32 N=L at*
  cases neg
  ·go_wp2
   go_ret
   exact HF.out
  ·go_wp2
   go_ret
   exact HF.out
 ·have h1:ln 32 N=0:=by omega
  rw [decide_eq_false h0,Bool.and_false]at HF
  rw [h1]at HF ⊢
  clear hp h1 hn h0
  cases neg
  ·go_wp2
   go_ret
   exact HF.out
  ·go_wp2
   go_ret
   exact HF.out
theorem aDt (b o n N cap:Nat) (ao:Option Addr) (neg:Bool) (w:World) (hz:fO w b o) (hv:Raw .u32 32 w (.slice ao n cap) n N):
  Calls Tryz.prog 201 #[.pointer (some ⟨b,o,none⟩),.bool neg,.slice ao n cap] w (aDf b o (if neg then-(N:Int)else N) (.slice ao n cap) w):=
 aPr b o n N cap ao neg _ w hz hv rfl
theorem gY (b o n N:Nat) (neg:Bool) (v:Value) (w:World) (hz:fO w b o) (hv:Raw .u32 32 w v n N):
  Calls Tryz.prog 201 #[.pointer (some ⟨b,o,none⟩),.bool neg,v] w (Puts .u32 32 b o (if neg then-(N:Int)else N) w):=by
 have h2:=hv
 obtain⟨ao,cap,rfl,-⟩:=h2
 exact(aDt b o n N cap ao neg w hz hv).mono fun _ _ h=>h.1
end
section
set_option maxRecDepth 100000
set_option maxHeartbeats 6400000
open Go.RowKit
theorem aHw {x y z c:Nat}(hx:x<4294967296) (hy:y<4294967296) (hz:z<4294967296) (hc:c<4294967296):x*y+z+c<18446744073709551616:=by
 have:x*y≤4294967295*4294967295:=Nat.mul_le_mul (by omega) (by omega)
 omega
theorem aA3 (a b:Nat) (ha:a<4294967296) (hb:b<4294967296):
  bits .or .u32 (a:Int) (b:Int)=((a|||b:Nat):Int):=by
 have hx:a|||b<2^32:=Nat.or_lt_two_pow (by omega) (by omega)
 have h1:(BitVec.ofInt 32 (a:Int)).toNat=a:=by
  rw [BitVec.ofInt_natCast,BitVec.toNat_ofNat];exact Nat.mod_eq_of_lt (by omega)
 have h2:(BitVec.ofInt 32 (b:Int)).toNat=b:=by
  rw [BitVec.ofInt_natCast,BitVec.toNat_ofNat];exact Nat.mod_eq_of_lt (by omega)
 show IntKind.u32.wrap ((BitVec.ofInt 32 (a:Int)|||BitVec.ofInt 32 (b:Int)).toNat:Int)=_
 rw [BitVec.toNat_or,h1,h2]
 unfold IntKind.wrap;simp [IntKind.bits,IntKind.signed];omega
theorem gG (a:Nat):IntKind.u32.wrap (a:Int)=((a%4294967296:Nat):Int):=by
 unfold IntKind.wrap;simp [IntKind.bits,IntKind.signed]
def qQ (X Y m b0 i ny j C N:Nat) (wr:World):Prop:=
 C<4294967296∧N+C*2^(32*(i+j))=X%2^(32*i)*Y+dg 32 X i*(Y%2^(32*j))*2^(32*i)∧N<2^(32*(i+ny))∧Row .u32 32 b0 m N wr
theorem qQ.wZ {X Y m b0 i ny j C N:Nat}{wr:World}(h:qQ X Y m b0 i ny j C N wr):qQ X Y m b0 i ny j C N wr.drew:=h
theorem qQ.step {X Y m b0 i ny j C N:Nat}{wr:World}(h:qQ X Y m b0 i ny j C N wr) (hj:j<ny) (hm:i+j<m):
  qQ X Y m b0 i ny (j+1) ((dg 32 X i*dg 32 Y j+dg 32 N (i+j)+C)/4294967296) (jV 32 N (i+j) ((dg 32 X i*dg 32 Y j+dg 32 N (i+j)+C)%4294967296))
   (wr.setCell ⟨b0,i+j,none⟩ (.int .u32 ((dg 32 X i*dg 32 Y j+dg 32 N (i+j)+C)%4294967296:Nat))):=by
 have hp:=aHw (bH X i) (bH Y j) (bH N (i+j)) h.1
 have hs:=aIb h.2.1
 rw [two32]at hs
 exact⟨by omega,hs,mO (Nat.mod_lt _ (by decide)) h.2.2.1 (by omega),h.2.2.2.set (Nat.mod_lt _ (by decide)) hm⟩
theorem qQ.last {X Y m b0 i ny C N:Nat}{wr:World}(h:qQ X Y m b0 i ny ny C N wr) (hY:Y<2^(32*ny)) (hm:i+ny<m):
  X%2^(32*(i+1))*Y<2^(32*(i+1+ny))∧Row .u32 32 b0 m (X%2^(32*(i+1))*Y) (wr.setCell ⟨b0,i+ny,none⟩ (.int .u32 (C:Nat))):=by
 have hr:=aKt hY h.2.1 h.2.2.1
 rw [←hr]
 exact⟨mO h.1 (Nat.lt_of_lt_of_le h.2.2.1 (Nat.pow_le_pow_right (by decide) (by omega))) (by omega),h.2.2.2.set h.1 hm⟩
theorem aKs (vx vy:Value) (nx ny X Y:Nat) (w:World) (hx:Raw .u32 32 w vx nx X) (hy:Raw .u32 32 w vy ny Y) (hn:nx≤274877906944∧ny≤274877906944):
  Calls Tryz.prog 238 #[vx,vy] w (Makes .u32 32 (ln 32 (X*Y)) (X*Y) w):=by
 obtain⟨ax,cx,rfl,-,hX,hnx,hcx⟩:=hx
 obtain⟨ay,cy,rfl,-,hY,hny,hcy⟩:=hy
 have HCX:=jH hcx
 have HCY:=jH hcy
 have HBX:=jH hX
 have HBY:=jH hY
 clear hcx hcy hX hY
 have hmk:=run_make_row' (P:=Tryz.prog) 165 233 (.int .u32 0) 4 Tryz.underlying165 Tryz.nV rfl .i64 .i64 (nx+ny) (by omega) (by omega)
 rw [show((nx+ny:Nat):Int)=(nx:Int)+(ny:Int)from by omega]at hmk
 go_enter Tryz.func238,Tryz.ntmps238
 go_wp2
 clear hmk
 have HR:=jH (Row.made .u32 32 (nx+ny) w)
 go_loopw [6] (fun i wr=>∃k:Nat,k≤nx∧i= .int .i64 k∧Hid (X%2^(32*k)*Y<2^(32*(k+ny))∧Row .u32 32 w.heap.size (nx+ny) (X%2^(32*k)*Y) wr)∧Below w.heap.size w wr)
  (fun i _=>nx-(intOf i).toNat)
 case atStart=>exact⟨0,Nat.zero_le _,rfl,jH ⟨by simp [Nat.mod_one,Nat.two_pow_pos],by simp only [Nat.mul_zero,Nat.pow_zero,Nat.mod_one,Nat.zero_mul];exact HR.out⟩,(Below.refl _ _).alloc (Nat.le_refl _) _⟩
 case round=>
  clear HR
  obtain⟨wo,rfl⟩:∃wo:World,wo=wr:=⟨_,rfl⟩
  obtain⟨i,hi,rfl,HR,hbel⟩:=hrel
  have hs:=HR.out.2.2.lt
  by_cases hlt:i<nx
  ·obtain⟨bx,ox,rfl,hbx,-,hcx⟩:=HCX.out (by omega)
   have HXI:=jH (hcx i hlt)
   have HB:=jH hbel
   have hne1:¬(bx=w.heap.size):=by omega
   clear hbel hcx
   go_wp2
   have HS:=jH (aEa 32 X Y i)
   go_loopw [7,8] (fun c jv wr=>∃j C N:Nat,j≤ny∧jv= .int .i64 j∧c= .int .u64 C∧
     Hid (qQ X Y (nx+ny) w.heap.size i ny j C N wr)∧Below w.heap.size w wr)
    (fun _ jv _=>ny-(intOf jv).toNat)
   case atStart=>exact⟨0,0,_,Nat.zero_le _,rfl,rfl,jH ⟨by decide,HS.out,HR.out.1,HR.out.2⟩,HB.out⟩
   case round=>
    clear HS HR hs
    obtain⟨j,C,N,hj,rfl,rfl,HR,hbel⟩:=hrel
    have hs:=HR.out.2.2.2.2.lt
    have hC:=HR.out.1
    have hf:=fun p=>HR.out.2.2.2.2.frozen p
    have hxi:wr.cell? ⟨bx,ox+i,none⟩=some (.int .u32 (dg 32 X i:Nat)):=(hbel.cell (p:=⟨bx,ox+i,none⟩) hbx).trans HXI.out
    by_cases hjl:j<ny
    ·obtain⟨by',oy,rfl,hby,-,hcy⟩:=HCY.out (by omega)
     have hyj:wr.cell? ⟨by',oy+j,none⟩=some (.int .u32 (dg 32 Y j:Nat)):=(hbel.cell (p:=⟨by',oy+j,none⟩) hby).trans (hcy j hjl)
     have hz:wr.cell? ⟨w.heap.size,i+j,none⟩=some (.int .u32 (dg 32 N (i+j):Nat)):=HR.out.2.2.2.2.cell (by omega)
     have hfz:=hf (i+j)
     have HB:=jH hbel
     have HST:=jH (qQ.step (wr:=wr.drew) HR.out.wZ hjl (by omega))
     have hd1:=bH X i
     have hd2:=bH Y j
     have hd3:=bH N (i+j)
     have hfit:=aHw hd1 hd2 hd3 hC
     have hne2:¬(by'=w.heap.size):=by omega
     clear hbel hf hcy HR
     generalize dg 32 X i=x at*
     generalize dg 32 Y j=y at*
     generalize dg 32 N (i+j)=z at*
     have hpp:(x:Int)*(y:Int)=((x*y:Nat):Int):=by simp
     generalize x*y=p at*
     have hw:IntKind.u32.wrap ((p:Int)+z+C)=((p+z+C)%4294967296:Nat):=by rw [←gG];simp
     have hw1:IntKind.u64.wrap ((x:Int)*(y:Int))=(p:Int):=by rw [hpp];exact dU _ (by omega)
     have hw2:IntKind.u64.wrap ((p:Int)+(z:Int))=(p:Int)+(z:Int):=by rw [IntKind.wrap_u64];omega
     have hb1:(0:Int)≤(i:Int)+(j:Int):=by omega
     have hb2:(i:Int)+(j:Int)<(nx:Int)+(ny:Int):=by omega
     have hw4:IntKind.i64.wrap ((i:Int)+(j:Int))=(i:Int)+(j:Int):=IntWalk.i64_in _ (by omega)
     have hw5:((i:Int)+(j:Int)).toNat=i+j:=by omega
     have hw3:IntKind.u64.wrap ((p:Int)+(z:Int)+(C:Int))=(p:Int)+(z:Int)+(C:Int):=by rw [IntKind.wrap_u64];omega
     go_wp2
     refine aC (fun w':World=>(w'.cell? ⟨bx,ox+i,none⟩=some (.int .u32 x)∧w'.cell? ⟨by',oy+j,none⟩=some (.int .u32 y))∧w'.cell? ⟨w.heap.size,i+j,none⟩=some (.int .u32 z)) 20 (.take 0 (.take 1 (.take 2 (.take 3 (.take 4 (.take 5 (.take 6 (.take 7 (.take 8 (.take 9 (.take 10 (.take 11 (.take 12 (.take 13 (.take 14 (.take 15 (.take 16 (.take 17 (.take 18 (.take 19 .nil)))))))))))))))))))) (by kernel_rfl) (by kernel_rfl) ?_
     have hS:(fun w':World=>(w'.cell? ⟨bx,ox+i,none⟩=some (.int .u32 x)∧w'.cell? ⟨by',oy+j,none⟩=some (.int .u32 y))∧w'.cell? ⟨w.heap.size,i+j,none⟩=some (.int .u32 z)) wr.drew:=⟨⟨hxi,hyj⟩,hz⟩
     repeat (refine bD (v:= ?_) rfl (fun _ _ _ h=>h) rfl (fun w' hSw=> ?_) hS ?_;rotate_left;focus (go_simp;with_reducible rfl);try simp only [Act.put,aF])
     clear hS
     refine aN ?_
     simp only [drL]
     go_wp2
     go_roundw
     case rel=>exact⟨j+1,(p+z+C)/4294967296,_,by omega,by go_num,by go_num,HST,(HB.out.drew).setCell (Nat.le_refl _) _⟩
     case measure=>simp [intOf];omega
    ·obtain rfl:j=ny:=by omega
     have HB:=jH hbel
     obtain⟨v0,hz⟩:∃v,wr.cell? ⟨w.heap.size,i+j,none⟩=some v:=⟨_,HR.out.2.2.2.2.cell (by omega)⟩
     have hfz:=hf (i+j)
     have HST:=jH (HR.out.last HBY.out (by omega))
     have hw:IntKind.u32.wrap (C:Int)=(C:Int):=by rw [gG,Nat.mod_eq_of_lt hC]
     clear hbel hf
     go_wp2
     go_roundw
     case rel=>exact⟨i+1,by omega,by go_num,jH HST.out,HB.out.setCell (Nat.le_refl _) _⟩
     case measure=>simp [intOf];omega
  ·obtain rfl:i=nx:=by omega
   have HB:=jH hbel
   have hraw:=HR.out.2.raw (by omega)
   rw [Nat.mod_eq_of_lt HBX.out]at hraw
   clear hbel
   go_wp2_with fail
   refine(mZ _ _ _ _ hraw).mono ?_
   rintro e w1 ⟨v,rfl,rfl,hr2⟩
   have HRaw:=jH hr2
   clear hr2 hraw
   go_wp2
   go_ret
   exact⟨v,rfl,HB.out,HRaw.out⟩
theorem aG1 {d r:Nat}(hd:d<4294967296) (hr:r<32):d*2^r<18446744073709551616:=by
 have h1:2^r≤2^31:=Nat.pow_le_pow_right (by decide) (by omega)
 have:d*2^r≤4294967295*2^31:=Nat.mul_le_mul (by omega) h1
 omega
theorem aP1 {d p r:Nat}(hd:d<2^r) (hr:r≤32):bits .or .u32 (d:Int) ((p*2^r%4294967296:Nat):Int)=((d+p*2^r%4294967296:Nat):Int):=by
 have h1:=kS (a:=p) (d:=d) hr hd
 rw [two32]at h1
 rw [aA3 _ _ (by omega) (by omega)]
 congr 1
 rw [←two32,(oL hr).1,Nat.or_comm,←Nat.two_pow_add_eq_or_of_lt hd,Nat.add_comm]
theorem aN5 (vx:Value) (X n nx:Nat) (w:World) (hx:Raw .u32 32 w vx nx X) (hn:n≤1099511627776) (hnx:nx≤68719476736):
  Calls Tryz.prog 205 #[vx,.int .u64 n] w (Makes .u32 32 (ln 32 (X*2^n)) (X*2^n) w):=by
 obtain⟨ax,cx,rfl,-,hX,-,hcx⟩:=hx
 have HCX:=jH hcx
 have hlt0:=jH hX
 clear hcx hX
 by_cases h0:nx=0
 ·have hX:X=0:=by have:=hlt0.out;rw [h0]at this;simp at this;omega
  subst hX
  have hfin:Makes .u32 32 (ln 32 (0*2^n)) (0*2^n) w (.returned (.slice none 0 0)) w:=by
   rw [Nat.zero_mul,eG]
   exact Makes.mk (Below.refl _ _) ⟨none,0,rfl,by omega,by simp,by omega,fun h=>absurd h (by omega)⟩
  have HF:=jH hfin
  subst h0
  clear hfin hlt0
  go_enter Tryz.func205,Tryz.ntmps205
  go_wp2
  go_ret
  exact HF.out
 have hnx0:0<nx:=by omega
 have hb1:((nx:Int)==0)=false:=by simp;omega
 obtain⟨W,r,hW,hr,hq1,hq2,hnWr⟩:∃W r:Nat,W≤34359738368∧r<32∧(n:Int)/32=(W:Int)∧(n:Int)%32=(r:Int)∧Hid (n=32*W+r):=
  ⟨n/32,n%32,by omega,by omega,by omega,by omega,jH (by omega)⟩
 have hmk:=run_make_row' (P:=Tryz.prog) 165 233 (.int .u32 0) 4 Tryz.underlying165 Tryz.nV rfl .i64 .i64 (W+nx+1) (by omega) (by omega)
 rw [show((W+nx+1:Nat):Int)=(W:Int)+(nx:Int)+1 from by omega]at hmk
 clear h0
 go_enter Tryz.func205,Tryz.ntmps205
 go_wp2
 clear hmk hb1
 have HR:=jH (Row.made .u32 32 (W+nx+1) w)
 go_loopw [8] (fun i wr=>∃k:Nat,k≤nx∧i= .int .i64 k∧Hid (Row .u32 32 w.heap.size (W+nx+1) (X%2^(32*k)*2^n) wr)∧Below w.heap.size w wr)
  (fun i _=>nx-(intOf i).toNat)
 case atStart=>exact⟨0,Nat.zero_le _,rfl,jH (by simp only [Nat.mul_zero,Nat.pow_zero,Nat.mod_one,Nat.zero_mul];exact HR.out),(Below.refl _ _).alloc (Nat.le_refl _) _⟩
 case round=>
  clear HR
  obtain⟨k,hk,rfl,HR,hbel⟩:=hrel
  have hs:=HR.out.2.lt
  have hf:=fun p=>HR.out.2.frozen p
  by_cases hlt:k<nx
  ·obtain⟨bx,ox,rfl,hbx,-,hcx⟩:=HCX.out (by omega)
   have hxk:wr.cell? ⟨bx,ox+k,none⟩=some (.int .u32 (dg 32 X k:Nat)):=(hbel.cell (p:=⟨bx,ox+k,none⟩) hbx).trans (hcx k hlt)
   have hz1:wr.cell? ⟨w.heap.size,W+k,none⟩=some (.int .u32 (dg 32 (X%2^(32*k)*2^n) (W+k):Nat)):=HR.out.2.cell (by omega)
   have hz2:∃v,wr.cell? ⟨w.heap.size,W+k+1,none⟩=some v:=⟨_,HR.out.2.cell (by omega)⟩
   obtain⟨v2,hz2⟩:=hz2
   have hf1:=hf (W+k)
   have hf2:=hf (W+k+1)
   have HB:=jH hbel
   have hlow:=vM (X:=X) (k:=k) hnWr.out (by omega)
   have hor:=aP1 (p:=dg 32 X k) hlow.1 (by omega)
   have hfit:=aG1 (bH X k) hr
   have hne1:¬(bx=w.heap.size):=by omega
   have HST:Hid (Row .u32 32 w.heap.size (W+nx+1) (X%2^(32*(k+1))*2^n)
     ((wr.setCell ⟨w.heap.size,W+k,none⟩ (.int .u32 (dg 32 (X%2^(32*k)*2^n) (W+k)+dg 32 X k*2^r%4294967296:Nat))).setCell ⟨w.heap.size,W+k+1,none⟩ (.int .u32 (dg 32 X k*2^r/4294967296:Nat)))):=by
    refine jH ?_
    have e:=(oL (a:=dg 32 X k) (r:=r) (s:=32) (by omega)).2
    rw [two32]at e
    rw [e,←left_step hnWr.out (by omega),two32]
    exact(HR.out.set (kS (by omega) hlow.1) (by omega)).set (Nat.lt_of_le_of_lt (Nat.div_le_self _ _) (iT _ _ _)) (by omega)
   have hdl:=bH (X%2^(32*k)*2^n) (W+k)
   have hdx:=bH X k
   clear hbel hf hcx HR hlow
   generalize dg 32 (X%2^(32*k)*2^n) (W+k)=d at*
   generalize dg 32 X k=x at*
   have hpp:IntKind.u64.wrap ((x:Int)*2^r)=((x*2^r:Nat):Int):=by rw [show(x:Int)*2^r=((x*2^r:Nat):Int)from by simp];exact dU _ hfit
   generalize x*2^r=p at*
   have hw:=gG p
   go_wp2
   go_roundw
   case rel=>
    have e1:bits .or .u32 (d:Int) ((p:Int)%4294967296)=((d+p%4294967296:Nat):Int):=by rw [←hor];simp
    have e2:(p:Int)/4294967296=((p/4294967296:Nat):Int):=by simp
    rw [e1,e2]
    exact⟨k+1,by omega,by go_num,HST,(HB.out.setCell (Nat.le_refl _) _).setCell (Nat.le_refl _) _⟩
   case measure=>simp [intOf];omega
  ·obtain rfl:k=nx:=by omega
   have hraw:=HR.out.raw (by omega)
   rw [Nat.mod_eq_of_lt hlt0.out]at hraw
   have HB:=jH hbel
   clear hbel hf
   go_wp2_with fail
   refine(mZ _ _ _ _ hraw).mono ?_
   rintro e w1 ⟨v,rfl,rfl,hr2⟩
   have HRaw:=jH hr2
   clear hr2 hraw
   go_wp2
   go_ret
   exact⟨v,rfl,HB.out,HRaw.out⟩
theorem aOy {s X n W r i:Nat}(hn:n=s*W+r) (hr:r≤s):dg s (X/2^n) i=(dg s X (W+i)+dg s X (W+i+1)*2^s)/2^r%2^s:=by
 have hs:2^s=2^r*2^(s-r):=by rw [←Nat.pow_add];congr 1;omega
 have hd:=iT s X (W+i)
 have hlt:dg s X (W+i)/2^r<2^(s-r):=by
  rw [Nat.div_lt_iff_lt_mul (Nat.two_pow_pos _),Nat.mul_comm,←hs];exact hd
 have h5:=kS (s:=s) (a:=dg s X (W+i+1)) (r:=s-r) (d:=dg s X (W+i)/2^r) (Nat.sub_le s r) hlt
 rw [aGs hn hr]
 generalize dg s X (W+i)=d0 at*
 generalize dg s X (W+i+1)=d1 at*
 have e3:d0+d1*2^s=d0+2^r*(d1*2^(s-r)):=by rw [hs];ac_rfl
 rw [e3,Nat.add_mul_div_left _ _ (Nat.two_pow_pos r),Nat.add_mod (d0/2^r) (d1*2^(s-r)),Nat.mod_eq_of_lt (Nat.lt_of_lt_of_le hlt (Nat.pow_le_pow_right (by decide) (by omega))),Nat.mod_eq_of_lt h5]
theorem or_hi {x y:Nat}(hx:x<4294967296) (hy:y<4294967296):bits .or .u64 (x:Int) ((y*4294967296:Nat):Int)=((x+y*4294967296:Nat):Int):=by
 rw [bits_or_u64_nat _ _ (by omega) (by omega)]
 congr 1
 have h:=Nat.two_pow_add_eq_or_of_lt (i:=32) (b:=x) (by omega) y
 rw [Nat.or_comm,Nat.mul_comm y,←two32,←h,Nat.add_comm]
def aRg (n N:Nat) (w:World) (e:Ending) (w':World):Prop:=∃v,e= .returned v∧Below w.heap.size w w'∧Raw .u32 32 w' v n N∧FrS w.heap.size v
theorem aFp (vx:Value) (X n nx:Nat) (w:World) (hx:Raw .u32 32 w vx nx X) (hn:n≤1099511627776) (hnx:nx≤68719476736):
  Calls Tryz.prog 234 #[vx,.int .u64 n] w (aRg (ln 32 (X/2^n)) (X/2^n) w):=by
 obtain⟨ax,cx,rfl,hcap,hX,-,hcx⟩:=hx
 have HCX:=jH hcx
 have hlt0:=jH hX
 clear hcx hX
 obtain⟨W,r,hW,hr,hq1,hq2,hnWr⟩:∃W r:Nat,W≤34359738368∧r<32∧(n:Int)/32=(W:Int)∧(n:Int)%32=(r:Int)∧Hid (n=32*W+r):=
  ⟨n/32,n%32,by omega,by omega,by omega,by omega,jH (by omega)⟩
 by_cases h0:nx≤W
 ·have hlt:X<2^n:=Nat.lt_of_lt_of_le hlt0.out (Nat.pow_le_pow_right (by decide) (by rw [hnWr.out];omega))
  have hfin:aRg (ln 32 (X/2^n)) (X/2^n) w (.returned (.slice none 0 0)) w:=by
   rw [Nat.div_eq_of_lt hlt,eG]
   exact⟨_,rfl,Below.refl _ _,⟨none,0,rfl,by omega,by simp,by omega,fun h=>absurd h (by omega)⟩,fun a n c h=>by cases h⟩
  have HF:=jH hfin
  clear hfin hlt0 hlt
  go_enter Tryz.func234,Tryz.ntmps234
  go_wp2
  go_ret
  exact HF.out
 have hWn:W<nx:=by omega
 have hmk:=run_make_row' (P:=Tryz.prog) 165 233 (.int .u32 0) 4 Tryz.underlying165 Tryz.nV rfl .i64 .i64 (nx-W) (by omega) (by omega)
 rw [show((nx-W:Nat):Int)=(nx:Int)-(W:Int)from by omega]at hmk
 clear h0
 go_enter Tryz.func234,Tryz.ntmps234
 go_wp2
 clear hmk
 have HR:=jH (Row.made .u32 32 (nx-W) w)
 have HQ:Hid (X/2^n<2^(32*(nx-W))):=by
  refine jH ?_
  rw [Nat.div_lt_iff_lt_mul (Nat.two_pow_pos _),←Nat.pow_add]
  exact Nat.lt_of_lt_of_le hlt0.out (Nat.pow_le_pow_right (by decide) (by rw [hnWr.out];omega))
 go_loopw [8] (fun i wr=>∃j:Nat,j≤nx-W∧i= .int .i64 j∧Hid (Row .u32 32 w.heap.size (nx-W) (X/2^n%2^(32*j)) wr)∧Below w.heap.size w wr)
  (fun i _=>(nx-W)-(intOf i).toNat)
 case atStart=>exact⟨0,Nat.zero_le _,rfl,jH (by simp only [Nat.mul_zero,Nat.pow_zero,Nat.mod_one];exact HR.out),(Below.refl _ _).alloc (Nat.le_refl _) _⟩
 case round=>
  clear HR
  obtain⟨j,hj,rfl,HR,hbel⟩:=hrel
  have hs:=HR.out.2.lt
  have hf:=fun p=>HR.out.2.frozen p
  by_cases hjl:j<nx-W
  ·obtain⟨v0,hz⟩:∃v,wr.cell? ⟨w.heap.size,j,none⟩=some v:=⟨_,HR.out.2.cell hjl⟩
   obtain⟨bx,ox,rfl,hbx,-,hcx⟩:=HCX.out (by omega)
   have hfz:=hf j
   have hc0:wr.cell? ⟨bx,ox+(W+j),none⟩=some (.int .u32 (dg 32 X (W+j):Nat)):=(hbel.cell (p:=⟨bx,ox+(W+j),none⟩) hbx).trans (hcx (W+j) (by omega))
   have hd0:=bH X (W+j)
   have hne1:¬(bx=w.heap.size):=by omega
   have HB:=jH hbel
   have hdig:=aOy (X:=X) (i:=j) hnWr.out (Nat.le_of_lt hr)
   rw [two32]at hdig
   have HST:Hid (Row .u32 32 w.heap.size (nx-W) (X/2^n%2^(32*(j+1))) (wr.setCell ⟨w.heap.size,j,none⟩ (.int .u32 ((dg 32 X (W+j)+dg 32 X (W+j+1)*4294967296)/2^r%4294967296:Nat)))):=by
    refine jH ?_
    rw [←mG,hdig]
    exact HR.out.set (Nat.mod_lt _ (by decide)) hjl
   clear hdig
   by_cases hnext:W+j+1<nx
   ·have hc1:wr.cell? ⟨bx,ox+(W+j+1),none⟩=some (.int .u32 (dg 32 X (W+j+1):Nat)):=(hbel.cell (p:=⟨bx,ox+(W+j+1),none⟩) hbx).trans (hcx (W+j+1) hnext)
    have hd1:=bH X (W+j+1)
    clear hbel hf hcx HR
    generalize dg 32 X (W+j)=x at*
    generalize dg 32 X (W+j+1)=y at*
    have hor:=or_hi hd0 hd1
    rw [show((y*4294967296:Nat):Int)=(y:Int)*4294967296 from by simp]at hor
    have hfit:x+y*4294967296<18446744073709551616:=by omega
    generalize x+y*4294967296=p at*
    have hsh:=uX p r
    have hw:=gG (p/2^r)
    have hlt2:p/2^r<18446744073709551616:=Nat.lt_of_le_of_lt (Nat.div_le_self _ _) hfit
    generalize p/2^r=q at*
    go_wp2
    go_roundw
    case rel=>exact⟨j+1,by omega,by go_num,HST,HB.out.setCell (Nat.le_refl _) _⟩
    case measure=>simp [intOf];omega
   ·have hd1:dg 32 X (W+j+1)=0:=fK hlt0.out (by omega)
    clear hbel hf hcx HR
    rw [hd1]at HST
    clear hd1
    generalize dg 32 X (W+j)=x at*
    have hfit:x+0*4294967296<18446744073709551616:=by omega
    rw [Nat.zero_mul,Nat.add_zero]at HST hfit
    have hsh:=uX x r
    have hw:=gG (x/2^r)
    have hlt2:x/2^r<18446744073709551616:=Nat.lt_of_le_of_lt (Nat.div_le_self _ _) hfit
    generalize x/2^r=q at*
    go_wp2
    go_roundw
    case rel=>exact⟨j+1,by omega,by go_num,HST,HB.out.setCell (Nat.le_refl _) _⟩
    case measure=>simp [intOf];omega
  ·obtain rfl:j=nx-W:=by omega
   have hraw:=HR.out.raw (by omega)
   rw [Nat.mod_eq_of_lt HQ.out]at hraw
   have HB:=jH hbel
   clear hbel hf
   go_wp2_with fail
   refine(oG _ _ _ _ _ hraw).mono ?_
   rintro e w1 ⟨rfl,rfl⟩
   have HRaw:=jH hraw.cut
   clear hraw
   go_wp2
   go_ret
   exact⟨_,rfl,HB.out,HRaw.out,fun a n c h=>by cases h;exact Nat.le_refl _⟩
theorem xX (vx:Value) (X n nx:Nat) (w:World) (hx:Raw .u32 32 w vx nx X) (hn:n≤1099511627776) (hnx:nx≤68719476736):
  Calls Tryz.prog 234 #[vx,.int .u64 n] w (Makes .u32 32 (ln 32 (X/2^n)) (X/2^n) w):=
 (aFp vx X n nx w hx hn hnx).mono fun _ _ ⟨v,h1,h2,h3,_⟩=>⟨v,h1,h2,h3⟩
end
section
set_option maxRecDepth 100000
set_option maxHeartbeats 6400000
open Go.RowKit
theorem iZ :wL 175:=by
 intro k;cases k<;>decide
abbrev fU (w:World) (b:Nat) (z:Int):Prop:=dB .u32 32 w b 0 z
theorem xW (N:Nat) (w:World) (h:N<18446744073709551616):
  Calls Tryz.prog 264 #[.int .u64 N] w (Makes .u32 32 (ln 32 N) N w):=by
 have hraw:Raw .u32 32 (w.alloc (.cells #[.int .u32 (N%4294967296:Nat),.int .u32 ((N:Int)/4294967296)] 233)) (.slice (some ⟨w.heap.size,0,none⟩) 2 2) 2 N:=by
  refine⟨_,2,rfl,by omega,h,by omega,fun _=>⟨w.heap.size,0,rfl,by simp,Elem.new _ _ _,fun i hi=> ?_⟩⟩
  rw [Nat.zero_add,World.cell?_alloc_new]
  rcases Nat.lt_or_ge i 1 with h1|h1
  ·obtain rfl:i=0:=by omega
   simp [dg]
  ·obtain rfl:i=1:=by omega
   have:N/4294967296%4294967296=N/4294967296:=Nat.mod_eq_of_lt (by omega)
   simp [dg,this]
 have HR:=jH hraw
 have hw:=gG N
 clear hraw
 go_enter Tryz.func264,Tryz.ntmps264
 go_wp2_with fail
 refine(mZ _ _ N _ HR.out).mono ?_
 rintro e w1 ⟨v,rfl,rfl,hr⟩
 have HF:=jH hr
 clear hr
 go_wp2
 go_ret
 exact⟨v,rfl,(Below.refl _ _).alloc (Nat.le_refl _) _,HF.out⟩
theorem uU (b o N:Nat) (w:World) (hz:fO w b o) (hN:N<18446744073709551616):
  Calls Tryz.prog 237 #[.pointer (some ⟨b,o,none⟩),.int .u64 N] w (Puts .u32 32 b o N w):=by
 have HZ:=jH hz
 have HN:=jH hN
 clear hz hN
 go_enter Tryz.func237,Tryz.ntmps237
 go_wp2_with fail
 refine(xW N _ HN.out).mono ?_
 rintro e w1 ⟨v1,rfl,hb1,hr1⟩
 have HB:=jH hb1
 have HR1:=jH hr1
 clear hb1 hr1
 go_wp2_with fail
 refine(gY b o _ N false _ _ (HZ.out.below HB.out) HR1.out).mono ?_
 rintro e w2 ⟨rfl,hi2,hm2⟩
 have HF2:=jH hi2
 have HM:=jH ((Mod.of_below HB.out HZ.out.1).trans HZ.out.1 hm2)
 clear hi2 hm2
 go_wp2
 go_ret
 exact⟨rfl,HF2.out,HM.out⟩
theorem aDk (b o:Nat) (z:Int) (w:World) (hz:fO w b o) (h1: -9223372036854775808≤z) (h2:z≤9223372036854775807):
  Calls Tryz.prog 233 #[.pointer (some ⟨b,o,none⟩),.int .i64 z] w (Puts .u32 32 b o z w):=by
 have HZ:=jH hz
 have hN:z.natAbs<18446744073709551616:=by omega
 have HN:=jH hN
 clear hz hN
 by_cases hneg:z<0
 ·have hw:=yQ hneg h1
  have HE:Hid ((if true then-((z.natAbs:Nat):Int)else z.natAbs)=z):=jH (by simp;omega)
  have HW:=jH hw
  clear hw h1 h2
  go_enter Tryz.func233,Tryz.ntmps233
  go_wp2_with fail
  rw [HW.out]
  refine(xW _ _ HN.out).mono ?_
  rintro e w1 ⟨v1,rfl,hb1,hr1⟩
  have HB:=jH hb1
  have HR1:=jH hr1
  clear hb1 hr1
  go_wp2_with fail
  refine(gY b o _ _ true _ _ (HZ.out.below HB.out) HR1.out).mono ?_
  rintro e w2 ⟨rfl,hi2,hm2⟩
  have HF2:=jH hi2
  have HM:=jH ((Mod.of_below HB.out HZ.out.1).trans HZ.out.1 hm2)
  clear hi2 hm2
  go_wp2
  go_ret
  exact⟨rfl,by rw [←HE.out];exact HF2.out,HM.out⟩
 ·obtain⟨n,rfl⟩:∃n:Nat,z=n:=⟨z.natAbs,by omega⟩
  have HN2:Hid (n<18446744073709551616):=jH (by omega)
  clear HN
  go_enter Tryz.func233,Tryz.ntmps233
  go_wp2_with fail
  refine(xW n _ HN2.out).mono ?_
  rintro e w1 ⟨v1,rfl,hb1,hr1⟩
  have HB:=jH hb1
  have HR1:=jH hr1
  clear hb1 hr1
  go_wp2_with fail
  refine(gY b o _ n false _ _ (HZ.out.below HB.out) HR1.out).mono ?_
  rintro e w2 ⟨rfl,hi2,hm2⟩
  have HF2:=jH hi2
  have HM:=jH ((Mod.of_below HB.out HZ.out.1).trans HZ.out.1 hm2)
  clear hi2 hm2
  go_wp2
  go_ret
  exact⟨rfl,HF2.out,HM.out⟩
theorem qL (z:Int) (w:World) (h1: -9223372036854775808≤z) (h2:z≤9223372036854775807):
  Calls Tryz.prog 197 #[.int .i64 z] w (aJn .u32 32 z w):=by
 have HZ:=jH (fO.new w _ iZ)
 go_enter Tryz.func197,Tryz.ntmps197
 go_wp2_with fail
 refine(aDk _ 0 z _ HZ.out h1 h2).mono ?_
 rintro e w2 ⟨rfl,hi2,hm2⟩
 have HF:=jH hi2
 have HM:=jH (hm2.below (Below.aA w _) (Nat.le_refl _) (by simp))
 clear hi2 hm2
 go_wp2
 go_ret
 exact⟨_,rfl,Nat.le_refl _,HF.out,HM.out⟩
theorem wH (c p:Nat) (X:Int) (w:World) (hx:dB .u32 32 w c p X):
  Calls Tryz.prog 164 #[.pointer (some ⟨c,p,none⟩)] w fun e w'=>e= .returned (.int .i64 X.sign)∧w=w':=by
 obtain⟨hxs,hx0,vx,hx1,hrx⟩:=hx
 obtain⟨ao,cap,rfl,-⟩:=hrx
 have hp:=kL (s:=32) (N:=X.natAbs) (by decide)
 by_cases h2:X=0
 ·subst h2
  rw [show(0:Int).natAbs=0 from rfl,eG]at hx1
  rw [show(0:Int).sign=0 from rfl]
  clear hp hxs
  go_enter Tryz.func164,Tryz.ntmps164
  go_wp2
  go_ret
  exact⟨rfl,rfl⟩
 ·have hlp:0<ln 32 X.natAbs:=hp.2 (by omega)
  by_cases h1:X<0
  ·rw [decide_eq_true h1]at hx0
   have HF:=jH (Int.sign_eq_neg_one_of_neg h1)
   rw [HF.out]
   clear h1 hp hxs HF h2
   generalize ln 32 X.natAbs=n at*
   have hb:((n:Int)==0)=false:=by simp;omega
   go_enter Tryz.func164,Tryz.ntmps164
   go_wp2
   go_ret
   exact⟨rfl,rfl⟩
  ·rw [decide_eq_false h1]at hx0
   have HF:=jH (Int.sign_eq_one_of_pos (show 0<X by omega))
   rw [HF.out]
   clear h1 hp hxs HF h2
   generalize ln 32 X.natAbs=n at*
   have hb:((n:Int)==0)=false:=by simp;omega
   go_enter Tryz.func164,Tryz.ntmps164
   go_wp2
   go_ret
   exact⟨rfl,rfl⟩
end
end Go.Proofs.YtfmecpembnmnkaaGreatDoor
