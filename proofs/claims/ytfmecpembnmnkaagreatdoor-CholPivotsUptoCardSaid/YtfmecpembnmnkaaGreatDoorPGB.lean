/- Walks: big's digits. -/
import Derived.Test.YtfmecpembnmnkaaGreatDoorPGA
import Derived.Deep.OwnRows
import Derived.Deep.RegionHeld3
import Derived.Deep.QuietTactic
import Derived.BigQuiet
namespace Go.Proofs.YtfmecpembnmnkaaGreatDoor
section
set_option maxRecDepth 100000
set_option maxHeartbeats 6400000
open Go.RowKit
def Elem (w:World) (b t:Nat):Prop:=∃c fr,w.heap[b]? =some (.cells c t fr)
def ety :IntKind→Nat
 | .u64=>33
 | .u32=>233
 | .u8=>5
 | .i64=>3
 |_=>0
def Raw (k:IntKind) (s:Nat) (w:World) (v:Value) (n N:Nat):Prop:=
 ∃ao cap,v= .slice ao n cap∧n≤cap∧N<2^(s*n)∧n≤1099511627776∧
  (0<n→∃b off,ao=some ⟨b,off,none⟩∧b<w.heap.size∧Elem w b (ety k)∧∀i,i<n→w.cell? ⟨b,off+i,none⟩=some (.int k (dg s N i:Nat)))
theorem Elem.of_block {w w':World}{b t:Nat}(h:Elem w b t) (e:w'.heap[b]? =w.heap[b]?):Elem w' b t:=by
 obtain⟨c,fr,h⟩:=h
 exact⟨c,fr,e.trans h⟩
theorem Raw.below {k:IntKind}{s:Nat}{w w':World}{v:Value}{n N:Nat}(h:Raw k s w v n N) (hb:Below w.heap.size w w'):Raw k s w' v n N:=by
 obtain⟨ao,cap,hv,hcap,hN,hn,hc⟩:=h
 refine⟨ao,cap,hv,hcap,hN,hn,fun h0=> ?_⟩
 obtain⟨b,off,e,hlt,he,hc⟩:=hc h0
 exact⟨b,off,e,Nat.lt_of_lt_of_le hlt hb.size,he.of_block (hb.block b hlt),fun i hi=>(hb.cell (p:=⟨b,off+i,none⟩) hlt).trans (hc i hi)⟩
theorem oK (v:Value) (n N i:Nat) (w:World) (h:Raw .u64 64 w v n N) (hi:i≤1099511627776):
  Calls Tryz.prog 267 #[v,.int .i64 i] w fun e w'=>e= .returned (.int .u64 (dg 64 N i:Nat))∧w=w':=by
 obtain⟨ao,cap,rfl,hcap,hN,hn,hc⟩:=h
 by_cases hlt:i<n
 ·obtain⟨b,off,rfl,hb,-,hc⟩:=hc (by omega)
  have hci:=hc i hlt
  clear hc
  go_enter Tryz.func267,Tryz.ntmps267
  go_wp2
  go_ret
  exact⟨rfl,rfl⟩
 ·have hz:=fK (i:=i) hN (by omega)
  rw [hz]
  clear hz hc
  go_enter Tryz.func267,Tryz.ntmps267
  go_wp2
  go_ret
  exact⟨rfl,rfl⟩
theorem yV (v:Value) (n N i:Nat) (z:Int) (w:World) (h:Raw .u64 64 w v n N) (hi:i≤1099511627776) (hz:z=i):
  Calls Tryz.prog 267 #[v,.int .i64 z] w fun e w'=>e= .returned (.int .u64 (dg 64 N i:Nat))∧w=w':=by
 subst hz;exact oK v n N i w h hi
def aFe (k:IntKind) (s:Nat) (n N:Nat) (w:World) (e:Ending) (w':World):Prop:=∃v,e= .returned v∧w=w'∧Raw k s w v n N
theorem nC (v:Value) (n N:Nat) (w:World) (h:Raw .u64 64 w v n N):
  Calls Tryz.prog 268 #[v] w (aFe .u64 64 (ln 64 N) N w):=by
 obtain⟨ao,cap,rfl,hcap,hN,hn,hc⟩:=h
 have H:Hid (∀k,k≤n→N<2^(64*k)→aFe .u64 64 (ln 64 N) N w (.returned (.slice ao (ln 64 N) cap)) w):=by
  refine jH fun k hk hNk=> ?_
  have hl:ln 64 N≤n:=(dL (by decide)).2 hN
  refine⟨_,rfl,rfl,ao,cap,rfl,by omega,pW (by decide),by omega,fun h0=> ?_⟩
  obtain⟨b,off,e,hb,he,hc⟩:=hc (by omega)
  exact⟨b,off,e,hb,he,fun i hi=>hc i (by omega)⟩
 have HC:Hid _:=jH hc
 have HN:=jH hN
 clear hc hN
 go_enter Tryz.func268,Tryz.ntmps268
 go_wp2
 go_loop [3] (fun i=>∃k:Nat,k≤n∧i= .int .i64 k∧N<2^(64*k)) (fun i=>(intOf i).toNat)
 case atStart=>exact⟨n,Nat.le_refl _,rfl,HN.out⟩
 case round=>
  obtain⟨k,hk,rfl,hNk⟩:=hrel
  have HK:=jH hNk
  clear hNk
  by_cases hk0:0<k
  ·obtain⟨b,off,rfl,hb,-,hc⟩:=HC.out (by omega)
   have hcell:=hc (k-1) (by omega)
   by_cases hd:dg 64 N (k-1)=0
   ·rw [hd]at hcell
    clear hc
    go_wp2
    go_round
    case rel=>
     refine⟨k-1,by omega,by go_num,?_⟩
     refine aGg HK.out fun i h1 h2=> ?_
     have:i=k-1:=by omega
     subst this;exact hd
    case measure=>simp [intOf];omega
   ·have hne:((dg 64 N (k-1):Nat)==(0:Int))=false:=by simp;omega
    have e:ln 64 N=k:=by
     have h1:ln 64 N≤k:=(dL (by decide)).2 HK.out
     rcases Nat.lt_or_ge (ln 64 N) k with h2|h2
     ·exact absurd (fK (pW (s:=64) (N:=N) (by decide)) (by omega)) hd
     ·omega
    have HR:=jH (H.out k hk HK.out)
    rw [e]at HR
    have HE:=jH e
    clear hc hd H e
    go_wp2
    go_ret
    rw [HE.out]
    exact HR.out
  ·obtain rfl:k=0:=by omega
   have h0:N=0:=by have:=HK.out;simp at this;omega
   have e:ln 64 N=0:=by subst h0;exact eG 64
   have HR:=jH (H.out 0 hk HK.out)
   rw [e]at HR
   have HE:=jH e
   clear H h0 e
   go_wp2
   go_ret
   rw [HE.out]
   exact HR.out
theorem Tryz.info33 :(Tryz.prog.info? 33).map (fun i=>(i.zero,i.size,i.bytes))=some (some (.int .u64 0),1,8):=by kernel_rfl
theorem _root_.Go.World.rowIs.elem {w:World}{b t n:Nat}{f:Nat→Value}(h:w.rowIs b t n f):Elem w b t:=by
 obtain⟨c,h,-⟩:=h
 exact⟨c,_,h⟩
theorem Raw.xM {s:Nat}{w:World}{b n N:Nat}{k:IntKind}{f:Nat→Value}(h:w.rowIs b (ety k) n f) (hf:∀i,i<n→f i= .int k (dg s N i:Nat)) (hN:N<2^(s*n)) (hn:n≤1099511627776):
  Raw k s w (.slice (some ⟨b,0,none⟩) n n) n N:=
 ⟨_,_,rfl,Nat.le_refl _,hN,hn,fun _=>⟨b,0,rfl,h.lt,h.elem,fun i hi=>by rw [Nat.zero_add,h.cell hi,hf i hi]⟩⟩
def Makes (k:IntKind) (s:Nat) (n N:Nat) (w:World) (e:Ending) (w':World):Prop:=∃v,e= .returned v∧Below w.heap.size w w'∧Raw k s w' v n N
theorem Makes.mk {k:IntKind}{s n N:Nat}{w w':World}{v:Value}(hb:Below w.heap.size w w') (h:Raw k s w' v n N):Makes k s n N w (.returned v) w':=⟨v,rfl,hb,h⟩
theorem eH (N i:Nat):dg 64 N i<18446744073709551616:=iT 64 N i
theorem aHn :(2:Nat)^64=18446744073709551616:=by decide
def tZ (X Y m b0 k C:Nat) (wr:World):Prop:=
 C≤1∧X%2^(64*k)+Y%2^(64*k)=(X+Y)%2^(64*k)+C*2^(64*k)∧
  wr.rowIs b0 (ety .u64) m (fun j=> .int .u64 ((if j<k then dg 64 (X+Y) j else 0:Nat)))
theorem tZ.step {X Y m b0 k C:Nat}{wr:World}(h:tZ X Y m b0 k C wr):
  tZ X Y m b0 (k+1) (hi64 (dg 64 X k+dg 64 Y k+C)) (wr.setCell ⟨b0,k,none⟩ (.int .u64 (nI (dg 64 X k+dg 64 Y k+C):Nat))):=by
 obtain⟨h1,h2,h3⟩:=h
 have h4:=aC5 h2
 rw [aHn]at h4
 have hx:=eH X k
 have hy:=eH Y k
 refine⟨by unfold hi64;omega,h4.2,?_⟩
 refine(h3.set k _).congr fun i hi=> ?_
 unfold nI
 rw [h4.1]
 by_cases e:i=k
 ·subst e;simp
 ·rw [if_neg e]
  by_cases e2:i<k
  ·rw [if_pos e2,if_pos (by omega)]
  ·rw [if_neg e2,if_neg (by omega)]
theorem tZ.last {X Y m b0 C:Nat}{wr:World}(hX:X<2^(64*m)) (hY:Y<2^(64*m)) (hm:m+1≤1099511627776) (h:tZ X Y (m+1) b0 m C wr):
  Raw .u64 64 (wr.setCell ⟨b0,m,none⟩ (.int .u64 C)) (.slice (some ⟨b0,0,none⟩) (m+1) (m+1)) (m+1) (X+Y):=by
 obtain⟨h1,h2,h3⟩:=h
 have h4:=aG5 hX hY h2 (by omega)
 refine Raw.xM (h3.set m _) (fun i hi=> ?_) ?_ hm
 ·by_cases e:i=m
  ·subst e;simp [h4]
  ·rw [if_neg e,if_pos (by omega)]
 ·rw [Nat.mul_succ,Nat.pow_add];omega
theorem sum_any (vx vy:Value) (nx ny X Y:Nat) (w:World) (hx:Raw .u64 64 w vx nx X) (hy:Raw .u64 64 w vy ny Y) (hn:nx≤274877906944∧ny≤274877906944):
  Calls Tryz.prog 275 #[vx,vy] w (Makes .u64 64 (ln 64 (X+Y)) (X+Y) w):=by
 have HX:=jH hx
 have HY:=jH hy
 have hX:X<2^(64*nx):=by obtain⟨_,_,_,_,h,_⟩:=hx;exact h
 have hY:Y<2^(64*ny):=by obtain⟨_,_,_,_,h,_⟩:=hy;exact h
 obtain⟨m,hm1,hm2,hm3,hif⟩:∃m,nx≤m∧ny≤m∧m≤274877906944∧max (nx:Int) (ny:Int)=(m:Int):=by
  by_cases h:nx<ny
  ·exact⟨ny,by omega,by omega,by omega,by omega⟩
  ·exact⟨nx,by omega,by omega,by omega,by omega⟩
 have HL:Hid (X<2^(64*m)∧Y<2^(64*m)):=by
  exact jH ⟨Nat.lt_of_lt_of_le hX (Nat.pow_le_pow_right (by decide) (by omega)),Nat.lt_of_lt_of_le hY (Nat.pow_le_pow_right (by decide) (by omega))⟩
 clear hX hY
 have hmk:=run_make_row' (P:=Tryz.prog) 218 33 (.int .u64 0) 8 Tryz.underlying218 Tryz.info33 rfl .i64 .i64 (m+1) (by omega) (by omega)
 rw [show((m+1:Nat):Int)=(m:Int)+1 from by omega]at hmk
 obtain⟨ax,cx,rfl,-⟩:=hx
 obtain⟨ay,cy,rfl,-⟩:=hy
 go_enter Tryz.func275,Tryz.ntmps275
 go_wp2
 clear hif hmk
 have hR:tZ X Y (m+1) w.heap.size 0 0 (w.alloc (.cells (madeCells #[.int .u64 0] (m+1)) 33)):=by
  refine⟨by omega,by simp [Nat.mod_one],(World.rowIs_made _ _ _ _).congr fun i hi=>by simp⟩
 have HR:=jH hR
 clear hR
 go_loopw [7,18] (fun c i wr=>∃k C:Nat,k≤m∧i= .int .i64 k∧c= .int .u64 C∧Hid (tZ X Y (m+1) w.heap.size k C wr)∧Below w.heap.size w wr)
  (fun _ i _=>m-(intOf i).toNat)
 case atStart=>exact⟨0,0,Nat.zero_le _,rfl,rfl,HR,(Below.refl _ _).alloc (Nat.le_refl _) _⟩
 case round=>
  obtain⟨k,C,hk,rfl,rfl,HR,hbel⟩:=hrel
  have hC:=HR.out.1
  have hrow:=HR.out.2.2
  have hs:=hrow.lt
  by_cases hlt:k<m
  ·have hadd:=aHz (dg 64 X k) (dg 64 Y k) C hC
   have hf:=hrow.frozen k
   have hck:∃v,wr.cell? ⟨w.heap.size,k,none⟩=some v:=⟨_,hrow.cell (by omega)⟩
   obtain⟨v0,hck⟩:=hck
   have HB:=jH hbel
   clear hrow hbel
   go_wp2_with fail
   refine(oK _ _ X k _ (HX.out.below HB.out) (by omega)).mono ?_
   rintro e w1 ⟨rfl,rfl⟩
   go_wp2_with fail
   refine(oK _ _ Y k _ (HY.out.below HB.out) (by omega)).mono ?_
   rintro e w1 ⟨rfl,rfl⟩
   go_wp2_with fail
   go_roundw
   case rel=>exact⟨k+1,_,by omega,by go_num,rfl,jH HR.out.step,HB.out.setCell (Nat.le_refl _) _⟩
   case measure=>simp [intOf];omega
  ·obtain rfl:k=m:=by omega
   have hf:=hrow.frozen k
   have hck:∃v,wr.cell? ⟨w.heap.size,k,none⟩=some v:=⟨_,hrow.cell (by omega)⟩
   obtain⟨v0,hck⟩:=hck
   have HB:=jH hbel
   clear hrow hbel
   go_wp2_with fail
   refine(nC _ _ (X+Y) _ (tZ.last HL.out.1 HL.out.2 (by omega) HR.out)).mono ?_
   rintro e w1 ⟨v,rfl,rfl,hraw⟩
   have HRaw:=jH hraw
   clear hraw
   go_wp2
   go_ret
   exact⟨v,rfl,HB.out.setCell (Nat.le_refl _) _,HRaw.out⟩
end
section
set_option maxRecDepth 100000
set_option maxHeartbeats 6400000
open Go.RowKit
def yG (X Y m b0 k C:Nat) (wr:World):Prop:=
 C≤1∧X%2^(64*k)+C*2^(64*k)=(X-Y)%2^(64*k)+Y%2^(64*k)∧
  wr.rowIs b0 (ety .u64) m (fun j=> .int .u64 ((if j<k then dg 64 (X-Y) j else 0:Nat)))
theorem yG.step {X Y m b0 k C:Nat}{wr:World}(hXY:Y≤X) (h:yG X Y m b0 k C wr):
  yG X Y m b0 (k+1) (aUe (dg 64 X k) (dg 64 Y k) C) (wr.setCell ⟨b0,k,none⟩ (.int .u64 (aTg (dg 64 X k) (dg 64 Y k) C:Nat))):=by
 obtain⟨h1,h2,h3⟩:=h
 obtain⟨b',h4,h5⟩:=aIt hXY h2
 rw [aHn]at h4
 have hx:=eH X k
 have hy:=eH Y k
 have hz:=eH (X-Y) k
 have hb:aUe (dg 64 X k) (dg 64 Y k) C=b':=by unfold aUe;split<;>omega
 have hd:aTg (dg 64 X k) (dg 64 Y k) C=dg 64 (X-Y) k:=by unfold aTg;omega
 rw [hb,hd]
 refine⟨by omega,h5,?_⟩
 refine(h3.set k _).congr fun i hi=> ?_
 by_cases e:i=k
 ·subst e;simp
 ·rw [if_neg e]
  by_cases e2:i<k
  ·rw [if_pos e2,if_pos (by omega)]
  ·rw [if_neg e2,if_neg (by omega)]
theorem aHq (vx vy:Value) (nx ny X Y:Nat) (w:World) (hx:Raw .u64 64 w vx nx X) (hy:Raw .u64 64 w vy ny Y) (hn:nx≤274877906944∧ny≤274877906944) (hXY:Y≤X):
  Calls Tryz.prog 285 #[vx,vy] w (Makes .u64 64 (ln 64 (X-Y)) (X-Y) w):=by
 have HX:=jH hx
 have HY:=jH hy
 have HXY:=jH hXY
 have HD:Hid (X-Y<2^(64*nx)):=by obtain⟨_,_,_,_,h,_⟩:=hx;exact jH (by omega)
 clear hXY
 have hmk:=run_make_row' (P:=Tryz.prog) 218 33 (.int .u64 0) 8 Tryz.underlying218 Tryz.info33 rfl .i64 .i64 nx (by omega) (by omega)
 obtain⟨ax,cx,rfl,-,-,-,hcx⟩:=hx
 have HCX:=jH hcx
 obtain⟨ay,cy,rfl,-⟩:=hy
 clear hcx
 go_enter Tryz.func285,Tryz.ntmps285
 go_wp2
 clear hmk
 have hR:yG X Y nx w.heap.size 0 0 (w.alloc (.cells (madeCells #[.int .u64 0] nx) 33)):=by
  refine⟨by omega,by simp [Nat.mod_one],(World.rowIs_made _ _ _ _).congr fun i hi=>by simp⟩
 have HR:=jH hR
 clear hR
 go_loopw [6,13] (fun c i wr=>∃k C:Nat,k≤nx∧i= .int .i64 k∧c= .int .u64 C∧Hid (yG X Y nx w.heap.size k C wr)∧Below w.heap.size w wr)
  (fun _ i _=>nx-(intOf i).toNat)
 case atStart=>exact⟨0,0,Nat.zero_le _,rfl,rfl,HR,(Below.refl _ _).alloc (Nat.le_refl _) _⟩
 case round=>
  obtain⟨k,C,hk,rfl,rfl,HR,hbel⟩:=hrel
  have hC:=HR.out.1
  have hrow:=HR.out.2.2
  have hs:=hrow.lt
  by_cases hlt:k<nx
  ·obtain⟨bx,ox,rfl,hbx,-,hcx⟩:=HCX.out (by omega)
   have hsub:=aRy (dg 64 X k) (dg 64 Y k) C hC
   have hcxk:wr.cell? ⟨bx,ox+k,none⟩=some (.int .u64 (dg 64 X k:Nat)):=(hbel.cell (p:=⟨bx,ox+k,none⟩) hbx).trans (hcx k hlt)
   have hf:=hrow.frozen k
   have hck:∃v,wr.cell? ⟨w.heap.size,k,none⟩=some v:=⟨_,hrow.cell (by omega)⟩
   obtain⟨v0,hck⟩:=hck
   have HB:=jH hbel
   clear hrow hbel hcx
   go_wp2_with fail
   have hne1:¬(bx=w.heap.size):=by omega
   have hne2:¬(w.heap.size=bx):=by omega
   have HD2:Hid (Raw .u64 64 wr.drew (.slice ay ny cy) ny Y):=jH (HY.out.below HB.out.drew)
   go_region_held3 (fun w'=>w'.cell? ⟨bx,ox+k,none⟩=some (.int .u64 (dg 64 X k:Nat))) (go_keep) (first|(go_at_call 267;refine(oK _ _ Y k _ HD2.out (by omega)).mono ?_;rintro e w1 ⟨rfl,rfl⟩))
   go_wp2
   go_roundw
   case rel=>exact⟨k+1,_,by omega,by go_num,rfl,jH (HR.out.step HXY.out),HB.out.drew.setCell (Nat.le_refl _) _⟩
   case measure=>simp [intOf];omega
  ·obtain rfl:k=nx:=by omega
   have hraw:Raw .u64 64 wr (.slice (some ⟨w.heap.size,0,none⟩) k k) k (X-Y):=
    Raw.xM hrow (fun i hi=>by rw [if_pos hi]) HD.out (by omega)
   have HB:=jH hbel
   clear hrow hbel
   go_wp2_with fail
   refine(nC _ _ (X-Y) _ hraw).mono ?_
   rintro e w1 ⟨v,rfl,rfl,hraw⟩
   have HRaw:=jH hraw
   clear hraw
   go_wp2
   go_ret
   exact⟨v,rfl,HB.out,HRaw.out⟩
theorem aBh {a b:Int}(h:a<b):dQ a b= -1:=by unfold dQ;rw [if_pos h]
theorem aBp {a b:Int}(h:b<a):dQ a b=1:=by unfold dQ;rw [if_neg (by omega),if_pos h]
theorem aK5 {a b:Int}(h:a=b):dQ a b=0:=by unfold dQ;rw [if_neg (by omega),if_neg (by omega)]
def aLf (v:Value) (w:World) (e:Ending) (w':World):Prop:=e= .returned v∧∃n,w'=w.drewN n
theorem qF (vx vy:Value) (X Y:Nat) (w:World) (hx:Raw .u64 64 w vx (ln 64 X) X) (hy:Raw .u64 64 w vy (ln 64 Y) Y):
  Calls Tryz.prog 284 #[vx,vy] w (aLf (.int .i64 (dQ X Y)) w):=by
 obtain⟨ax,cx,rfl,-,hX,hnx,hcx⟩:=hx
 obtain⟨ay,cy,rfl,-,hY,hny,hcy⟩:=hy
 have HCX:=jH hcx
 have HCY:=jH hcy
 have hlx:Hid (ln 64 X<ln 64 Y→X<Y):=jH (yB (by decide))
 have hly:Hid (ln 64 Y<ln 64 X→Y<X):=jH (yB (by decide))
 have HX:=jH hX
 have HY:=jH hY
 clear hcx hcy hX hY
 generalize ln 64 X=nx at*
 generalize ln 64 Y=ny at*
 by_cases hlt:nx<ny
 ·have hr:=aBh (a:=(X:Int)) (b:=Y) (by have:=hlx.out hlt;omega)
  have hne:((nx:Int) !=(ny:Int))=true:=by simp;omega
  rw [hr]
  clear hr
  go_enter Tryz.func284,Tryz.ntmps284
  go_wp2
  go_ret
  exact⟨rfl,0,rfl⟩
 by_cases hgt:ny<nx
 ·have hr:=aBp (a:=(X:Int)) (b:=Y) (by have:=hly.out hgt;omega)
  have hne:((nx:Int) !=(ny:Int))=true:=by simp;omega
  rw [hr]
  clear hr
  go_enter Tryz.func284,Tryz.ntmps284
  go_wp2
  go_ret
  exact⟨rfl,0,rfl⟩
 obtain rfl:nx=ny:=by omega
 clear hlt hgt hlx hly
 have hne:((nx:Int) !=(nx:Int))=false:=by simp
 go_enter Tryz.func284,Tryz.ntmps284
 go_wp2
 go_loopw [5] (fun i wr=>∃k q:Nat,k≤nx∧i= .int .i64 ((k:Int)-1)∧wr=w.drewN q∧X/2^(64*k)=Y/2^(64*k)) (fun i _=>(intOf i+1).toNat)
 case atStart=>exact⟨nx,0,Nat.le_refl _,rfl,rfl,by rw [Nat.div_eq_of_lt HX.out,Nat.div_eq_of_lt HY.out]⟩
 case round=>
  obtain⟨k,q,hk,rfl,rfl,hdiv⟩:=hrel
  have HD:=jH hdiv
  clear hdiv hne
  by_cases hk0:0<k
  ·obtain⟨j,rfl⟩:∃j,k=j+1:=⟨k-1,by omega⟩
   obtain⟨bx,ox,rfl,hbx,-,hcx⟩:=HCX.out (by omega)
   obtain⟨by',oy,rfl,hby,-,hcy⟩:=HCY.out (by omega)
   have h1:=hcx j (by omega)
   have h2:=hcy j (by omega)
   have ej:((j+1:Nat):Int)-1=(j:Int):=by omega
   rw [ej]
   have hb1:(0:Int)≤(j:Int):=by omega
   have hb2:(j:Int)<(nx:Int):=by omega
   clear hcx hcy ej
   by_cases hd:dg 64 X j=dg 64 Y j
   ·rw [hd]at h1
    have hnd:(((dg 64 Y j:Nat):Int) !=((dg 64 Y j:Nat):Int))=false:=by simp
    have HDE:=jH (xZ HD.out hd)
    clear hd
    go_wp2
    go_quiet (fail)
    go_wp2
    go_roundw
    case rel=>exact⟨j,_,by omega,rfl,rfl,HDE.out⟩
    case measure=>simp [intOf]
   ·by_cases hl:dg 64 X j<dg 64 Y j
    ·have hr:=aBh (a:=(X:Int)) (b:=Y) (by have:=nT HD.out hl;omega)
     have HR:=jH hr
     have hnd:(((dg 64 X j:Nat):Int) !=((dg 64 Y j:Nat):Int))=true:=by simp;omega
     clear hr hd
     go_wp2
     go_quiet (fail)
     go_wp2
     go_quiet (fail)
     go_wp2
     go_ret
     rw [HR.out]
     exact⟨rfl,_,by rw [World.drewN_drewN,World.drewN_drewN]⟩
    ·have hr:=aBp (a:=(X:Int)) (b:=Y) (by have:=nT HD.out.symm (by omega:dg 64 Y j<dg 64 X j);omega)
     have HR:=jH hr
     have hnd:(((dg 64 X j:Nat):Int) !=((dg 64 Y j:Nat):Int))=true:=by simp;omega
     clear hr hd
     go_wp2
     go_quiet (fail)
     go_wp2
     go_quiet (fail)
     go_wp2
     go_ret
     rw [HR.out]
     exact⟨rfl,_,by rw [World.drewN_drewN,World.drewN_drewN]⟩
  ·obtain rfl:k=0:=by omega
   have hr:=aK5 (a:=(X:Int)) (b:=Y) (by have:=HD.out;simp at this;omega)
   have HR:=jH hr
   clear hr
   go_wp2
   go_ret
   rw [HR.out]
   exact⟨rfl,_,rfl⟩
end
section
set_option maxRecDepth 100000
set_option maxHeartbeats 6400000
open Go.RowKit
def Row (k:IntKind) (s b0 m N:Nat) (wr:World):Prop:=N<2^(s*m)∧wr.rowIs b0 (ety k) m (fun j=> .int k (dg s N j:Nat))
theorem Row.set {k:IntKind}{s b0 m N i v:Nat}{wr:World}(h:Row k s b0 m N wr) (hv:v<2^s) (hi:i<m):Row k s b0 m (jV s N i v) (wr.setCell ⟨b0,i,none⟩ (.int k v)):=by
 refine⟨mO hv h.1 hi,(h.2.set i _).congr fun j hj=> ?_⟩
 rw [aEt hv]
 by_cases e:j=i
 ·rw [if_pos e,if_pos e]
 ·rw [if_neg e,if_neg e]
theorem Row.made (k:IntKind) (s m:Nat) (w:World):Row k s w.heap.size m 0 (w.alloc (.cells (madeCells #[.int k 0] m) (ety k))):=
 ⟨Nat.two_pow_pos _,(World.rowIs_made _ _ _ _).congr fun i _=>by simp [dg]⟩
theorem Row.raw {k:IntKind}{s b0 m N:Nat}{wr:World}(h:Row k s b0 m N wr) (hm:m≤1099511627776):Raw k s wr (.slice (some ⟨b0,0,none⟩) m m) m N:=
 Raw.xM h.2 (fun _ _=>rfl) h.1 hm
theorem aUs {a b c d:Nat}(ha:a<18446744073709551616) (hb:b<18446744073709551616) (hc:c<18446744073709551616) (hd:d<18446744073709551616):hi64 (a*b+c+d)<18446744073709551616:=by
 have hab:a*b≤18446744073709551615*18446744073709551615:=Nat.mul_le_mul (by omega) (by omega)
 unfold hi64;omega
theorem times_any (vx vy:Value) (nx ny X Y:Nat) (w:World) (hx:Raw .u64 64 w vx nx X) (hy:Raw .u64 64 w vy ny Y) (hn:nx≤274877906944∧ny≤274877906944):
  Calls Tryz.prog 255 #[vx,vy] w (Makes .u64 64 (ln 64 (X*Y)) (X*Y) w):=by
 have HX:=jH hx
 have HY:=jH hy
 obtain⟨ax,cx,rfl,-,hX,hnx,hcx⟩:=hx
 obtain⟨ay,cy,rfl,-,hY,hny,hcy⟩:=hy
 have HCX:=jH hcx
 have HCY:=jH hcy
 have HBX:=jH hX
 have HBY:=jH hY
 clear hcx hcy hX hY
 by_cases h0:nx=0∨ny=0
 ·have e:X*Y=0:=by
   rcases h0 with h0|h0
   ·subst h0;have:=HBX.out;simp at this;subst this;simp
   ·subst h0;have:=HBY.out;simp at this;subst this;simp
  have hfin:Makes .u64 64 (ln 64 (X*Y)) (X*Y) w (.returned (.slice none 0 0)) w:=by
   rw [e,eG]
   exact Makes.mk (Below.refl _ _) ⟨none,0,rfl,by omega,by simp,by omega,fun h=>absurd h (by omega)⟩
  have HF:=jH hfin
  clear hfin e
  by_cases h1:nx=0
  ·subst h1
   clear h0
   go_enter Tryz.func255,Tryz.ntmps255
   go_wp2
   go_ret
   exact HF.out
  ·obtain rfl:ny=0:=by omega
   have hb:((nx:Int)==0)=false:=by simp;omega
   clear h0 h1
   go_enter Tryz.func255,Tryz.ntmps255
   go_wp2
   go_ret
   exact HF.out
 have hny0:0<ny:=by omega
 have hb1:((nx:Int)==0)=false:=by simp;omega
 have hb2:((ny:Int)==0)=false:=by simp;omega
 have hmk:=run_make_row' (P:=Tryz.prog) 218 33 (.int .u64 0) 8 Tryz.underlying218 Tryz.info33 rfl .i64 .i64 (nx+ny) (by omega) (by omega)
 rw [show((nx+ny:Nat):Int)=(nx:Int)+(ny:Int)from by omega]at hmk
 go_enter Tryz.func255,Tryz.ntmps255
 go_wp2
 clear hmk h0 hb1 hb2
 have HR:=jH (Row.made .u64 64 (nx+ny) w)
 go_loopw [27] (fun i wr=>∃k:Nat,k≤nx∧i= .int .i64 k∧Hid (X%2^(64*k)*Y<2^(64*(k+ny))∧Row .u64 64 w.heap.size (nx+ny) (X%2^(64*k)*Y) wr)∧Below w.heap.size w wr)
  (fun i _=>nx-(intOf i).toNat)
 case atStart=>exact⟨0,Nat.zero_le _,rfl,jH ⟨by simp [Nat.mod_one,Nat.two_pow_pos],by simp only [Nat.mul_zero,Nat.pow_zero,Nat.mod_one,Nat.zero_mul];exact HR.out⟩,(Below.refl _ _).alloc (Nat.le_refl _) _⟩
 case round=>
  clear HR
  obtain⟨wo,rfl⟩:∃wo:World,wo=wr:=⟨_,rfl⟩
  obtain⟨i,hi,rfl,HR,hbel⟩:=hrel
  have hs:=HR.out.2.2.lt
  by_cases hlt:i<nx
  ·obtain⟨bx,ox,rfl,hbx,-,hcx⟩:=HCX.out (by omega)
   obtain⟨by',oy,rfl,hby,-,hcy⟩:=HCY.out (by omega)
   have hxi:wo.cell? ⟨bx,ox+i,none⟩=some (.int .u64 (dg 64 X i:Nat)):=(hbel.cell (p:=⟨bx,ox+i,none⟩) hbx).trans (hcx i hlt)
   have HB:=jH hbel
   have HC:=jH hcy
   clear hbel hcx hcy
   go_wp2
   have HS:=jH (aEa 64 X Y i)
   go_loopw [8,34] (fun c jv wr=>∃j C N:Nat,j≤ny∧jv= .int .i64 j∧c= .int .u64 C∧
     Hid (C<18446744073709551616∧N+C*2^(64*(i+j))=X%2^(64*i)*Y+dg 64 X i*(Y%2^(64*j))*2^(64*i)∧N<2^(64*(i+ny))∧Row .u64 64 w.heap.size (nx+ny) N wr)∧Below w.heap.size w wr)
    (fun _ jv _=>ny-(intOf jv).toNat)
   case atStart=>exact⟨0,0,_,Nat.zero_le _,rfl,rfl,jH ⟨by decide,HS.out,HR.out.1,HR.out.2⟩,HB.out⟩
   case round=>
    clear HS HR hxi hs
    obtain⟨j,C,N,hj,rfl,rfl,HR,hbel⟩:=hrel
    have hs:=HR.out.2.2.2.2.lt
    have hf:=fun p=>HR.out.2.2.2.2.frozen p
    by_cases hjl:j<ny
    ·have hyj:wr.cell? ⟨by',oy+j,none⟩=some (.int .u64 (dg 64 Y j:Nat)):=(hbel.cell (p:=⟨by',oy+j,none⟩) hby).trans (HC.out j hjl)
     have hz:wr.cell? ⟨w.heap.size,i+j,none⟩=some (.int .u64 (dg 64 N (i+j):Nat)):=HR.out.2.2.2.2.cell (by omega)
     have hfz:=hf (i+j)
     have HB:=jH hbel
     clear hbel hf
     go_wp2_with fail
     refine(aPd _ _ _ _ (eH X i) (eH Y j) (eH N (i+j)) HR.out.1 _).mono ?_
     rintro e w1 ⟨rfl,rfl⟩
     go_wp2
     go_roundw
     case rel=>
      refine⟨j+1,_,_,by omega,by go_num,rfl,jH ⟨?_,aIb HR.out.2.1,mO (Nat.mod_lt _ (by decide)) HR.out.2.2.1 (by omega),HR.out.2.2.2.set (aTh _) (by omega)⟩,HB.out.setCell (Nat.le_refl _) _⟩
      exact aUs (eH X i) (eH Y j) (eH N (i+j)) HR.out.1
     case measure=>simp [intOf];omega
    ·obtain rfl:j=ny:=by omega
     have HB:=jH hbel
     obtain⟨v0,hz⟩:∃v,wr.cell? ⟨w.heap.size,i+j,none⟩=some v:=⟨_,HR.out.2.2.2.2.cell (by omega)⟩
     have hfz:=hf (i+j)
     clear hbel hf
     go_wp2
     go_roundw
     case rel=>
      have hr:=aKt HBY.out HR.out.2.1 HR.out.2.2.1
      refine⟨i+1,by omega,by go_num,jH ⟨?_,?_⟩,HB.out.setCell (Nat.le_refl _) _⟩
      ·rw [←hr];exact mO HR.out.1 (Nat.lt_of_lt_of_le HR.out.2.2.1 (Nat.pow_le_pow_right (by decide) (by omega))) (by omega)
      ·rw [←hr];exact HR.out.2.2.2.set HR.out.1 (by omega)
     case measure=>simp [intOf];omega
  ·obtain rfl:i=nx:=by omega
   have HB:=jH hbel
   have hraw:=HR.out.2.raw (by omega)
   rw [Nat.mod_eq_of_lt HBX.out]at hraw
   clear hbel
   go_wp2_with fail
   refine(nC _ _ _ _ hraw).mono ?_
   rintro e w1 ⟨v,rfl,rfl,hr2⟩
   have HRaw:=jH hr2
   clear hr2 hraw
   go_wp2
   go_ret
   exact⟨v,rfl,HB.out,HRaw.out⟩
end
section
set_option maxRecDepth 100000
set_option maxHeartbeats 6400000
open Go.RowKit
theorem uX (a m:Nat):(a:Int)/2^m=((a/2^m:Nat):Int):=by simp
theorem aRa {d a r:Nat}(hd:d<2^r) (hr:r≤64):bits .or .u64 (d:Int) (IntKind.u64.wrap ((a:Int)*2^r))=((d+a*2^r%2^64:Nat):Int):=by
 have e:IntKind.u64.wrap ((a:Int)*2^r)=((a*2^r%2^64:Nat):Int):=by rw [IntKind.wrap_u64];simp
 have h1:=kS (a:=a) (d:=d) hr hd
 rw [aHn]at h1 e ⊢
 rw [e,bits_or_u64_nat _ _ (by omega) (by omega)]
 congr 1
 rw [←aHn,(oL hr).1,Nat.or_comm,←Nat.two_pow_add_eq_or_of_lt hd,Nat.add_comm]
theorem aRz (vx:Value) (X n:Nat) (w:World) (hx:Raw .u64 64 w vx (ln 64 X) X) (hn:n≤1099511627776) (hnx:ln 64 X≤68719476736):
  Calls Tryz.prog 266 #[vx,.int .u64 n] w (Makes .u64 64 (ln 64 (X*2^n)) (X*2^n) w):=by
 obtain⟨ax,cx,rfl,-,-,-,hcx⟩:=hx
 have HCX:=jH hcx
 have hlx:Hid (ln 64 X=0→X=0):=jH (jE (by decide)).1
 have hlt0:Hid (X<2^(64*ln 64 X)):=jH (pW (by decide))
 clear hcx
 generalize ln 64 X=nx at*
 by_cases h0:nx=0
 ·have hX:=hlx.out h0
  subst hX
  have hfin:Makes .u64 64 (ln 64 (0*2^n)) (0*2^n) w (.returned (.slice none 0 0)) w:=by
   rw [Nat.zero_mul,eG]
   exact Makes.mk (Below.refl _ _) ⟨none,0,rfl,by omega,by simp,by omega,fun h=>absurd h (by omega)⟩
  have HF:=jH hfin
  subst h0
  clear hfin hlx hlt0
  go_enter Tryz.func266,Tryz.ntmps266
  go_wp2
  go_ret
  exact HF.out
 have hnx0:0<nx:=by omega
 have hb1:((nx:Int)==0)=false:=by simp;omega
 obtain⟨W,r,hW,hr,hq1,hq2,hnWr⟩:∃W r:Nat,W≤17179869184∧r<64∧(n:Int)/64=(W:Int)∧(n:Int)%64=(r:Int)∧Hid (n=64*W+r):=
  ⟨n/64,n%64,by omega,by omega,by omega,by omega,jH (by omega)⟩
 have hmk:=run_make_row' (P:=Tryz.prog) 218 33 (.int .u64 0) 8 Tryz.underlying218 Tryz.info33 rfl .i64 .i64 (W+nx+1) (by omega) (by omega)
 rw [show((W+nx+1:Nat):Int)=(W:Int)+(nx:Int)+1 from by omega]at hmk
 clear h0 hlx
 go_enter Tryz.func266,Tryz.ntmps266
 go_wp2
 clear hmk hb1
 have HR:=jH (Row.made .u64 64 (W+nx+1) w)
 go_loopw [26] (fun i wr=>∃k:Nat,k≤nx∧i= .int .i64 k∧Hid (Row .u64 64 w.heap.size (W+nx+1) (X%2^(64*k)*2^n) wr)∧Below w.heap.size w wr)
  (fun i _=>nx-(intOf i).toNat)
 case atStart=>exact⟨0,Nat.zero_le _,rfl,jH (by simp only [Nat.mul_zero,Nat.pow_zero,Nat.mod_one,Nat.zero_mul];exact HR.out),(Below.refl _ _).alloc (Nat.le_refl _) _⟩
 case round=>
  clear HR
  obtain⟨k,hk,rfl,HR,hbel⟩:=hrel
  have hs:=HR.out.2.lt
  have hf:=fun p=>HR.out.2.frozen p
  by_cases hlt:k<nx
  ·obtain⟨bx,ox,rfl,hbx,-,hcx⟩:=HCX.out (by omega)
   have hxk:wr.cell? ⟨bx,ox+k,none⟩=some (.int .u64 (dg 64 X k:Nat)):=(hbel.cell (p:=⟨bx,ox+k,none⟩) hbx).trans (hcx k hlt)
   have hz1:wr.cell? ⟨w.heap.size,W+k,none⟩=some (.int .u64 (dg 64 (X%2^(64*k)*2^n) (W+k):Nat)):=HR.out.2.cell (by omega)
   have hz2:∃v,wr.cell? ⟨w.heap.size,W+k+1,none⟩=some v:=⟨_,HR.out.2.cell (by omega)⟩
   obtain⟨v2,hz2⟩:=hz2
   have hf1:=hf (W+k)
   have hf2:=hf (W+k+1)
   have HB:=jH hbel
   clear hbel hf hcx
   go_wp2
   go_roundw
   case rel=>
    refine⟨k+1,by omega,by go_num,jH ?_,?_⟩
    ·rw [aRa (vM hnWr.out (by omega)).1 (by omega),←left_step hnWr.out (by omega),uX]
     exact(HR.out.set (kS (by omega) (vM hnWr.out (by omega)).1) (by omega)).set (Nat.lt_of_le_of_lt (Nat.div_le_self _ _) (iT _ _ _)) (by omega)
    ·exact(HB.out.setCell (Nat.le_refl _) _).setCell (Nat.le_refl _) _
   case measure=>simp [intOf];omega
  ·obtain rfl:k=nx:=by omega
   have hraw:=HR.out.raw (by omega)
   rw [Nat.mod_eq_of_lt hlt0.out]at hraw
   have HB:=jH hbel
   clear hbel hf
   go_wp2_with fail
   refine(nC _ _ _ _ hraw).mono ?_
   rintro e w1 ⟨v,rfl,rfl,hr2⟩
   have HRaw:=jH hr2
   clear hr2 hraw
   go_wp2
   go_ret
   exact⟨v,rfl,HB.out,HRaw.out⟩
theorem aP9 {d r:Nat}(hd:d<18446744073709551616) (hr:r<64):bits .and .u64 (d:Int) (IntKind.u64.wrap (IntKind.u64.wrap (2^r)-1))=((d%2^r:Nat):Int):=by
 have h1:2^r<2^64:=Nat.pow_lt_pow_right (by decide) hr
 have h2:0<2^r:=Nat.two_pow_pos r
 have e:((2:Int)^r)=((2^r:Nat):Int):=by simp
 rw [aHn]at h1
 rw [e,dU _ h1,show((2^r:Nat):Int)-1=((2^r-1:Nat):Int)from by omega,dU _ (by omega),bits_and_u64_nat _ _ hd (by omega),Nat.and_two_pow_sub_one_eq_mod]
theorem aX4 {a b:Nat}(ha:a<18446744073709551616) (hb:b<18446744073709551616):bits .or .u64 (a:Int) (b:Int)=((a|||b:Nat):Int):=bits_or_u64_nat a b ha hb
theorem aUl {a b:Nat}(ha:a<18446744073709551616) (hb:b<18446744073709551616):a|||b<18446744073709551616:=Nat.or_lt_two_pow (n:=64) ha hb
theorem aSs {X n W r i:Nat}(hn:n=64*W+r) (hr:r<64):
  bits .or .u64 ((dg 64 X (W+i):Nat)/2^r) (IntKind.u64.wrap ((dg 64 X (W+i+1):Nat)*2^(64-r)))=((dg 64 (X/2^n) i:Nat):Int):=by
 have hlt:dg 64 X (W+i)/2^r<2^(64-r):=by
  rw [Nat.div_lt_iff_lt_mul (Nat.two_pow_pos _),←Nat.pow_add,show 64-r+r=64 from by omega];exact iT _ _ _
 rw [uX,aRa hlt (by omega),aGs hn (by omega)]
def Rights (X n:Nat) (w:World) (e:Ending) (w':World):Prop:=∃v,e= .returned (.tuple #[v,.bool (decide (X%2^n≠0))])∧Below w.heap.size w w'∧Raw .u64 64 w' v (ln 64 (X/2^n)) (X/2^n)
theorem aAn (vx:Value) (X n:Nat) (w:World) (hx:Raw .u64 64 w vx (ln 64 X) X) (hn:n≤1099511627776) (hnx:ln 64 X≤68719476736):
  Calls Tryz.prog 274 #[vx,.int .u64 n] w (Rights X n w):=by
 have HX:=jH hx
 obtain⟨ax,cx,rfl,hcap,-,-,hcx⟩:=hx
 have HCX:=jH hcx
 have hlx:Hid (ln 64 X=0↔X=0):=jH (jE (by decide))
 have hlt0:Hid (X<2^(64*ln 64 X)):=jH (pW (by decide))
 clear hcx
 generalize ln 64 X=nx at*
 obtain⟨W,r,hW,hr,hq1,hq2,hnWr⟩:∃W r:Nat,W≤17179869184∧r<64∧(n:Int)/64=(W:Int)∧(n:Int)%64=(r:Int)∧Hid (n=64*W+r):=
  ⟨n/64,n%64,by omega,by omega,by omega,by omega,jH (by omega)⟩
 by_cases h0:nx≤W
 ·have hlt:X<2^n:=Nat.lt_of_lt_of_le hlt0.out (Nat.pow_le_pow_right (by decide) (by rw [hnWr.out];omega))
  have hfin:Rights X n w (.returned (.tuple #[.slice none 0 0,.bool (decide (0<nx))])) w:=by
   refine⟨_,?_,Below.refl _ _,none,0,by rw [Nat.div_eq_of_lt hlt,eG],?_,?_,?_,?_⟩
   ·rw [Nat.mod_eq_of_lt hlt,decide_eq_decide.2 (show X≠0↔0<nx by have:=hlx.out;omega)]
   ·rw [Nat.div_eq_of_lt hlt,eG];omega
   ·rw [Nat.div_eq_of_lt hlt];exact Nat.two_pow_pos _
   ·rw [Nat.div_eq_of_lt hlt,eG];omega
   ·rw [Nat.div_eq_of_lt hlt,eG];exact fun h=>absurd h (by omega)
  have HF:=jH hfin
  clear hfin hlx hlt0 hlt
  go_enter Tryz.func274,Tryz.ntmps274
  go_wp2
  go_ret2
  exact HF.out
 have hWn:W<nx:=by omega
 obtain⟨bx,ox,rfl,hbx,-,hcx⟩:=HCX.out (by omega)
 have hxW:=hcx W hWn
 have HC:=jH hcx
 have hmk:=run_make_row' (P:=Tryz.prog) 218 33 (.int .u64 0) 8 Tryz.underlying218 Tryz.info33 rfl .i64 .i64 (nx-W) (by omega) (by omega)
 rw [show((nx-W:Nat):Int)=(nx:Int)-(W:Int)from by omega]at hmk
 have hmask:=aP9 (eH X W) hr
 have hWc:W≤cx:=by omega
 clear h0 hcx HCX
 go_enter Tryz.func274,Tryz.ntmps274
 go_wp2
 clear hmask
 have hL0:Hid (dg 64 X W%2^r<18446744073709551616∧(dg 64 X W%2^r=0↔dg 64 X W%2^r=0∧X%2^(64*0)=0)):=
  jH ⟨Nat.lt_of_le_of_lt (Nat.mod_le _ _) (eH _ _),by simp [Nat.mod_one]⟩
 go_loop [8,39] (fun l i=>∃k L:Nat,k≤W∧i= .int .i64 k∧l= .int .u64 L∧Hid (L<18446744073709551616∧(L=0↔dg 64 X W%2^r=0∧X%2^(64*k)=0)))
  (fun _ i=>W-(intOf i).toNat)
 case atStart=>exact⟨0,_,Nat.zero_le _,rfl,rfl,hL0⟩
 case round=>
  obtain⟨k,L,hk,rfl,rfl,HL⟩:=hrel
  clear hL0
  by_cases hlt:k<W
  ·have hxk:=HC.out k (by omega)
   have hor:=aX4 HL.out.1 (eH X k)
   clear hmk hxW
   go_wp2
   go_round
   case rel=>
    refine⟨k+1,_,by omega,by go_num,rfl,jH ⟨aUl HL.out.1 (eH X k),?_⟩⟩
    have hp:0<2^(64*k):=Nat.two_pow_pos _
    rw [Nat.or_eq_zero_iff,HL.out.2,mod_succ,Nat.add_eq_zero_iff,Nat.mul_eq_zero]
    constructor
    ·rintro⟨⟨h1,h2⟩,h3⟩;exact⟨h1,h2,.inr h3⟩
    ·rintro⟨h1,h2,h3⟩;exact⟨⟨h1,h2⟩,by omega⟩
   case measure=>simp [intOf];omega
  ·obtain rfl:k=W:=by omega
   clear hxW
   go_wp2
   clear hmk
   have HR:=jH (Row.made .u64 64 (nx-k) w)
   have HQ:Hid (X/2^n<2^(64*(nx-k))):=by
    refine jH ?_
    rw [Nat.div_lt_iff_lt_mul (Nat.two_pow_pos _),←Nat.pow_add]
    exact Nat.lt_of_lt_of_le hlt0.out (Nat.pow_le_pow_right (by decide) (by rw [hnWr.out];omega))
   go_loopw [54] (fun i wr=>∃j:Nat,j≤nx-k∧i= .int .i64 j∧Hid (Row .u64 64 w.heap.size (nx-k) (X/2^n%2^(64*j)) wr)∧Below w.heap.size w wr)
    (fun i _=>(nx-k)-(intOf i).toNat)
   case atStart=>exact⟨0,Nat.zero_le _,rfl,jH (by simp only [Nat.mul_zero,Nat.pow_zero,Nat.mod_one];exact HR.out),(Below.refl _ _).alloc (Nat.le_refl _) _⟩
   case round=>
    clear HR
    obtain⟨j,hj,rfl,HR,hbel⟩:=hrel
    have hs:=HR.out.2.lt
    have hf:=fun p=>HR.out.2.frozen p
    by_cases hjl:j<nx-k
    ·obtain⟨v0,hz⟩:∃v,wr.cell? ⟨w.heap.size,j,none⟩=some v:=⟨_,HR.out.2.cell hjl⟩
     have hfz:=hf j
     have hor:=aSs (X:=X) (i:=j) hnWr.out hr
     have HB:=jH hbel
     clear hbel hf
     go_wp2_with fail
     refine(yV _ _ X (k+j) _ _ (HX.out.below HB.out) (by omega) (by omega)).mono ?_
     rintro e w1 ⟨rfl,rfl⟩
     go_wp2_with fail
     refine(yV _ _ X (k+j+1) _ _ (HX.out.below HB.out) (by omega) (by omega)).mono ?_
     rintro e w1 ⟨rfl,rfl⟩
     go_wp2_with fail
     go_roundw
     case rel=>
      refine⟨j+1,by omega,by go_num,jH ?_,HB.out.setCell (Nat.le_refl _) _⟩
      rw [←mG]
      exact HR.out.set (iT _ _ _) hjl
     case measure=>simp [intOf];omega
    ·obtain rfl:j=nx-k:=by omega
     have hraw:=HR.out.raw (by omega)
     rw [Nat.mod_eq_of_lt HQ.out]at hraw
     have hfin:(L=0)↔X%2^n=0:=by
      have hp:0<2^(64*k):=Nat.two_pow_pos _
      rw [HL.out.2,aN6 hnWr.out (by omega),Nat.add_eq_zero_iff,Nat.mul_eq_zero]
      constructor
      ·rintro⟨h1,h2⟩;exact⟨h2,.inr h1⟩
      ·rintro⟨h1,h2⟩;exact⟨by omega,h1⟩
     have HF:Hid (((L:Int) !=0)=decide (X%2^n≠0)):=by
      refine jH ?_
      by_cases hL:L=0
      ·have:=hfin.1 hL;subst hL;simp [this]
      ·have h2:X%2^n≠0:=fun h=>hL (hfin.2 h)
       rw [decide_eq_true h2];simp;omega
     have HB:=jH hbel
     clear hbel hf hfin
     go_wp2_with fail
     refine(nC _ _ _ _ hraw).mono ?_
     rintro e w1 ⟨v,rfl,rfl,hr2⟩
     have HRaw:=jH hr2
     clear hr2 hraw
     go_wp2
     rw [HF.out]
     go_ret2
     exact⟨v,rfl,HB.out,HRaw.out⟩
end
end Go.Proofs.YtfmecpembnmnkaaGreatDoor
