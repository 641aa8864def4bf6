/- Walks: rounding a dyad to a number that is not too great. -/
import Derived.Test.YtfmecpembnmnkaaGreatDoorPGK
import Derived.Test.YtfmecpembnmnkaaGreatDoorPGA
import Derived.Test.YtfmecpembnmnkaaGreatDoorTie
import Derived.Test.YtfmecpembnmnkaaGreatDoorCards
import Derived.ProofKit
import Derived.OpenShut
import Derived.Handy
import Derived.Lay
import Derived.LaidMore
import Derived.Lib.LaidTab
import Derived.SevenTiedAt
namespace Go.Proofs.YtfmecpembnmnkaaGreatDoor
section
set_option maxRecDepth 100000
set_option maxHeartbeats 6400000
open Go.RowKit
theorem lV {a:Nat}(h:a≠0) (t:Nat):bl (a*2^t)=bl a+t:=by
 refine Nat.le_antisymm (fG a t) ?_
 rcases Nat.lt_or_ge (bl (a*2^t)) (bl a+t)with h1|h1
 ·exfalso
  have h0:=aC0 h
  have h2:a*2^t<2^(bl a-1+t):=(dD (k:=bl a-1+t)).1 (by omega)
  rw [Nat.pow_add]at h2
  have h3:=Nat.lt_of_mul_lt_mul_right h2
  have:=(dD (k:=bl a-1)).2 h3
  omega
 ·exact h1
theorem aIj {m:Nat}(h0:m≠0) (h:m<18446744073709551616):m=m/2^Lib.ctz 64 m*2^Lib.ctz 64 m∧m/2^Lib.ctz 64 m%2=1:=by
 obtain⟨k,h1,h2⟩:=Lib.ctzFrom_spec 64 m (by omega) h
 have h3:Lib.ctz 64 m=Lib.ctzFrom 64 m:=by unfold Lib.ctz;rw [if_neg h0]
 rw [h3]
 generalize Lib.ctzFrom 64 m=t at*
 have h4:m/2^t=2*k+1:=by rw [h1,Nat.mul_div_cancel_left _ (Nat.two_pow_pos t)]
 rw [h4]
 exact⟨by rw [Nat.mul_comm];exact h1,by omega⟩
def aQu (m:Nat) (e:Int):Prop:=m≠0→m<18446744073709551616∧bl (m/2^Lib.ctz 64 m)≤53∧-1074≤e+Lib.ctz 64 m∧e+bl m≤1024∧-2150≤e∧e≤2150
theorem aNb (neg:Bool) (m:Nat) (e:Int) (w:World) (hf:aQu m e) (hT:eY w) (hTs:1<w.heap.size):
  Calls Tryz.prog 261 #[.agg #[.bool neg,.int .u64 m,.int .i64 e],F64] w (Gives (.tuple #[.int .u64 (mkB neg m e:Nat),.int .i64 0]) w):=by
 unfold mkB
 by_cases h0:m=0
 ·subst h0;rw [if_pos rfl];exact aNg neg e w
 ·rw [if_neg h0]
  obtain⟨h1,h2,h3,h4,h5,h6⟩:=hf h0
  obtain⟨k1,k2⟩:=aIj h0 h1
  have hb:bl m=bl (m/2^Lib.ctz 64 m)+Lib.ctz 64 m:=by
   conv=>lhs;rw [k1]
   exact lV (by omega) _
  have ha:=lC (m/2^Lib.ctz 64 m)
  have ha0:m/2^Lib.ctz 64 m≠0:=by omega
  have hML:∀D:Nat,bl (m/2^Lib.ctz 64 m*2^D)=bl (m/2^Lib.ctz 64 m)+D:=fun D=>lV ha0 D
  obtain⟨D,hD⟩:∃D:Nat,min (53-(bl (m/2^Lib.ctz 64 m):Int)) (e+Lib.ctz 64 m+1074)=(D:Int):=⟨(min (53-(bl (m/2^Lib.ctz 64 m):Int)) (e+Lib.ctz 64 m+1074)).toNat,by omega⟩
  have hm1:m/2^Lib.ctz 64 m*2^D<2^53:=(dD (k:=53)).1 (by rw [hML];omega)
  have hE:¬m/2^Lib.ctz 64 m*2^D<aT→53≤bl (m/2^Lib.ctz 64 m)+D:=by
   intro h
   rcases Nat.lt_or_ge (bl (m/2^Lib.ctz 64 m)+D) 53 with h7|h7
   ·exact absurd ((dD (k:=52)).1 (by rw [hML];omega)) h
   ·exact h7
  have:=aNt neg m (Lib.ctz 64 m) (m/2^Lib.ctz 64 m) (bl (m/2^Lib.ctz 64 m)) D _ e (e+Lib.ctz 64 m) w h0 h1 rfl rfl rfl rfl hD rfl h2 h3 h5 h6 hm1
   (fun h=>by have:=hE h;omega) (fun h=>by omega) hT hTs
  simp only [hD,Int.toNat_natCast]
  exact this
theorem aJ0 (b:Nat) (k:Int) (w:World):
  Calls Tryz.prog 260 #[.int .u64 b,.int .i64 k] w fun e w'=>e= .returned (.tuple #[.float .f64 b,.int .i64 k])∧w=w':=by
 have hf:=lM b
 go_enter Tryz.func260,Tryz.ntmps260
 go_wp2
 go_ret2
 exact⟨rfl,rfl⟩
theorem aTe (neg:Bool) (m:Nat) (e:Int) (w:World) (hf:aQu m e) (hT:eY w) (hTs:1<w.heap.size):
  Calls Tryz.prog 223 #[.agg #[.bool neg,.int .u64 m,.int .i64 e]] w (Gives (.tuple #[.float .f64 (mkB neg m e),.int .i64 0]) w):=by
 have HC:=jH fun W hW=>aNb neg m e W hf hW
 have HO:=jH fun w=>zU w
 have HT:=jH (And.intro hT hTs)
 have HN:=jH fun b k w=>aJ0 b k w
 unfold F64 at*
 generalize mkB neg m e=R at*
 have HW0:=jH (aJ.new w #[.bool neg,.int .u64 m,.int .i64 e] 229)
 clear hf hT hTs
 go_enter Tryz.func223,Tryz.ntmps223
 go_wp2
 refine aC (fun w':World=>(w'.cell? ⟨w.heap.size,0,none⟩=some (.bool neg)∧w'.cell? ⟨w.heap.size,1,none⟩=some (.int .u64 m))∧w'.cell? ⟨w.heap.size,2,none⟩=some (.int .i64 e)) 8 (.take 0 (.run 1 (.run 2 (.take 3 (.take 4 (.run 5 (.take 6 (.take 7 .nil)))))))) (by kernel_rfl) (by kernel_rfl) ?_
 have HW1:Hid (aJ (w.alloc (.cells #[.bool neg,.int .u64 m,.int .i64 e] 229)).drew w.heap.size 229 #[.bool neg,.int .u64 m,.int .i64 e]∧Below w.heap.size w (w.alloc (.cells #[.bool neg,.int .u64 m,.int .i64 e] 229)).drew):=jH ⟨HW0.out.below (aB _),(gJ _ _).drew⟩
 clear HW0
 generalize (w.alloc (.cells #[.bool neg,.int .u64 m,.int .i64 e] 229)).drew=W at HW1 ⊢
 have hS:(fun w':World=>(w'.cell? ⟨w.heap.size,0,none⟩=some (.bool neg)∧w'.cell? ⟨w.heap.size,1,none⟩=some (.int .u64 m))∧w'.cell? ⟨w.heap.size,2,none⟩=some (.int .i64 e)) W:=⟨⟨HW1.out.1.cell 0,HW1.out.1.cell 1⟩,HW1.out.1.cell 2⟩
 repeat (refine bD (v:= ?_) rfl (fun _ _ _ h=>h) rfl (fun w' hSw=> ?_) hS ?_;rotate_left;focus (go_simp;with_reducible rfl);try simp only [Act.put,aF])
 clear hS
 refine aZ rfl fun K' hK=> ?_
 go_simp
 refine(HO.out _).mono ?_
 rintro e1 w1 ⟨rfl,hb1⟩
 have HW2:Hid (aJ w1 w.heap.size 229 #[.bool neg,.int .u64 m,.int .i64 e]∧Below w.heap.size w w1):=jH ⟨HW1.out.1.below hb1,HW1.out.2.trans (hb1.mono HW1.out.2.size)⟩
 refine hK _ _ ⟨⟨HW2.out.1.cell 0,HW2.out.1.cell 1⟩,HW2.out.1.cell 2⟩ ?_
 clear hK K' hb1 HW1
 refine aZ rfl fun K' hK=> ?_
 go_simp
 refine(HC.out _ (HT.out.1.below HT.out.2 HW2.out.2) (Nat.lt_of_lt_of_le HT.out.2 HW2.out.2.size)).mono ?_
 rintro e2 w2 ⟨rfl,hb2⟩
 have HW3:Hid (aJ w2 w.heap.size 229 #[.bool neg,.int .u64 m,.int .i64 e]∧Below w.heap.size w w2):=jH ⟨HW2.out.1.below hb2,HW2.out.2.trans (hb2.mono HW2.out.2.size)⟩
 have hS:(fun w':World=>(w'.cell? ⟨w.heap.size,0,none⟩=some (.bool neg)∧w'.cell? ⟨w.heap.size,1,none⟩=some (.int .u64 m))∧w'.cell? ⟨w.heap.size,2,none⟩=some (.int .i64 e)) w2:=⟨⟨HW3.out.1.cell 0,HW3.out.1.cell 1⟩,HW3.out.1.cell 2⟩
 refine hK _ _ hS ?_
 clear hK K' hb2 HW2
 repeat (refine bD (v:= ?_) rfl (fun _ _ _ h=>h) rfl (fun w' hSw=> ?_) hS ?_;rotate_left;focus (go_simp;with_reducible rfl);try simp only [Act.put,aF])
 refine aZ rfl fun K' hK=> ?_
 go_simp
 refine(HN.out R 0 _).mono ?_
 rintro e3 w3 ⟨rfl,rfl⟩
 refine hK _ _ hS ?_
 clear hK K'
 repeat (refine bD (v:= ?_) rfl (fun _ _ _ h=>h) rfl (fun w' hSw=> ?_) hS ?_;rotate_left;focus (go_simp;with_reducible rfl);try simp only [Act.put,aF])
 clear hS
 refine aN ?_
 simp only [drL]
 go_wp2
 go_ret2
 exact⟨rfl,HW3.out.2⟩
theorem aD4 (mode:Int) (w:World) (h1:0≤mode) (h2:mode≤4):
  Calls Tryz.prog 218 #[.int .i64 mode] w fun e w'=>e= .returned (.bool true)∧w=w':=by
 have k1:decide ((0:Int)≤mode)=true:=decide_eq_true h1
 have k2:decide (mode≤(4:Int))=true:=decide_eq_true h2
 go_enter Tryz.func218,Tryz.ntmps218
 go_wp2
 go_ret
 exact⟨rfl,rfl⟩
theorem aIi {N k:Nat}(h:bl N≤k):N<2^k:=dD.1 h
theorem aW0 (N d:Nat) (neg:Bool) (mode:Int):(if upB N d neg mode then 1 else 0)≤1:=by split<;>omega
theorem jP (z e digits least mode:Int) (k:Nat) (hd:digits=k):bW z e digits least mode≤2^k:=by
 subst hd
 unfold bW iQ
 have hl:e+bl z.natAbs-k≤aX z e k least:=by unfold aX;omega
 generalize aX z e k least=last at*
 by_cases h:last-e≤0
 ·rw [if_pos h]
  refine Nat.le_of_lt (aIi (Nat.le_trans (fG _ _) ?_))
  omega
 ·rw [if_neg h]
  have h1:z.natAbs/2^(last-e).toNat<2^k:=by
   rw [Nat.div_lt_iff_lt_mul (Nat.two_pow_pos _),←Nat.pow_add]
   exact aIi (by omega)
  have h2:=aW0 z.natAbs (last-e).toNat (decide (z<0)) mode
  omega
theorem sQ (k:Nat):bl (2^k)=k+1:=by
 have:=lV (a:=1) (by decide) k
 rw [Nat.one_mul]at this
 rw [this,show bl 1=1 by decide];omega
theorem wX :Lib.ctz 64 9007199254740992=53:=by decide
theorem aKo {z e mode:Int}(h:aX z e 53 (-1074)+bl (bW z e 53 (-1074) mode)≤1024) (h2:aX z e 53 (-1074)≤2150):aQu (bW z e 53 (-1074) mode) (aX z e 53 (-1074)):=by
 intro h0
 have h1:=jP z e 53 (-1074) mode 53 rfl
 have h3: -1074≤aX z e 53 (-1074):=by unfold aX;omega
 generalize bW z e 53 (-1074) mode=m at*
 generalize aX z e 53 (-1074)=last at*
 refine⟨by omega,?_,by omega,h,by omega,h2⟩
 by_cases h4:m=9007199254740992
 ·subst h4;rw [wX];decide
 ·exact aY (Nat.lt_of_le_of_lt (Nat.div_le_self _ _) (by omega))
end
section
set_option maxRecDepth 100000
set_option maxHeartbeats 6400000
open Go.RowKit
theorem aWl {m:Nat}(h:m<18446744073709551616):dg 64 ((m:Int)).natAbs 0=m:=by
 rw [Int.natAbs_natCast];unfold dg;simp [Nat.mod_eq_of_lt h]
theorem aIc (va:Value) (z e mode:Int) (w:World) (ha:jS w va z e) (hga:gK z e) (hm1:0≤mode) (hm2:mode≤4) (hT:eY w) (hTs:1<w.heap.size)
  (hfit:aX z e 53 (-1074)+bl (bW z e 53 (-1074) mode)≤1024):
  Calls Tryz.prog 188 #[va,.int .i64 mode] w (Gives (.tuple #[.float .f64 (mkB (decide (z<0)) (bW z e 53 (-1074) mode) (aX z e 53 (-1074))),.int .i64 0]) w):=by
 have HA:=jH ha
 obtain⟨sa,rfl,hra⟩:=ha
 have HRa:=jH hra
 obtain⟨aa,ca,rfl,-⟩:=hra
 have HG:=jH hga
 have HF:=jH (jQ z)
 have HT:=jH (And.intro hT hTs)
 have HL:Hid (ln 32 z.natAbs≤1073741824):=jH (Nat.le_trans (dV 32 _ (by decide)) (Nat.le_trans hga.2.1 (by decide)))
 have HRD:Hid (∀(b:Nat) (W:World),bM W b 0 z→Calls Tryz.prog 219 #[ExV b e,.int .i64 53,.int .i64 (-1074),.int .i64 mode] W (Rounds z e 53 (-1074) mode W)):=
  jH fun b W h=>aAx b z e 53 (-1074) mode W h (Nat.le_trans hga.2.1 (by decide)) (by have:=hga.2.2.1;omega) (by have:=hga.2.2.2;omega) (by decide) (by decide) (by decide) (by decide) (by omega)
 have hl1: -1074≤aX z e 53 (-1074):=by unfold aX;omega
 have hl2:aX z e 53 (-1074)≤1024:=by omega
 have hmB:=jP z e 53 (-1074) mode 53 rfl
 have HOF:=jH fun W hW=>aTe (decide (z<0)) (bW z e 53 (-1074) mode) (aX z e 53 (-1074)) W (aKo hfit (by omega)) hW
 unfold DyV Rounds at*
 generalize bW z e 53 (-1074) mode=m at*
 generalize aX z e 53 (-1074)=last at*
 have hfit2:decide ((1024:Int)<last+(bl m:Int))=false:=by simp;omega
 have HBM:Hid (bl ((m:Int)).natAbs=bl m):=jH (by rw [Int.natAbs_natCast])
 have hblm:bl m≤54:=Nat.le_trans (lG hmB) (by rw [sQ];omega)
 have HM64:Hid (dg 64 ((m:Int)).natAbs 0=m):=jH (aWl (by omega))
 generalize mkB (decide (z<0)) m last=R at*
 generalize decide (z<0)=na at*
 generalize z.natAbs=Na at*
 generalize ln 32 Na=la at*
 generalize bl m=q at*
 have HW0:=jH (aJ.new w #[.bool na,.slice aa la ca,.int .i64 e] 167)
 clear hga hT hTs hmB
 go_enter Tryz.func188,Tryz.ntmps188
 go_wp2_with fail
 refine(rJ _ z e _ (HA.out.below (gJ _ _)) HG.out).mono ?_
 rintro e1 w1 ⟨rfl,hb1⟩
 have HW1:Hid (aJ w1 w.heap.size 167 #[.bool na,.slice aa la ca,.int .i64 e]∧Below w.heap.size w w1):=jH ⟨HW0.out.below hb1,(gJ _ _).trans (hb1.mono (gJ _ _).size)⟩
 obtain⟨x0,x1,x2,x3,x4,x5⟩:=HW1.out.1.cells3
 clear hb1 HW0
 go_wp2_with fail
 refine(aD4 mode _ hm1 hm2).mono ?_
 rintro e2 w2 ⟨rfl,rfl⟩
 go_wp2_with fail
 refine(take_any na e _ la Na _ (HRa.out.below HW1.out.2) HL.out).mono ?_
 rintro e3 w3 ⟨p,rfl,hp,hi3,hb3⟩
 rw [HF.out]at hi3
 have HW3:Hid (aJ w3 w.heap.size 167 #[.bool na,.slice aa la ca,.int .i64 e]∧Below w.heap.size w w3):=jH ⟨HW1.out.1.below hb3,HW1.out.2.trans (hb3.mono HW1.out.2.size)⟩
 have HI3:=jH hi3
 clear hp hi3 hb3 HW1 x0 x1 x2 x3 x4 x5
 unfold ExV at*
 go_wp2_with fail
 refine(HRD.out p _ (HI3.out.below (gJ _ _))).mono ?_
 rintro e4 w4 ⟨p2,rfl,hi4,hb4⟩
 have HW4:Hid (aJ w4 w.heap.size 167 #[.bool na,.slice aa la ca,.int .i64 e]∧Below w.heap.size w w4):=jH ⟨(HW3.out.1.alloc _).below hb4,(HW3.out.2.alloc HW3.out.2.size _).trans (hb4.mono (HW3.out.2.alloc HW3.out.2.size _).size)⟩
 have HI4:=jH hi4
 clear hi4 hb4 HW3 HI3
 go_wp2_with fail
 refine(sJ p2 0 _ _ HI4.out).mono ?_
 rintro e5 w5 ⟨rfl,rfl⟩
 rw [HBM.out]
 go_wp2
 refine aC (fun w':World=>w'.cell? ⟨w.heap.size,0,none⟩=some (.bool na)) 11 (.take 0 (.take 1 (.take 2 (.take 4 (.run 3 (.take 5 (.run 6 (.take 7 (.take 8 (.take 9 (.take 10 .nil))))))))))) (by kernel_rfl) (by kernel_rfl) ?_
 have HW5:Hid (aJ w4.drew w.heap.size 167 #[.bool na,.slice aa la ca,.int .i64 e]∧Below w.heap.size w w4.drew):=jH ⟨HW4.out.1.below (aB _),HW4.out.2.drew⟩
 have HI5:=jH (HI4.out.below (aB _))
 clear HW4 HI4
 generalize w4.drew=V at HW5 HI5 ⊢
 have hS:(fun w':World=>w'.cell? ⟨w.heap.size,0,none⟩=some (.bool na)) V:=HW5.out.1.cell 0
 repeat (refine bD (v:= ?_) rfl (fun _ _ _ h=>h) rfl (fun w' hSw=> ?_) hS ?_;rotate_left;focus (go_simp;with_reducible rfl);try simp only [Act.put,aF])
 refine aZ rfl fun K' hK=> ?_
 go_simp
 refine(xQ p2 0 _ _ HI5.out).mono ?_
 rintro e6 w6 ⟨rfl,rfl⟩
 rw [HM64.out]
 refine hK _ _ hS ?_
 clear hK K'
 repeat (refine bD (v:= ?_) rfl (fun _ _ _ h=>h) rfl (fun w' hSw=> ?_) hS ?_;rotate_left;focus (go_simp;with_reducible rfl);try simp only [Act.put,aF])
 clear hS
 refine aZ rfl fun K' hK=> ?_
 go_simp
 refine(HOF.out _ (HT.out.1.below HT.out.2 HW5.out.2) (Nat.lt_of_lt_of_le HT.out.2 HW5.out.2.size)).mono ?_
 rintro e7 w7 ⟨rfl,hb7⟩
 have HW7:Hid (aJ w7 w.heap.size 167 #[.bool na,.slice aa la ca,.int .i64 e]∧Below w.heap.size w w7):=jH ⟨HW5.out.1.below hb7,HW5.out.2.trans (hb7.mono HW5.out.2.size)⟩
 have hS:(fun w':World=>w'.cell? ⟨w.heap.size,0,none⟩=some (.bool na)) w7:=HW7.out.1.cell 0
 refine hK _ _ hS ?_
 clear hK K' hb7 HW5 HI5
 repeat (refine bD (v:= ?_) rfl (fun _ _ _ h=>h) rfl (fun w' hSw=> ?_) hS ?_;rotate_left;focus (go_simp;with_reducible rfl);try simp only [Act.put,aF])
 clear hS
 refine aN ?_
 simp only [drL]
 go_wp2
 go_ret2
 exact⟨rfl,HW7.out.2⟩
end
section
open Go.RowKit
theorem aRs {R E:Int}(h1:bl R.natAbs≤65536) (h2: -100000≤E) (h3:E+bl R.natAbs≤100000):yO R E=false:=by
 have h4:=lG (xA (z:=R))
 have h5:=aKh (N:=R.natAbs)
 unfold yO hvE
 simp only [Bool.or_eq_false_iff,decide_eq_false_iff_not]
 omega
theorem aFd {b:Nat}:bl (aO b).natAbs≤53:=by
 rw [uV]
 exact aY (Nat.lt_of_le_of_lt (aQj b) (fP b))
theorem num_add {x y:Nat}(hx:aK x=true) (hy:aK y=true):plZ (aO x) (pE x) (aO y) (pE y)=0∨yO (plZ (aO x) (pE x) (aO y) (pE y)) (plE (aO x) (pE x) (aO y) (pE y))=false:=by
 refine .inr (aRs ?_ ?_ ?_)
 all_goals
  have h1:=aSn (z:=aO x) (e:=pE x) (y:=aO y) (f:=pE y)
  have h2:=aFd (b:=x)
  have h3:=aFd (b:=y)
  have h4:=gV hx
  have h5:=gV hy
  have h6:plE (aO x) (pE x) (aO y) (pE y)≤1023∧-1074≤plE (aO x) (pE x) (aO y) (pE y):=by
   unfold plE;split
   ·omega
   ·split<;>omega
  omega
end
section
open Go.ChangeShapes Go.WideShapes Go.ChangeAt Go.RowKit
theorem own :ownKnob Tryz.prog.godebug=none:=by kernel_rfl
def aEj :List (String×DataW Unit):=[("math/bits.deBruijn64tab",Rows.laid_math_bits_deBruijn64tab)]
theorem aUq :aEj=[("math/bits.deBruijn64tab",Lib.tabData .u8 (Lib.deBruijn64tab.map fun(n:Nat)=>(n:Int)))]:=by rfl
theorem aHv {W:World}(h:laidMetH Tryz.prog aEj W):eY W∧1<W.heap.size:=by
 rw [MakeChecks.laidMetH_plain _ _ _ (by kernel_rfl),aUq]at h
 have hg:Tryz.prog.globalNamed "math/bits.deBruijn64tab" =some 1:=by kernel_rfl
 have ht:=Lib.tabIs_of_head hg (show(Tryz.prog.globals[1]?).map (·.type)=some 277 by kernel_rfl) Tryz.underlying277 Tryz.underlying5 (by kernel_rfl) (by kernel_rfl) h
 have hT:eY W:=by
  intro j hj
  have:=ht.cell hg j (by simpa using hj)
  rw [this]
  congr 2
  simp only [List.getD_eq_getElem?_getD,List.getElem?_map]
  cases Lib.deBruijn64tab[j]? <;>rfl
 refine⟨hT,?_⟩
 have h0:=hT 0 (by decide)
 unfold World.cell? at h0
 cases hh:W.heap[1]? with
 |none=>simp [hh]at h0
 |some o=>exact(Array.getElem?_eq_some_iff.1 hh).1
end
end Go.Proofs.YtfmecpembnmnkaaGreatDoor
