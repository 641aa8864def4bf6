/- Walks: anatomy's formats and fields (numbers of 64 bits). -/
import Derived.Test.YtfmecpembnmnkaaGreatDoorPGE
namespace Go.Proofs.YtfmecpembnmnkaaGreatDoor
section
set_option maxRecDepth 100000
set_option maxHeartbeats 6400000
open Go.RowKit
def F64 :Value:= .agg #[.int .u64 52,.int .i64 2047,.int .i64 1075]
def aT :Nat:=4503599627370496
def aH :Nat:=9223372036854775808
def aG :Nat:=9218868437227405312
def aEb :Nat:=9221120237041090561
def Gives (v:Value) (w:World) (e:Ending) (w':World):Prop:=e= .returned v∧Below w.heap.size w w'
theorem aOo (w:World):(Instr.index 193 (.agg #[.int .u64 52,.int .i64 2047,.int .i64 1075,.int .u64 23,.int .i64 255,.int .i64 150]) (.int .i64 0)).run Tryz.prog w= .ok (.agg #[.int .u64 52,.int .i64 2047,.int .i64 1075]) w:=by kernel_rfl
theorem zU (w:World):
  Calls Tryz.prog 150 #[.int .i64 0] w (Gives F64 w):=by
 unfold F64
 have hix:=aOo
 go_enter Tryz.func150,Tryz.ntmps150
 go_wp2
 refine bodyPost_ret (v:= .agg #[.int .u64 52,.int .i64 2047,.int .i64 1075]) (by simp [results,Tryz.results150,go_sem]) rfl ⟨rfl,?_⟩
 exact(Below.refl _ _).alloc (Nat.le_refl _) _
theorem oO (w:World):
  Calls Tryz.prog 209 #[F64] w (Gives (.int .u64 aT) w):=by
 unfold F64
 go_enter Tryz.func209,Tryz.ntmps209
 go_wp2
 go_ret
 exact⟨rfl,Below.aA _ _⟩
theorem uS (w:World):
  Calls Tryz.prog 207 #[F64] w (Gives (.int .u64 aH) w):=by
 unfold F64
 go_enter Tryz.func207,Tryz.ntmps207
 go_wp2
 go_ret
 exact⟨rfl,Below.aA _ _⟩
theorem tC (w:World):
  Calls Tryz.prog 208 #[F64] w (Gives (.int .u64 aG) w):=by
 unfold F64
 go_enter Tryz.func208,Tryz.ntmps208
 go_wp2
 go_ret
 exact⟨rfl,Below.aA _ _⟩
def rZ (w:World) (b:Nat):Prop:=b<w.heap.size∧w.cell? ⟨b,0,none⟩=some (.int .u64 52)∧w.cell? ⟨b,1,none⟩=some (.int .i64 2047)∧w.cell? ⟨b,2,none⟩=some (.int .i64 1075)
theorem rZ.new (w:World) (t:Nat):rZ (w.alloc (.cells #[.int .u64 52,.int .i64 2047,.int .i64 1075] t)) w.heap.size:=
 ⟨by simp,by rw [World.cell?_alloc_new];rfl,by rw [World.cell?_alloc_new];rfl,by rw [World.cell?_alloc_new];rfl⟩
theorem rZ.below {w w':World}{b:Nat}(h:rZ w b) (hb:Below w.heap.size w w'):rZ w' b:=
 ⟨Nat.lt_of_lt_of_le h.1 hb.size,(hb.cell (p:=⟨b,0,none⟩) h.1).trans h.2.1,(hb.cell (p:=⟨b,1,none⟩) h.1).trans h.2.2.1,(hb.cell (p:=⟨b,2,none⟩) h.1).trans h.2.2.2⟩
theorem aS4 :bits .or .u64 (bits .or .u64 (aG:Int) ((aT:Int)/2)) 1=(aEb:Int):=by decide
theorem aIk (w:World):
  Calls Tryz.prog 180 #[F64] w (Gives (.int .u64 aEb) w):=by
 have H0:=jH (rZ.new w 162)
 have hi:=fun w=>tC w
 have hh:=fun w=>oO w
 have HI:=jH hi
 have HH:=jH hh
 clear hi hh
 unfold F64 at HI HH ⊢
 have HN:=jH aS4
 go_enter Tryz.func180,Tryz.ntmps180
 go_wp2
 refine bP (fun w':World=>w'.cell? ⟨w.heap.size,0,none⟩=some (.int .u64 52)∧w'.cell? ⟨w.heap.size,1,none⟩=some (.int .i64 2047)∧w'.cell? ⟨w.heap.size,2,none⟩=some (.int .i64 1075)) 9 [(0,true),(2,true),(6,true),(7,true),(8,true),(1,false),(3,false),(4,true),(5,true)] (by kernel_rfl) (by kernel_rfl) ?_
 generalize hW:(w.alloc (Obj.cells #[Value.int .u64 52,Value.int .i64 2047,Value.int .i64 1075] 162)).drew=W
 have HF:Hid (rZ W w.heap.size∧Below w.heap.size w W):=by
  subst hW;exact jH ⟨H0.out.below ((Below.refl _ _).drew),(Below.aA _ _).drew⟩
 have hS:(fun w':World=>w'.cell? ⟨w.heap.size,0,none⟩=some (.int .u64 52)∧w'.cell? ⟨w.heap.size,1,none⟩=some (.int .i64 2047)∧w'.cell? ⟨w.heap.size,2,none⟩=some (.int .i64 1075)) W:=HF.out.1.2
 clear hW
 repeat (refine bI (v:= ?_) rfl (fun _ _ _ h=>h) rfl (fun w' hSw=> ?_) hS ?_;rotate_left;focus (go_simp;with_reducible rfl);try simp only [Act.put,aF])
 refine dN rfl fun K' hK=> ?_
 go_simp
 refine(HI.out W).mono ?_
 rintro e w1 ⟨rfl,hb1⟩
 have HF1:=jH (And.intro (HF.out.1.below hb1) (HF.out.2.trans (hb1.mono (by have:=HF.out.1.1;omega))))
 refine hK _ _ HF1.out.1.2 ?_
 clear hK K' hS hb1
 have hS:(fun w':World=>w'.cell? ⟨w.heap.size,0,none⟩=some (.int .u64 52)∧w'.cell? ⟨w.heap.size,1,none⟩=some (.int .i64 2047)∧w'.cell? ⟨w.heap.size,2,none⟩=some (.int .i64 1075)) w1:=HF1.out.1.2
 refine dN rfl fun K' hK=> ?_
 go_simp
 refine(HH.out w1).mono ?_
 rintro e w2 ⟨rfl,hb2⟩
 have HF2:=jH (And.intro (HF1.out.1.below hb2) (HF1.out.2.trans (hb2.mono (by have:=HF1.out.1.1;omega))))
 refine hK _ _ HF2.out.1.2 ?_
 clear hK K' hS hb2
 have hS:(fun w':World=>w'.cell? ⟨w.heap.size,0,none⟩=some (.int .u64 52)∧w'.cell? ⟨w.heap.size,1,none⟩=some (.int .i64 2047)∧w'.cell? ⟨w.heap.size,2,none⟩=some (.int .i64 1075)) w2:=HF2.out.1.2
 try simp only [Act.put,aF]
 repeat (refine bI (v:= ?_) rfl (fun _ _ _ h=>h) rfl (fun w' hSw=> ?_) hS ?_;rotate_left;focus (go_simp;with_reducible rfl);try simp only [Act.put,aF])
 clear hS
 refine dG ?_
 simp only [drL]
 go_wp2
 rw [HN.out]
 go_ret
 exact⟨rfl,HF2.out.2⟩
end
section
set_option maxRecDepth 100000
set_option maxHeartbeats 6400000
open Go.RowKit
def aU (b:Nat):Bool:=decide (aG<b%aH)
def bF (b:Nat):Nat:=if aU b then aEb else b
def aQ (b:Nat):Bool:=decide (aH≤b)
def eF (b:Nat):Nat:=b/aT%2048
def fF (b:Nat):Nat:=b%aT
theorem qH {b:Nat}(h:b<18446744073709551616):bits .andNot .u64 (b:Int) (aH:Int)=((b%aH:Nat):Int):=by
 have e1:(BitVec.ofInt 64 (b:Int)).toNat=b:=by
  rw [BitVec.ofInt_natCast,BitVec.toNat_ofNat];exact Nat.mod_eq_of_lt h
 have e2:(BitVec.ofInt 64 ((aH:Nat):Int))=BitVec.twoPow 64 63:=by decide
 show IntKind.u64.wrap ((BitVec.ofInt 64 (b:Int)&&& ~~~BitVec.ofInt 64 ((aH:Nat):Int)).toNat:Int)=_
 have e3:(BitVec.ofInt 64 (b:Int)&&& ~~~BitVec.ofInt 64 ((aH:Nat):Int)).toNat=b%aH:=by
  rw [e2]
  apply Nat.eq_of_testBit_eq
  intro i
  rw [BitVec.testBit_toNat,BitVec.getLsbD_and,BitVec.getLsbD_not,BitVec.getLsbD_twoPow,←BitVec.testBit_toNat,e1,show aH=2^63 from rfl,Nat.testBit_mod_two_pow]
  by_cases h1:i<63
  ·simp [h1,show i<64 from by omega,show¬(63=i)from by omega]
  ·by_cases h2:i=63
   ·subst h2;simp
   ·have:b.testBit i=false:=Nat.testBit_lt_two_pow (Nat.lt_of_lt_of_le h (show(2:Nat)^64≤2^i from Nat.pow_le_pow_right (by decide) (by omega)))
    simp [this]
 rw [e3]
 exact dU _ (Nat.lt_of_le_of_lt (Nat.mod_le _ _) h)
theorem aQt {b:Nat}(h:b<18446744073709551616):(bits .and .u64 (b:Int) (aH:Int) !=0)=aQ b:=by
 have h0:=bits_and_u64_nat b aH h (by decide)
 rw [h0]
 have h1:b&&&aH=(b.testBit 63).toNat*2^63:=by
  apply Nat.eq_of_testBit_eq
  intro i
  rw [Nat.testBit_and,show aH=2^63 from rfl,Nat.testBit_two_pow]
  by_cases hi:63=i
  ·subst hi
   cases b.testBit 63<;>decide
  ·cases b.testBit 63
   ·simp [hi]
   ·rw [Bool.toNat_true,Nat.one_mul,Nat.testBit_two_pow];simp [hi]
 rw [h1,Nat.testBit_eq_decide_div_mod_eq]
 unfold aQ
 by_cases h2:aH≤b
 ·have:b/2^63%2=1:=by unfold aH at h2;omega
  simp [this,h2]
 ·have:b/2^63%2=0:=by unfold aH at h2;omega
  simp [this,h2]
theorem aLw (b:Nat) (h:b<18446744073709551616):bits .and .u64 ((b:Int)/4503599627370496) 2047=((eF b:Nat):Int):=by
 have e:(b:Int)/4503599627370496=((b/4503599627370496:Nat):Int):=by omega
 rw [e]
 have h0:=bits_and_u64_nat (b/4503599627370496) 2047 (by omega) (by decide)
 rw [show(2047:Nat)=2^11-1 from rfl,Nat.and_two_pow_sub_one_eq_mod]at h0
 exact h0
theorem aQb (b:Nat) (h:b<18446744073709551616):bits .and .u64 (b:Int) ((aT:Int)-1)=((fF b:Nat):Int):=by
 have h0:=bits_and_u64_nat b (aT-1) h (by decide)
 rw [show aT-1=2^52-1 from rfl,Nat.and_two_pow_sub_one_eq_mod]at h0
 exact h0
theorem aD0 {b:Nat}(h:b<18446744073709551616):bF b<18446744073709551616:=by
 unfold bF;split
 ·decide
 ·exact h
theorem aLx (b:Nat) (w:World) (h:b<18446744073709551616):
  Calls Tryz.prog 179 #[.int .u64 b,F64] w (Gives (.bool (aU b)) w):=by
 have H0:=jH (rZ.new w 162)
 have HI:=jH fun w=>tC w
 have HH:=jH fun w=>uS w
 unfold F64 at HI HH ⊢
 have hop:=qH h
 have HN:Hid (decide ((aG:Int)<((b%aH:Nat):Int))=aU b):=jH (by unfold aU;rw [decide_eq_decide];omega)
 go_enter Tryz.func179,Tryz.ntmps179
 go_wp2
 refine bP (fun w':World=>w'.cell? ⟨w.heap.size,0,none⟩=some (.int .u64 52)∧w'.cell? ⟨w.heap.size,1,none⟩=some (.int .i64 2047)∧w'.cell? ⟨w.heap.size,2,none⟩=some (.int .i64 1075)) 6 [(0,true),(1,true),(4,true),(2,false),(3,true),(5,false)] (by kernel_rfl) (by kernel_rfl) ?_
 generalize hW:(w.alloc (Obj.cells #[Value.int .u64 52,Value.int .i64 2047,Value.int .i64 1075] 162)).drew=W
 have HF:Hid (rZ W w.heap.size∧Below w.heap.size w W):=by
  subst hW;exact jH ⟨H0.out.below ((Below.refl _ _).drew),(Below.aA _ _).drew⟩
 have hS:(fun w':World=>w'.cell? ⟨w.heap.size,0,none⟩=some (.int .u64 52)∧w'.cell? ⟨w.heap.size,1,none⟩=some (.int .i64 2047)∧w'.cell? ⟨w.heap.size,2,none⟩=some (.int .i64 1075)) W:=HF.out.1.2
 clear hW
 repeat (refine bI (v:= ?_) rfl (fun _ _ _ h=>h) rfl (fun w' hSw=> ?_) hS ?_;rotate_left;focus (go_simp;with_reducible rfl);try simp only [Act.put,aF])
 refine dN rfl fun K' hK=> ?_
 go_simp
 refine(HH.out W).mono ?_
 rintro e w1 ⟨rfl,hb⟩
 have HF1:=jH (And.intro (HF.out.1.below hb) (HF.out.2.trans (hb.mono (by have:=HF.out.1.1;omega))))
 refine hK _ _ (HF1.out.1.2) ?_
 clear hK K' hS
 clear hb
 have hS:(fun w':World=>w'.cell? ⟨w.heap.size,0,none⟩=some (.int .u64 52)∧w'.cell? ⟨w.heap.size,1,none⟩=some (.int .i64 2047)∧w'.cell? ⟨w.heap.size,2,none⟩=some (.int .i64 1075)) w1:=HF1.out.1.2
 try simp only [Act.put,aF]
 repeat (refine bI (v:= ?_) rfl (fun _ _ _ h=>h) rfl (fun w' hSw=> ?_) hS ?_;rotate_left;focus (go_simp;with_reducible rfl);try simp only [Act.put,aF])
 refine dN rfl fun K' hK=> ?_
 go_simp
 refine(HI.out w1).mono ?_
 rintro e w2 ⟨rfl,hb⟩
 have HF2:=jH (And.intro (HF1.out.1.below hb) (HF1.out.2.trans (hb.mono (by have:=HF1.out.1.1;omega))))
 refine hK _ _ (HF2.out.1.2) ?_
 clear hK K' hS
 clear hb
 have hS:(fun w':World=>w'.cell? ⟨w.heap.size,0,none⟩=some (.int .u64 52)∧w'.cell? ⟨w.heap.size,1,none⟩=some (.int .i64 2047)∧w'.cell? ⟨w.heap.size,2,none⟩=some (.int .i64 1075)) w2:=HF2.out.1.2
 try simp only [Act.put,aF]
 repeat (refine bI (v:= ?_) rfl (fun _ _ _ h=>h) rfl (fun w' hSw=> ?_) hS ?_;rotate_left;focus (go_simp;with_reducible rfl);try simp only [Act.put,aF])
 clear hS
 refine dG ?_
 simp only [drL]
 go_wp2
 go_ret
 exact⟨congrArg Ending.returned (congrArg Value.bool HN.out),HF2.out.2⟩
theorem rE (b:Nat) (w:World) (h:b<18446744073709551616):
  Calls Tryz.prog 149 #[.int .u64 b,F64] w (Gives (.int .u64 (bF b)) w):=by
 have H0:=jH (rZ.new w 162)
 have HN:=jH fun w=>aLx b w h
 have HO:=jH fun w=>aIk w
 unfold F64 at HN HO ⊢
 obtain⟨c0,c1,c2⟩:=H0.out.2
 cases hb:aU b
 ·have HC:Hid (bF b=b):=jH (by unfold bF;rw [hb];rfl)
  rw [hb]at HN
  clear hb h
  go_enter Tryz.func149,Tryz.ntmps149
  go_wp2_with fail
  refine(HN.out _).mono ?_
  rintro e w1 ⟨rfl,hb1⟩
  have HB:=jH ((Below.aA w _).trans (hb1.mono (by simp)))
  clear hb1 c0 c1 c2
  go_wp2
  go_ret
  exact⟨by rw [HC.out];rfl,HB.out⟩
 ·have HC:Hid (bF b=aEb):=jH (by unfold bF;rw [hb];rfl)
  rw [hb]at HN
  clear hb h
  go_enter Tryz.func149,Tryz.ntmps149
  go_wp2_with fail
  refine(HN.out _).mono ?_
  rintro e w1 ⟨rfl,hb1⟩
  have HB:=jH ((Below.aA w _).trans (hb1.mono (by simp)))
  obtain⟨-,d0,d1,d2⟩:=H0.out.below hb1
  clear hb1 c0 c1 c2
  go_wp2_with fail
  refine(HO.out _).mono ?_
  rintro e w2 ⟨rfl,hb2⟩
  have HB2:=jH (HB.out.trans (hb2.mono HB.out.size))
  clear hb2 d0 d1 d2
  go_wp2
  go_ret
  exact⟨by rw [HC.out];rfl,HB2.out⟩
theorem wB (b:Nat) (w:World) (h:b<18446744073709551616):
  Calls Tryz.prog 206 #[.int .u64 b,F64] w (Gives (.tuple #[.bool (aQ (bF b)),.int .i64 (eF (bF b)),.int .u64 (fF (bF b))]) w):=by
 have H0:=jH (rZ.new w 162)
 have HC:=jH fun w=>rE b w h
 have HI:=jH fun w=>oO w
 have HH:=jH fun w=>uS w
 unfold F64 at HC HI HH ⊢
 obtain⟨c0,c1,c2⟩:=H0.out.2
 have hx:=aD0 h
 generalize bF b=x at*
 have h1:=aQt hx
 have h2:=aLw x hx
 have h3:=aQb x hx
 have hk:IntKind.u64.wrap ((aT:Int)-1)=(aT:Int)-1:=by decide
 have hl:eF x<2048:=Nat.mod_lt _ (by decide)
 have HE:=jH h2
 clear hx h
 go_enter Tryz.func206,Tryz.ntmps206
 go_wp2_with fail
 refine(HC.out _).mono ?_
 rintro e wc ⟨rfl,hbc⟩
 have HB:=jH ((Below.aA w _).trans (hbc.mono (by simp)))
 have HFc:=jH (H0.out.below hbc)
 clear hbc c0 c1 c2
 go_wp2_with fail
 refine bP (fun w':World=>w'.cell? ⟨w.heap.size,0,none⟩=some (.int .u64 52)∧w'.cell? ⟨w.heap.size,1,none⟩=some (.int .i64 2047)∧w'.cell? ⟨w.heap.size,2,none⟩=some (.int .i64 1075)) 21 [(0,true),(1,true),(5,true),(6,true),(7,true),(8,true),(9,true),(10,true),(11,true),(12,true),(13,true),(14,true),(15,true),(2,false),(3,true),(4,true),(16,false),(17,true),(18,true),(19,true),(20,true)] (by kernel_rfl) (by kernel_rfl) ?_
 have HF:Hid (rZ wc.drew w.heap.size∧Below w.heap.size w wc.drew):=jH ⟨HFc.out.below ((Below.refl _ _).drew),HB.out.drew⟩
 have hS:(fun w':World=>w'.cell? ⟨w.heap.size,0,none⟩=some (.int .u64 52)∧w'.cell? ⟨w.heap.size,1,none⟩=some (.int .i64 2047)∧w'.cell? ⟨w.heap.size,2,none⟩=some (.int .i64 1075)) wc.drew:=HF.out.1.2
 repeat (refine bI (v:= ?_) rfl (fun _ _ _ h=>h) rfl (fun w' hSw=> ?_) hS ?_;rotate_left;focus (go_simp;with_reducible rfl);try simp only [Act.put,aF])
 refine dN rfl fun K' hK=> ?_
 go_simp
 refine(HH.out wc.drew).mono ?_
 rintro e w1 ⟨rfl,hb⟩
 have HF1:=jH (And.intro (HF.out.1.below hb) (HF.out.2.trans (hb.mono (by have:=HF.out.1.1;omega))))
 refine hK _ _ (HF1.out.1.2) ?_
 clear hK K' hS
 clear hb
 have hS:(fun w':World=>w'.cell? ⟨w.heap.size,0,none⟩=some (.int .u64 52)∧w'.cell? ⟨w.heap.size,1,none⟩=some (.int .i64 2047)∧w'.cell? ⟨w.heap.size,2,none⟩=some (.int .i64 1075)) w1:=HF1.out.1.2
 try simp only [Act.put,aF]
 repeat (refine bI (v:= ?_) rfl (fun _ _ _ h=>h) rfl (fun w' hSw=> ?_) hS ?_;rotate_left;focus (go_simp;with_reducible rfl);try simp only [Act.put,aF])
 refine dN rfl fun K' hK=> ?_
 go_simp
 refine(HI.out w1).mono ?_
 rintro e w2 ⟨rfl,hb⟩
 have HF2:=jH (And.intro (HF1.out.1.below hb) (HF1.out.2.trans (hb.mono (by have:=HF1.out.1.1;omega))))
 refine hK _ _ (HF2.out.1.2) ?_
 clear hK K' hS
 clear hb
 have hS:(fun w':World=>w'.cell? ⟨w.heap.size,0,none⟩=some (.int .u64 52)∧w'.cell? ⟨w.heap.size,1,none⟩=some (.int .i64 2047)∧w'.cell? ⟨w.heap.size,2,none⟩=some (.int .i64 1075)) w2:=HF2.out.1.2
 try simp only [Act.put,aF]
 repeat (refine bI (v:= ?_) rfl (fun _ _ _ h=>h) rfl (fun w' hSw=> ?_) hS ?_;rotate_left;focus (go_simp;with_reducible rfl);try simp only [Act.put,aF])
 clear hS
 refine dG ?_
 simp only [drL]
 go_wp2
 go_ret3
 exact⟨by rw [←HE.out];rfl,HF2.out.2⟩
end
section
set_option maxRecDepth 100000
set_option maxHeartbeats 6400000
open Go.RowKit
def iR (e f:Nat):Int:=if e=2047 then(if f=0 then 2 else 1)else if e=0 then(if f=0 then 3 else 4)else 5
def nX (b:Nat):Int:=iR (eF (bF b)) (fF (bF b))
theorem wG (b:Nat) (w:World) (h:b<18446744073709551616):
  Calls Tryz.prog 178 #[.int .u64 b,F64] w (Gives (.int .i64 (nX b)) w):=by
 have H0:=jH (rZ.new w 162)
 have HC:=jH fun w=>wB b w h
 have HV:Hid (∀v,iR (eF (bF b)) (fF (bF b))=v→nX b=v):=jH fun v hv=>hv
 unfold F64 at HC ⊢
 obtain⟨c0,c1,c2⟩:=H0.out.2
 generalize aQ (bF b)=s at*
 generalize eF (bF b)=e at*
 generalize fF (bF b)=f at*
 clear h
 have pre:∀v,iR e f=v→(((e:Int)==2047)=decide (e=2047))∧(((f:Int) !=0)=decide (f≠0))∧(((e:Int)==0)=decide (e=0))∧(((f:Int)==0)=decide (f=0)):=fun v _=>by
  refine⟨?_,?_,?_,?_⟩<;>rw [Bool.eq_iff_iff]<;>simp<;>omega
 obtain⟨k1,k2,k3,k4⟩:=pre _ rfl
 clear pre
 by_cases h1:e=2047
 ·rw [decide_eq_true h1]at k1
  by_cases h2:f=0
  ·rw [decide_eq_false (fun x=>x h2)]at k2
   have HF:=jH (HV.out 2 (by unfold iR;rw [if_pos h1,if_pos h2]))
   clear h1 HV
   try clear h2
   try clear h3
   rw [HF.out]
   clear HF
   go_enter Tryz.func178,Tryz.ntmps178
   go_wp2_with fail
   refine(HC.out _).mono ?_
   rintro e w1 ⟨rfl,hb1⟩
   have HB:=jH ((Below.aA w _).trans (hb1.mono (by simp)))
   obtain⟨-,d0,d1,d2⟩:=H0.out.below hb1
   clear hb1 c0 c1 c2
   go_wp2
   go_ret
   exact⟨rfl,HB.out⟩
  ·rw [decide_eq_true h2]at k2
   have HF:=jH (HV.out 1 (by unfold iR;rw [if_pos h1,if_neg h2]))
   clear h1 HV
   try clear h2
   try clear h3
   rw [HF.out]
   clear HF
   go_enter Tryz.func178,Tryz.ntmps178
   go_wp2_with fail
   refine(HC.out _).mono ?_
   rintro e w1 ⟨rfl,hb1⟩
   have HB:=jH ((Below.aA w _).trans (hb1.mono (by simp)))
   obtain⟨-,d0,d1,d2⟩:=H0.out.below hb1
   clear hb1 c0 c1 c2
   go_wp2
   go_ret
   exact⟨rfl,HB.out⟩
 ·rw [decide_eq_false h1]at k1
  by_cases h3:e=0
  ·rw [decide_eq_true h3]at k3
   by_cases h2:f=0
   ·rw [decide_eq_true h2]at k4
    have HF:=jH (HV.out 3 (by unfold iR;rw [if_neg h1,if_pos h3,if_pos h2]))
    clear h1 HV
    try clear h2
    try clear h3
    rw [HF.out]
    clear HF
    go_enter Tryz.func178,Tryz.ntmps178
    go_wp2_with fail
    refine(HC.out _).mono ?_
    rintro e w1 ⟨rfl,hb1⟩
    have HB:=jH ((Below.aA w _).trans (hb1.mono (by simp)))
    obtain⟨-,d0,d1,d2⟩:=H0.out.below hb1
    clear hb1 c0 c1 c2
    go_wp2
    go_ret
    exact⟨rfl,HB.out⟩
   ·rw [decide_eq_false h2]at k4
    have HF:=jH (HV.out 4 (by unfold iR;rw [if_neg h1,if_pos h3,if_neg h2]))
    clear h1 HV
    try clear h2
    try clear h3
    rw [HF.out]
    clear HF
    go_enter Tryz.func178,Tryz.ntmps178
    go_wp2_with fail
    refine(HC.out _).mono ?_
    rintro e w1 ⟨rfl,hb1⟩
    have HB:=jH ((Below.aA w _).trans (hb1.mono (by simp)))
    obtain⟨-,d0,d1,d2⟩:=H0.out.below hb1
    clear hb1 c0 c1 c2
    go_wp2
    go_ret
    exact⟨rfl,HB.out⟩
  ·rw [decide_eq_false h3]at k3
   have HF:=jH (HV.out 5 (by unfold iR;rw [if_neg h1,if_neg h3]))
   clear h1 HV
   try clear h2
   try clear h3
   rw [HF.out]
   clear HF
   go_enter Tryz.func178,Tryz.ntmps178
   go_wp2_with fail
   refine(HC.out _).mono ?_
   rintro e w1 ⟨rfl,hb1⟩
   have HB:=jH ((Below.aA w _).trans (hb1.mono (by simp)))
   obtain⟨-,d0,d1,d2⟩:=H0.out.below hb1
   clear hb1 c0 c1 c2
   go_wp2
   go_ret
   exact⟨rfl,HB.out⟩
end
section
set_option maxRecDepth 100000
set_option maxHeartbeats 6400000
open Go.RowKit
theorem xG {b:Nat}(h:eF b≠2047):bF b=b:=by
 have:aU b=false:=by
  unfold aU aG aH;unfold eF aT at h
  rw [decide_eq_false_iff_not];omega
 unfold bF;rw [this];rfl
theorem aDl {b:Nat}(h:eF (bF b)≠2047):eF b≠2047:=by
 intro h0
 by_cases hn:aU b=true
 ·unfold bF at h;rw [if_pos hn]at h;exact h (by decide)
 ·unfold bF at h;rw [if_neg hn]at h;exact h h0
def aS (b:Nat):Nat:=if eF b=0 then fF b else fF b+aT
def aW (b:Nat):Int:=(if eF b=0 then 1 else(eF b:Int))-1075
def pM (b:Nat):Nat:=aS b/2^Lib.ctz 64 (aS b)
def pE (b:Nat):Int:=if aS b=0 then 0 else aW b+Lib.ctz 64 (aS b)
def aB3 (b:Nat):Value:= .tuple #[.agg #[.bool (aQ b),.int .u64 (pM b:Nat),.int .i64 (pE b)],.int .i64 0]
theorem aV4 {f:Nat}(h:f<aT):bits .or .u64 (f:Int) (aT:Int)=((f+aT:Nat):Int):=by
 have h0:=bits_or_u64_nat f aT (by unfold aT at h;omega) (by decide)
 rw [h0,Nat.or_comm]
 congr 1
 have:=Nat.two_pow_add_eq_or_of_lt (i:=52) (b:=f) h 1
 rw [Nat.mul_one]at this
 show 2^52|||f=f+2^52
 omega
def Blk (w:World) (b:Nat) (cs:Array Value):Prop:=∃t,w.heap[b]? =some (.cells cs t (0,0))
theorem Blk.lt {w:World}{b:Nat}{cs:Array Value}(h:Blk w b cs):b<w.heap.size:=by
 obtain⟨t,h⟩:=h
 exact(Array.getElem?_eq_some_iff.1 h).1
theorem Blk.cell {w:World}{b:Nat}{cs:Array Value}(h:Blk w b cs) (i:Nat):w.cell? ⟨b,i,none⟩=cs[i]? :=by
 obtain⟨t,h⟩:=h
 simp [World.cell?,h]
theorem Blk.frozen {w:World}{b:Nat}{cs:Array Value}(h:Blk w b cs) (i:Nat):w.frozen? ⟨b,i,none⟩=false:=by
 obtain⟨t,h⟩:=h
 simp [World.frozen?,h]
theorem Blk.of_block {w w':World}{b:Nat}{cs:Array Value}(h:Blk w b cs) (e:w'.heap[b]? =w.heap[b]?):Blk w' b cs:=by
 obtain⟨t,h⟩:=h
 exact⟨t,e.trans h⟩
theorem Blk.below {w w':World}{b:Nat}{cs:Array Value}(h:Blk w b cs) (hb:Below w.heap.size w w'):Blk w' b cs:=h.of_block (hb.block b h.lt)
theorem Blk.new (w:World) (cs:Array Value) (t:Nat):Blk (w.alloc (.cells cs t)) w.heap.size cs:=
 ⟨t,by show(w.heap.push _)[w.heap.size]? =_;simp⟩
theorem Blk.alloc {w:World}{b:Nat}{cs:Array Value}(h:Blk w b cs) (o:Obj):Blk (w.alloc o) b cs:=h.below (Below.aA _ _)
theorem Blk.set {w:World}{b i:Nat}{cs:Array Value}(h:Blk w b cs) (v:Value):Blk (w.setCell ⟨b,i,none⟩ v) b (cs.setIfInBounds i v):=by
 obtain⟨t,h⟩:=h
 refine⟨t,?_⟩
 show(w.heap.modify b _)[b]? =_
 rw [Array.getElem?_modify,if_pos rfl,h];rfl
theorem Blk.setOther {w:World}{b c i:Nat}{cs:Array Value}(h:Blk w b cs) (hne:b≠c) (v:Value):Blk (w.setCell ⟨c,i,none⟩ v) b cs:=h.of_block (Below.heap_setCell _ _ _ _ hne)
theorem Blk.cells3 {w:World}{b:Nat}{x y z:Value}(h:Blk w b #[x,y,z]):
  w.cell? ⟨b,0,none⟩=some x∧w.cell? ⟨b,1,none⟩=some y∧w.cell? ⟨b,2,none⟩=some z∧w.frozen? ⟨b,0,none⟩=false∧w.frozen? ⟨b,1,none⟩=false∧w.frozen? ⟨b,2,none⟩=false:=
 ⟨h.cell 0,h.cell 1,h.cell 2,h.frozen 0,h.frozen 1,h.frozen 2⟩
theorem aJy (b:Nat) (w:World) (h:b<18446744073709551616) (hc:nX b=3):
  Calls Tryz.prog 277 #[.int .u64 b,F64] w (Gives (.tuple #[.agg #[.bool (aQ (bF b)),.int .u64 0,.int .i64 0],.int .i64 0]) w):=by
 have H0:=jH (rZ.new w 162)
 have HS:=jH fun w=>wB b w h
 have HC:=jH fun w=>wG b w h
 rw [hc]at HC
 unfold F64 at HS HC ⊢
 obtain⟨c0,c1,c2⟩:=H0.out.2
 have hl:eF (bF b)<2048:=Nat.mod_lt _ (by decide)
 generalize aQ (bF b)=s at*
 generalize eF (bF b)=e at*
 generalize fF (bF b)=f at*
 clear h hc
 go_enter Tryz.func277,Tryz.ntmps277
 go_wp2_with fail
 refine(HS.out _).mono ?_
 rintro e1 w1 ⟨rfl,hb1⟩
 have HB1:=jH (((Below.aA w _).alloc (by simp) _).trans (hb1.mono (by simp;omega)))
 have HF1:=jH ((H0.out.below (Below.aA _ _)).below hb1)
 have HR1:Hid (Blk w1 (w.heap.size+1) #[.bool false,.int .u64 0,.int .i64 0]):=jH ((by have:=Blk.new (w.alloc (.cells #[.int .u64 52,.int .i64 2047,.int .i64 1075] 162)) #[.bool false,.int .u64 0,.int .i64 0] 229;simpa using this:Blk _ (w.heap.size+1) _).below hb1)
 obtain⟨-,d0,d1,d2⟩:=HF1.out
 have hsz:=HR1.out.lt
 have hsz0:w.heap.size<w1.heap.size:=by omega
 have e0:=fun o=>(World.cell?_alloc_lt w1 o ⟨w.heap.size,0,none⟩ hsz0).trans d0
 have e1:=fun o=>(World.cell?_alloc_lt w1 o ⟨w.heap.size,1,none⟩ hsz0).trans d1
 have e2:=fun o=>(World.cell?_alloc_lt w1 o ⟨w.heap.size,2,none⟩ hsz0).trans d2
 clear c0 c1 c2 hb1
 go_wp2_with fail
 refine(HC.out _).mono ?_
 rintro e2 w2 ⟨rfl,hb2⟩
 have HB2:=jH ((HB1.out.alloc HB1.out.size _).trans (hb2.mono (by have:=HB1.out.size;simp;omega)))
 have HR2:=jH ((HR1.out.alloc _).below hb2)
 have HP2:=jH ((Blk.new w1 _ _).below hb2)
 have HF2:=jH ((HF1.out.below (Below.aA w1 _)).below hb2)
 obtain⟨r0,r1,r2,r3,r4,r5⟩:=HR2.out.cells3
 clear hb2 e0 e1 e2 d0 d1 d2
 go_wp2
 refine bodyPost_ret (v:= .tuple #[.agg #[.bool s,.int .u64 0,.int .i64 0],.int .i64 0]) (by simp [results,Tryz.results277,go_sem,r0,r1,r2]) rfl ⟨rfl,?_⟩
 exact(((HB2.out.setCell (by simp) _).setCell (by simp) _).setCell (by simp) _)
theorem aLz {w:World}(h:eY w) {b:Nat}(hb:1≠b) (i:Nat) (v:Value):eY (w.setCell ⟨b,i,none⟩ v):=
 fun j hj=>(lZ (fun e=>hb (by simp only [Addr.mk.injEq]at e;exact e.1.symm))).trans (h j hj)
theorem uO (e f:Nat):(iR e f=3→e=0∧f=0)∧(iR e f=4→e=0∧f≠0)∧(iR e f=5→e≠0∧e≠2047)∧(iR e f=1∨iR e f=2∨iR e f=3∨iR e f=4∨iR e f=5)∧(e=2047↔iR e f=1∨iR e f=2):=by
 unfold iR
 by_cases h1:e=2047
 ·rw [if_pos h1];by_cases h2:f=0
  ·rw [if_pos h2];simp [h1]
  ·rw [if_neg h2];simp [h1]
 ·rw [if_neg h1];by_cases h3:e=0
  ·rw [if_pos h3];by_cases h2:f=0
   ·rw [if_pos h2];simp [h3,h2]
   ·rw [if_neg h2];simp [h3,h2]
  ·rw [if_neg h3];simp [h1,h3]
theorem aMk (b:Nat) (w:World) (h:b<18446744073709551616) (hc:nX b=4) (hT:eY w) (hTs:1<w.heap.size):
  Calls Tryz.prog 277 #[.int .u64 b,F64] w (Gives (.tuple #[.agg #[.bool (aQ (bF b)),.int .u64 (fF (bF b)/2^Lib.ctz 64 (fF (bF b)):Nat),.int .i64 (-1074+Lib.ctz 64 (fF (bF b)))],.int .i64 0]) w):=by
 have H0:=jH (rZ.new w 162)
 have HS:=jH fun w=>wB b w h
 have HC:=jH fun w=>wG b w h
 rw [hc]at HC
 unfold F64 at HS HC ⊢
 obtain⟨c0,c1,c2⟩:=H0.out.2
 have hl:eF (bF b)<2048:=Nat.mod_lt _ (by decide)
 obtain⟨he,hf0⟩:=(uO _ _).2.1 hc
 have hf1:fF (bF b)<aT:=Nat.mod_lt _ (by decide)
 generalize aQ (bF b)=s at*
 generalize eF (bF b)=e at*
 generalize fF (bF b)=f at*
 subst he
 have hct:Lib.ctz 64 f<64:=(Lib.lowest_bit 64 f hf0 (by unfold aT at hf1;omega)).2
 generalize htq:Lib.ctz 64 f=t at*
 have HTZ:Hid (∀W:World,eY W→Calls Tryz.prog 283 #[.int .u64 f] W fun e W'=>e= .returned (.int .i64 t)∧W=W'):=
  jH fun W hW=>by rw [←htq];exact zF f (by unfold aT at hf1;omega) hf0 W hW
 have HT:=jH hT
 have HTs:=jH hTs
 clear h hc hf0 hf1 htq hT hTs
 go_enter Tryz.func277,Tryz.ntmps277
 go_wp2_with fail
 refine(HS.out _).mono ?_
 rintro e1 w1 ⟨rfl,hb1⟩
 have HB1:=jH (((Below.aA w _).alloc (by simp) _).trans (hb1.mono (by simp;omega)))
 have HF1:=jH ((H0.out.below (Below.aA _ _)).below hb1)
 have HR1:Hid (Blk w1 (w.heap.size+1) #[.bool false,.int .u64 0,.int .i64 0]):=jH ((by have:=Blk.new (w.alloc (.cells #[.int .u64 52,.int .i64 2047,.int .i64 1075] 162)) #[.bool false,.int .u64 0,.int .i64 0] 229;simpa using this:Blk _ (w.heap.size+1) _).below hb1)
 obtain⟨-,d0,d1,d2⟩:=HF1.out
 have hsz:=HR1.out.lt
 have hsz0:w.heap.size<w1.heap.size:=by omega
 have e0:=fun o=>(World.cell?_alloc_lt w1 o ⟨w.heap.size,0,none⟩ hsz0).trans d0
 have e1:=fun o=>(World.cell?_alloc_lt w1 o ⟨w.heap.size,1,none⟩ hsz0).trans d1
 have e2:=fun o=>(World.cell?_alloc_lt w1 o ⟨w.heap.size,2,none⟩ hsz0).trans d2
 clear c0 c1 c2 hb1
 go_wp2_with fail
 refine(HC.out _).mono ?_
 rintro e2 w2 ⟨rfl,hb2⟩
 have HB2:=jH ((HB1.out.alloc HB1.out.size _).trans (hb2.mono (by have:=HB1.out.size;simp;omega)))
 have HR2:=jH ((HR1.out.alloc _).below hb2)
 have HP2:=jH ((Blk.new w1 _ _).below hb2)
 have HF2:=jH ((HF1.out.below (Below.aA w1 _)).below hb2)
 obtain⟨r0,r1,r2,r3,r4,r5⟩:=HR2.out.cells3
 clear hb2 e0 e1 e2 d0 d1 d2
 obtain⟨p0,p1,p2,p3,p4,p5⟩:=HP2.out.cells3
 have HT2:Hid (eY w2):=jH fun j hj=>(HB2.out.cell (p:=⟨_,j,none⟩) HTs.out).trans (HT.out j hj)
 have hT3:=aLz HT2.out (show 1≠w1.heap.size by have:=HTs.out;omega) 2 (Value.int .i64 (-1074))
 go_wp2_with fail
 refine(HTZ.out _ hT3).mono ?_
 rintro e4 w4 ⟨rfl,hw4⟩
 have HB4:Hid (Below w.heap.size w w4):=jH (hw4▸HB2.out.setCell (by simp;omega) _)
 have HP4:Hid (Blk w4 w1.heap.size #[.bool s,.int .u64 f,.int .i64 (-1074)]):=jH (hw4▸HP2.out.set _)
 have HR4:Hid (Blk w4 (w.heap.size+1) #[.bool false,.int .u64 0,.int .i64 0]):=jH (hw4▸HR2.out.setOther (by omega) _)
 clear hw4 hT3 p0 p1 p2 p3 p4 p5 r0 r1 r2 r3 r4 r5
 obtain⟨z,hz1,hz2,HZ⟩:∃z:Int,-1075≤z∧z≤2000∧Hid ((-1074:Int)=z):=⟨_,by omega,by omega,jH rfl⟩
 have HP5:=HP4.out
 rw [HZ.out]at HP5
 obtain⟨p0,p1,p2,p3,p4,p5⟩:=HP5.cells3
 obtain⟨r0,r1,r2,r3,r4,r5⟩:=HR4.out.cells3
 have hne1:¬w.heap.size+1=w1.heap.size:=by omega
 have hne2:¬w1.heap.size=w.heap.size+1:=by omega
 clear HP5 hl
 go_wp2
 refine bodyPost_ret (v:= .tuple #[.agg #[.bool s,.int .u64 (f/2^t:Nat),.int .i64 (z+(t:Int))],.int .i64 0]) ?_ rfl ⟨by rw [HZ.out],?_⟩
 ·simp [results,Tryz.results277,go_sem,r0,r1,r2]
 ·exact(((((HB4.out.setCell (by simp;omega) _).setCell (by simp;omega) _).setCell (by simp) _).setCell (by simp) _).setCell (by simp) _)
end
section
set_option maxRecDepth 100000
set_option maxHeartbeats 6400000
open Go.RowKit
theorem aJ8 (b:Nat) (w:World) (h:b<18446744073709551616) (hc:nX b=5) (hT:eY w) (hTs:1<w.heap.size):
  Calls Tryz.prog 277 #[.int .u64 b,F64] w (Gives (.tuple #[.agg #[.bool (aQ (bF b)),.int .u64 ((fF (bF b)+aT)/2^Lib.ctz 64 (fF (bF b)+aT):Nat),.int .i64 ((eF (bF b):Int)-1075+Lib.ctz 64 (fF (bF b)+aT))],.int .i64 0]) w):=by
 have H0:=jH (rZ.new w 162)
 have HS:=jH fun w=>wB b w h
 have HC:=jH fun w=>wG b w h
 rw [hc]at HC
 unfold F64 at HS HC ⊢
 obtain⟨c0,c1,c2⟩:=H0.out.2
 have hl:eF (bF b)<2048:=Nat.mod_lt _ (by decide)
 obtain⟨he,he2⟩:=(uO _ _).2.2.1 hc
 have hf1:fF (bF b)<aT:=Nat.mod_lt _ (by decide)
 have HHid:=jH fun w=>oO w
 unfold F64 at HHid
 generalize aQ (bF b)=s at*
 generalize eF (bF b)=e at*
 generalize fF (bF b)=f at*
 have hor:=aV4 hf1
 have hm0:f+aT≠0:=by unfold aT;omega
 have hm1:f+aT<18446744073709551616:=by unfold aT at hf1 ⊢;omega
 generalize f+aT=m at*
 have hct:Lib.ctz 64 m<64:=(Lib.lowest_bit 64 m hm0 hm1).2
 generalize htq:Lib.ctz 64 m=t at*
 have HTZ:Hid (∀W:World,eY W→Calls Tryz.prog 283 #[.int .u64 m] W fun e W'=>e= .returned (.int .i64 t)∧W=W'):=
  jH fun W hW=>by rw [←htq];exact zF m hm1 hm0 W hW
 obtain⟨q,hq⟩:∃q:Int,((m/2^t:Nat):Int)=q:=⟨_,rfl⟩
 rw [hq]
 have HQ:Hid ((m:Int)/2^t=q):=jH (by rw [←hq,Int.natCast_ediv,Int.natCast_pow];rfl)
 have HT:=jH hT
 have HTs:=jH hTs
 clear h hc hf1 htq hT hTs hm0 hm1 hq
 go_enter Tryz.func277,Tryz.ntmps277
 go_wp2_with fail
 refine(HS.out _).mono ?_
 rintro e1 w1 ⟨rfl,hb1⟩
 have HB1:=jH (((Below.aA w _).alloc (by simp) _).trans (hb1.mono (by simp;omega)))
 have HF1:=jH ((H0.out.below (Below.aA _ _)).below hb1)
 have HR1:Hid (Blk w1 (w.heap.size+1) #[.bool false,.int .u64 0,.int .i64 0]):=jH ((by have:=Blk.new (w.alloc (.cells #[.int .u64 52,.int .i64 2047,.int .i64 1075] 162)) #[.bool false,.int .u64 0,.int .i64 0] 229;simpa using this:Blk _ (w.heap.size+1) _).below hb1)
 obtain⟨-,d0,d1,d2⟩:=HF1.out
 have hsz:=HR1.out.lt
 have hsz0:w.heap.size<w1.heap.size:=by omega
 have e0:=fun o=>(World.cell?_alloc_lt w1 o ⟨w.heap.size,0,none⟩ hsz0).trans d0
 have e1:=fun o=>(World.cell?_alloc_lt w1 o ⟨w.heap.size,1,none⟩ hsz0).trans d1
 have e2:=fun o=>(World.cell?_alloc_lt w1 o ⟨w.heap.size,2,none⟩ hsz0).trans d2
 clear c0 c1 c2 hb1
 go_wp2_with fail
 refine(HC.out _).mono ?_
 rintro e2 w2 ⟨rfl,hb2⟩
 have HB2:=jH ((HB1.out.alloc HB1.out.size _).trans (hb2.mono (by have:=HB1.out.size;simp;omega)))
 have HR2:=jH ((HR1.out.alloc _).below hb2)
 have HP2:=jH ((Blk.new w1 _ _).below hb2)
 have HF2:=jH ((HF1.out.below (Below.aA w1 _)).below hb2)
 obtain⟨r0,r1,r2,r3,r4,r5⟩:=HR2.out.cells3
 clear hb2 e0 e1 e2 d0 d1 d2
 obtain⟨p0,p1,p2,p3,p4,p5⟩:=HP2.out.cells3
 have HT2:Hid (eY w2):=jH fun j hj=>(HB2.out.cell (p:=⟨_,j,none⟩) HTs.out).trans (HT.out j hj)
 obtain⟨-,d0,d1,d2⟩:=HF2.out
 go_wp2
 refine bP (fun w':World=>w'.cell? ⟨w1.heap.size,1,none⟩=some (.int .u64 f)∧w'.cell? ⟨w.heap.size,0,none⟩=some (.int .u64 52)∧w'.cell? ⟨w.heap.size,1,none⟩=some (.int .i64 2047)∧w'.cell? ⟨w.heap.size,2,none⟩=some (.int .i64 1075)) 6 [(0,true),(1,true),(2,true),(3,false),(4,true),(5,true)] (by kernel_rfl) (by kernel_rfl) ?_
 have hS:(fun w':World=>w'.cell? ⟨w1.heap.size,1,none⟩=some (.int .u64 f)∧w'.cell? ⟨w.heap.size,0,none⟩=some (.int .u64 52)∧w'.cell? ⟨w.heap.size,1,none⟩=some (.int .i64 2047)∧w'.cell? ⟨w.heap.size,2,none⟩=some (.int .i64 1075)) w2.drew:=⟨p1,d0,d1,d2⟩
 repeat (refine bI (v:= ?_) rfl (fun _ _ _ h=>h) rfl (fun w' hSw=> ?_) hS ?_;rotate_left;focus (go_simp;with_reducible rfl);try simp only [Act.put,aF])
 refine dN rfl fun K' hK=> ?_
 go_simp
 refine(HHid.out w2.drew).mono ?_
 rintro e3 w3 ⟨rfl,hb3⟩
 have HBd:Hid (Below w2.heap.size w2 w3):=jH (((Below.refl _ _).drew).trans hb3)
 have HB3:=jH (HB2.out.trans (HBd.out.mono HB2.out.size))
 have HR3:=jH (HR2.out.below HBd.out)
 have HP3:=jH (HP2.out.below HBd.out)
 have HF3:=jH (HF2.out.below HBd.out)
 have HT3:Hid (eY w3):=jH fun j hj=>(HB3.out.cell (p:=⟨_,j,none⟩) HTs.out).trans (HT.out j hj)
 refine hK _ _ (⟨HP3.out.cell 1,HF3.out.2⟩) ?_
 clear hK K' hS
 clear hb3 p0 p1 p2 p3 p4 p5 d0 d1 d2 r0 r1 r2 r3 r4 r5
 have hS:(fun w':World=>w'.cell? ⟨w1.heap.size,1,none⟩=some (.int .u64 f)∧w'.cell? ⟨w.heap.size,0,none⟩=some (.int .u64 52)∧w'.cell? ⟨w.heap.size,1,none⟩=some (.int .i64 2047)∧w'.cell? ⟨w.heap.size,2,none⟩=some (.int .i64 1075)) w3:=⟨HP3.out.cell 1,HF3.out.2⟩
 try simp only [Act.put,aF]
 repeat (refine bI (v:= ?_) rfl (fun _ _ _ h=>h) rfl (fun w' hSw=> ?_) hS ?_;rotate_left;focus (go_simp;with_reducible rfl);try simp only [Act.put,aF])
 clear hS
 refine dG ?_
 simp only [drL]
 clear hor he he2
 generalize aT=kh at*
 obtain⟨p0,p1,p2,p3,p4,p5⟩:=HP3.out.cells3
 obtain⟨r0,r1,r2,r3,r4,r5⟩:=HR3.out.cells3
 have hT3:=aLz HT3.out (show 1≠w1.heap.size by have:=HTs.out;omega) 1 (Value.int .u64 m)
 go_wp2_with fail
 refine(HTZ.out _ hT3).mono ?_
 rintro e4 w4 ⟨rfl,hw4⟩
 have HB4:Hid (Below w.heap.size w w4):=jH (hw4▸HB3.out.setCell (by simp;omega) _)
 have HP4:Hid (Blk w4 w1.heap.size #[.bool s,.int .u64 m,.int .i64 (↑e-1075)]):=jH (hw4▸HP3.out.set _)
 have HR4:Hid (Blk w4 (w.heap.size+1) #[.bool false,.int .u64 0,.int .i64 0]):=jH (hw4▸HR3.out.setOther (by omega) _)
 clear hw4 hT3 p0 p1 p2 p3 p4 p5 r0 r1 r2 r3 r4 r5
 obtain⟨z,hz1,hz2,HZ⟩:∃z:Int,-1075≤z∧z≤2000∧Hid ((↑e-1075:Int)=z):=⟨_,by omega,by omega,jH rfl⟩
 have HP5:=HP4.out
 rw [HZ.out]at HP5
 obtain⟨p0,p1,p2,p3,p4,p5⟩:=HP5.cells3
 obtain⟨r0,r1,r2,r3,r4,r5⟩:=HR4.out.cells3
 have hne1:¬w.heap.size+1=w1.heap.size:=by omega
 have hne2:¬w1.heap.size=w.heap.size+1:=by omega
 clear HP5 hl
 have hqi:=HQ.out
 have h00:(0:Int)≤(t:Int):=by omega
 have h11:(t:Int)≤64:=by omega
 go_simp
 iterate 19 (first|go_skip|go_guarded|go_step|go_upon|skip)
 simp only [Oper.wp,go_sem]
 simp only [Array.getD_eq_getD_getElem?,List.size_toArray,List.length_cons,List.length_nil,Nat.zero_add,Nat.reduceAdd,Nat.reduceLT,lt_add_one_deep,getElem?_pos,List.getElem_toArray,List.getElem_cons_succ,List.getElem_cons_zero,Option.getD_some,binOp_shr]
 rw [shift_shr .u64 .i64 (m:Int) (t:Int) h00 h11,Int.toNat_natCast,hqi]
 simp only [bind_pure_comp,map_pure,Sem.run_pure,Oper.upon_value,Act.put,List.setIfInBounds_toArray,List.set_cons_succ,List.set_cons_zero]
 iterate 20 (first|go_skip|go_guarded|go_step|go_upon|skip)
 clear h00 h11 hqi
 go_wp2
 refine bodyPost_ret (v:= .tuple #[.agg #[.bool s,.int .u64 q,.int .i64 (z+(t:Int))],.int .i64 0]) ?_ rfl ⟨by rw [HZ.out],?_⟩
 ·simp [results,Tryz.results277,go_sem,r0,r1,r2]
 ·exact(((((HB4.out.setCell (by simp;omega) _).setCell (by simp;omega) _).setCell (by simp) _).setCell (by simp) _).setCell (by simp) _)
end
end Go.Proofs.YtfmecpembnmnkaaGreatDoor
