/- CholPivots answers true at every two numbers of rows and columns and every list of numbers' bits, in whatever memory, where what it reads is of bulk at most 1048576; the row lists the table math/bits.deBruijn64tab, and the card ties it to the program's text. -/
import Derived.Test.YtfmecpembnmnkaaGreatDoorPLR
import Derived.Test.YtfmecpembnmnkaaGreatDoorPGY
import Derived.Test.YtfmecpembnmnkaaGreatDoorPGL
import Derived.Deep.DeepHandedRow
namespace Go.Proofs.YtfmecpembnmnkaaGreatDoor
set_option maxRecDepth 100000
set_option maxHeartbeats 6400000
open Go.ChangeShapes Go.WideShapes Go.ChangeAt Go.RowKit
theorem wM (H:Type) (enc:TypeId×Value→H) (W:World) (base:Nat) (args:Array Value) (ds gs:List (DataW H)) (before:List MemPlace)
  (hval:∀(j:Nat) t v,Tryz.f3.params[j]? =some t→args[j]? =some v→Value.okWide Tryz.prog W .any base t v)
  (hW:DataW.Whole enc Tryz.prog Tryz.f3.params.toList Rows.cholPivotsSpec.vars false W args.toList ds gs before) (hcond:Rows.uptoSmall H (ds++gs)=true) (hL:laidMetH Tryz.prog aEj W):
  Calls Tryz.prog 3 args W fun e W'=>∃v,e= .returned v∧Rows.cholPivotsSpec.post enc Tryz.prog Tryz.f3 false true false false W args v W':=by
 have hW':=hW
 obtain⟨p,q,hA0,hV,rfl,hfz,hnd⟩:=hW
 have hA:DataW.TrodAll enc Tryz.prog W 0 (fun _=>true) true Tryz.f3.params.toList args.toList ds p:=hA0
 rw [Tryz.params3]at hA hval
 obtain⟨v0,vs0,d0,ds0,p0,q0,hargs,rfl,rfl,h0,r0⟩:=trodAll_cons hA
 obtain⟨v1,vs1,d1,ds1,p1,q1,rfl,rfl,rfl,h1,r1⟩:=trodAll_cons r0
 obtain⟨v2,vs2,d2,ds2,p2,q2,rfl,rfl,rfl,h2,r2⟩:=trodAll_cons r1
 obtain⟨rfl,rfl,rfl⟩:=trodAll_nil r2
 obtain rfl:args= #[v0,v1,v2]:=by cases args;simp_all
 obtain⟨rfl,rfl⟩:=trodVars_none hV
 have hv0:=hval 0 3 v0 rfl rfl
 obtain⟨k0,rfl⟩:=okWide_int Tryz.underlying3 hv0
 have hv1:=hval 1 3 v1 rfl rfl
 obtain⟨k1,rfl⟩:=okWide_int Tryz.underlying3 hv1
 have hv2:=hval 2 22 v2 rfl rfl
 obtain⟨a2,len2,cap2,rfl⟩:=okWide_slice Tryz.underlying22 hv2
 clear hA0
 simp only [List.append_nil]at hW' hcond
 have hlt:∀x∈p0++(p1++p2),x.block<W.heap.size:=fun x hx=>by simpa using hW'.lt x hx
 have hbk:=aJd hcond
 have hk0:=aQz (aSd Tryz.underlying3 h0)
 have hk1:=aQz (aSd Tryz.underlying3 h1)
 have b2:Rows.uptoBulk d2≤1048576:=Nat.le_trans (aNx (by simp)) hbk
 obtain⟨l2,hl2⟩:=aWc h2 (fun x hx=>hlt x (List.mem_append_right _ (List.mem_append_right _ hx))) b2
 obtain⟨hT,hTs⟩:=aHv hL
 refine(aCo _ _ _ l2 W hl2 ⟨hT,hTs⟩).mono fun e W' ⟨he,hb⟩=> ?_
 subst he
 have t0:=Below.trod Tryz.laidOut (by kernel_rfl) (of_decide_eq_true (by kernel_rfl)) h0 hb (fun x hx=>hlt x (List.mem_append_left _ hx))
 have t1:=Below.trod Tryz.laidOut (by kernel_rfl) (of_decide_eq_true (by kernel_rfl)) h1 hb (fun x hx=>hlt x (List.mem_append_right _ (List.mem_append_left _ hx)))
 have t2:=Below.trod Tryz.laidOut (by kernel_rfl) (of_decide_eq_true (by kernel_rfl)) h2 hb (fun x hx=>hlt x (List.mem_append_right _ (List.mem_append_right _ hx)))
 exact⟨_,rfl,_,_,_,[],_,[],hW',(trodAll_cons_mk (shut_bool Tryz.underlying4 _) trodAll_mk0),(trodAll_cons_mk t0 (trodAll_cons_mk t1 (trodAll_cons_mk t2 trodAll_mk0))),rfl,hb.frame _,fun h=>by cases h⟩
theorem zV (os:Os) {H:Type}(enc:TypeId×Value→H):∃places,DataW.whole enc Tryz.prog ((World.laidAll Tryz.prog os aEj).forCall (fun _ _=>0) ⟨#[],#[.int .i64 0,.int .i64 0,.slice none 0 0],[]⟩).memory Tryz.f3.params.toList Rows.cholPivotsSpec.vars false #[Value.int .i64 0,.int .i64 0,.slice none 0 0].toList 8=some ([.lit (.int .i64 0),.lit (.int .i64 0),.nil],[],places):=
 ⟨[],by kernel_rfl⟩
theorem xY (os:Os) (started:os.Started) (H:Type) (enc:TypeId×Value→H) (F:Stop.Interp):
  ReturnsInHanded {} Tryz.checked os 3 .any ((Rows.OpenSpec.upto Rows.cholPivotsSpec).preRow enc Tryz.prog Tryz.f3 Rows.cholPivotsUptoRow.domain false Rows.cholPivotsUptoRow.laid) (((Rows.OpenSpec.upto Rows.cholPivotsSpec).at F).post enc Tryz.prog Tryz.f3 false true false false):=by
 obtain⟨places,hx⟩:=zV os enc
 refine returnsInHanded_of_row (C:=Tryz.checked) (s:=Rows.OpenSpec.upto Rows.cholPivotsSpec) own started (by kernel_rfl) Tryz.func3
  (witness_row_at (enc:=enc) (C:=Tryz.checked) false (World.laidAll Tryz.prog os aEj) #[.int .i64 0,.int .i64 0,.slice none 0 0] (World.laidAll_os _ _ _) (by kernel_rfl) (by kernel_rfl) (by kernel_rfl)
   (OpenSpec.preRow_of_cond 8 hx (by kernel_rfl) (fun k hk=>by cases hk;kernel_rfl) (by kernel_rfl) (by
    show laidMetH Tryz.prog aEj _
    rw [MakeChecks.laidMetH_plain _ _ _ (by kernel_rfl)];exact laidMet_laidAll _ (by kernel_rfl) (by kernel_rfl)))) ?_
 intro W base args ds gs before hval hW _ hcond _ hL _ _
 exact wM H enc W base args ds gs before hval hW (hcond _ rfl) hL
theorem aAg :Rows.CholPivotsUptoSaid:=
 OpenClaim.holds_of_cond 3 Tryz.f3 rfl rfl rfl rfl rfl rfl rfl ⟨rfl,rfl,rfl,rfl,rfl⟩ rfl rfl rfl rfl rfl (by kernel_rfl) Tryz.func3 (by kernel_rfl)
  (of_decide_eq_true (by kernel_rfl)) (by unfold Func.isWrapper;first|(rw [if_pos (by decide+kernel)];kernel_rfl)|(rw [if_neg (by decide+kernel)];exact⟨rfl,rfl⟩))
  (fun os started H enc _ F=>by rw [OpenClaim.pre_eq_preRow];exact xY os started H enc F)
theorem cholPivots_card :Rows.CholPivotsUptoCardSaid:=
 Claim7.holds_tied_plain_at .later [] [.data] true Rows.cholPivotsUptoCard.stood.harness false
  aAg (fun _ h=>by cases h) (by kernel_rfl) (fun _ h=>by cases h) cholPivotsUpto_row_tie rfl ⟨rfl,rfl⟩ (by kernel_rfl) rfl
  (fun f fn hf hfn=>by
   obtain rfl:f=3:=Option.some.inj ((show Tryz.prog.funcNamed "binnacle/binnaclelaw09.CholPivots" =some 3 by kernel_rfl).symm.trans hf)|>.symm
   obtain rfl:fn=Tryz.f3:=(Option.some.inj (Tryz.func3.symm.trans hfn)).symm
   exact⟨by kernel_rfl,fun j t ht=>by
    rw [Tryz.params3]at ht
    have hm:t∈[3,3,22]:=by simpa using Array.mem_of_getElem? ht
    have hall:([3,3,22].all fun u=> !Tryz.prog.wantsStandIn u)=true:=by kernel_rfl
    exact(show Tryz.prog.wantsStandIn t=false by simpa using List.all_eq_true.1 hall t hm)⟩)
  (by kernel_rfl)
#print axioms cholPivots_card
end Go.Proofs.YtfmecpembnmnkaaGreatDoor
