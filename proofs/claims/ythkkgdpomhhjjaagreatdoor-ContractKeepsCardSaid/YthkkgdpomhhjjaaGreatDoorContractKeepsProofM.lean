/-
  ContractKeeps: behind a round the distance between any two vertices that remain is what it was ahead: whatever the graph, the rounds and the vertices, the law returns true. Conditions: none but the row's own (the three listed tables hold what the text lays).
-/
import Derived.Test.YthkkgdpomhhjjaaGreatDoorK16
set_option maxRecDepth 100000
namespace Go.Proofs.YthkkgdpomhhjjaaGreatDoor.ContractKeeps
open Go.Proofs.Tryz
open Go.ChangeShapes Go.WideShapes Go.ChangeAt Go.RowKit Go.Joins
theorem walk(k0:Nat)(ev0:Value)(es0:List aD)(Y6:Nat)(k1:Nat)(k2:Nat)(k3:Nat)(w:World)(Ka:k0<256)(he0:kC w ev0 es0)(hf0:Y6<256)(P0:k1<256)(hk2:k2<256)(hk3:k3<256):Calls prog 4 #[.agg #[.int .u8 (k0:Int),ev0,.int .u8 (Y6:Int)],.int .u8 (k1:Int),.int .u8 (k2:Int),.int .u8 (k3:Int)] w fun e w'=>e=.returned (.bool true)/\Below w.heap.size w w':=
 tQ Da (Gn Da (Ek (m:=2400) ag) (Nat.le_refl _)) k0 Y6 k1 k2 k3 Ka hf0 P0 hk2 hk3 he0
theorem contract(H:Type)(enc:TypeId×Value->H)(W:World)(base:Nat)(args:Array Value)(ds gs:List (DataW H))(before:List MemPlace)(hval:∀(j:Nat)t v,Tryz.f4.params[j]? = some t->args[j]? = some v->Value.okWide prog W .any base t v)(hW:DataW.Whole enc prog Tryz.f4.params.toList Rows.contractKeepsSpec.vars false W args.toList ds gs before) :
 Calls prog 4 args W fun e W'=>∃v,e=.returned v/\Rows.contractKeepsSpec.post enc prog Tryz.f4 false true false false W args v W':=by
 have hW':=hW;obtain⟨p,q,hA0,hV,rfl,JO,Kb⟩:=hW;have hA:DataW.TrodAll enc prog W 0 (fun _=>true) true Tryz.f4.params.toList args.toList ds p:=hA0;rw[Tryz.params4]at hA hval;obtain⟨v0,vs0,d0,ds0,p0,q0,Qu,rfl,rfl,h0,r0⟩:=trodAll_cons hA;obtain⟨v1,vs1,d1,ds1,p1,q1,rfl,rfl,rfl,h1,r1⟩:=trodAll_cons r0;obtain⟨v2,NS,d2,ds2,p2,q2,rfl,rfl,rfl,h2,r2⟩:=trodAll_cons r1;obtain⟨v3,vs3,d3,ds3,p3,q3,rfl,rfl,rfl,h3,r3⟩:=trodAll_cons r2;obtain⟨rfl,rfl,rfl⟩:=trodAll_nil r3;obtain rfl:args=#[v0,v1,v2,v3]:=by cases args;simp_all
 obtain⟨rfl,rfl⟩:=trodVars_none hV;obtain⟨k0,ev0,es0,Y6,rfl,he0,Ka,hf0⟩:=zF (hval 0 _ v0 rfl rfl) h0;obtain⟨a1,rfl,rfl,rfl,w1⟩:=open_int Tryz.underlying5 (hval 1 _ v1 rfl rfl) h1;obtain⟨a2,rfl,rfl,rfl,w2⟩:=open_int Tryz.underlying5 (hval 2 _ v2 rfl rfl) h2;obtain⟨a3,rfl,rfl,rfl,w3⟩:=open_int Tryz.underlying5 (hval 3 _ v3 rfl rfl) h3;clear hA0;simp only[List.append_nil]at hW';have Vf:∀x∈p0,x.block<W.heap.size:=fun x hx=>hW'.lt x (by simp[hx]);have acT:∀W',Below W.heap.size W W'->∀sp:Nat->Bool,(∀x∈p0,sp x.block=true)->DataW.Trod enc prog W' 0 sp true 69 (.agg #[.int .u8 (k0:Int),ev0,.int .u8 (Y6:Int)]) d0 p0:=fun W' hg sp hsp=>
  WideElems.Trod_stays Qv ah (of_decide_eq_true ah) h0 (fun x hx=>hg.same (Vf x hx)) hsp
 obtain⟨k1,P0,rfl⟩:=zG w1;obtain⟨k2,hk2,rfl⟩:=zG w2;obtain⟨k3,hk3,rfl⟩:=zG w3;refine(walk k0 ev0 es0 Y6 k1 k2 k3 W Ka he0 hf0 P0 hk2 hk3).mono fun e W' ⟨he,hg⟩=>?_;subst he;exact⟨_,rfl,B5 (pa:=p0) (pv:=[]) hW' (fun _ _ _=>(trodAll_cons_mk (shut_bool Tryz.underlying4 _) trodAll_mk0)) (fun sp hsp=>by
  have:=trodAll_cons_mk (acT W' hg sp (fun x hx=>hsp x (by simp[hx]))) (trodAll_cons_mk (shut_int (enc:=enc) (P:=prog) (w:=W') (base:=0) (spare:=sp) (held:=true) Tryz.underlying5 w1) (trodAll_cons_mk (shut_int (enc:=enc) (P:=prog) (w:=W') (base:=0) (spare:=sp) (held:=true) Tryz.underlying5 w2) (trodAll_cons_mk (shut_int (enc:=enc) (P:=prog) (w:=W') (base:=0) (spare:=sp) (held:=true) Tryz.underlying5 w3) trodAll_mk0)));rw[show p0++([]++([]++([]++[])))=p0 by simp]at this;exact this) (fun _ _=>rfl) ai
  hg (ok_one ah rfl (okWide_bool_mk Tryz.underlying4 _))⟩
def start:Array Value:=#[.agg #[.int .u8 0,.slice none 0 0,.int .u8 0],.int .u8 0,.int .u8 0,.int .u8 0]
theorem reads(os:Os){H:Type}(enc:TypeId×Value->H):∃places,DataW.whole enc prog ((iU os).forCall (fun _ _=>0) ⟨#[],start,[]⟩).memory Tryz.f4.params.toList Rows.contractKeepsSpec.vars false start.toList 8=some ([.agg [.lit (.int .u8 0),.nil,.lit (.int .u8 0)],.lit (.int .u8 0),.lit (.int .u8 0),.lit (.int .u8 0)],[],places):=
 ⟨[],ah⟩
theorem hv(os:Os):((iU os).forCall (fun _ _=>0) ⟨#[],start,[]⟩).variablesB Tryz.checked.prog=true:=by kernel_rfl
theorem hr(os:Os):(((iU os).forCall (fun _ _=>0) ⟨#[],start,[]⟩).heap.toList.drop Tryz.checked.prog.globals.size).take ((begin Tryz.checked.prog (fun _ _=>0) default).world.heap.size-Tryz.checked.prog.globals.size)=(begin Tryz.checked.prog (fun _ _=>0) default).world.heap.toList.drop Tryz.checked.prog.globals.size:=by kernel_rfl
theorem fe(os:Os):Input.okWideB Tryz.checked.prog ((iU os).forCall (fun _ _=>0) ⟨#[],start,[]⟩) 4 ⟨#[],start,[]⟩=true:=by kernel_rfl
theorem hsz(os:Os){H:Type}(enc:TypeId×Value->H):(OpenSpec.ofChange Rows.contractKeepsSpec).bare.sizedB enc prog Tryz.f4 false ((iU os).forCall (fun _ _=>0) ⟨#[],start,[]⟩).memory start 8=true:=by kernel_rfl
theorem hno:Tryz.checked.prog.inits.idxOf? 4=none:=by kernel_rfl
theorem row(os:Os){H:Type}(enc:TypeId×Value->H):(OpenSpec.ofChange Rows.contractKeepsSpec).preRow enc prog Tryz.f4 Rows.contractKeepsRow.domain false Rows.contractKeepsRow.laid ((iU os).forCall (fun _ _=>0) ⟨#[],start,[]⟩).memory start:=by
 obtain⟨places,hx⟩:=reads os enc;exact OpenSpec.preRow_of_cond 8 hx ah (fun k hk=>by cases hk) (hsz os enc) (Qw os start)
theorem lifted(os:Os)(started:os.Started)(H:Type)(enc:TypeId×Value->H)(F:Stop.Interp) :
 ReturnsInHanded {} Tryz.checked os 4 .any ((OpenSpec.ofChange Rows.contractKeepsSpec).preRow enc prog Tryz.f4 Rows.contractKeepsRow.domain false Rows.contractKeepsRow.laid) (((OpenSpec.ofChange Rows.contractKeepsSpec).at F).post enc prog Tryz.f4 false true false false):=by
 refine returnsInHanded_of_row (C:=Tryz.checked) (s:=OpenSpec.ofChange Rows.contractKeepsSpec) own started hno func4
  (witness_row_at (enc:=enc) (C:=Tryz.checked) false (iU os) start rfl (hv os) (hr os) (fe os) (row os enc)) ?_
 intro W base args ds gs before hval hW _ _ _ _ _ _;exact contract H enc W base args ds gs before hval hW
theorem said:Rows.ContractKeepsSaid:=
 OpenClaim.holds_of_cond 4 Tryz.f4 rfl rfl rfl rfl rfl rfl rfl ⟨rfl,rfl,rfl,rfl,rfl⟩ rfl rfl rfl rfl rfl ah func4 closed
  (of_decide_eq_true ah) (by unfold Func.isWrapper;first | (rw[if_pos (by decide +kernel)];kernel_rfl) | (rw[if_neg (by decide +kernel)];exact⟨rfl,rfl⟩))
  (fun os started H enc _ F=>by rw[OpenClaim.pre_eq_preRow];exact lifted os started H enc F)
theorem plain(f:FuncId)(fn:Func)(hf:Tryz.pinned.checked.prog.funcNamed "milepost/milepostlaw18.ContractKeeps"=some f)(hfn:Tryz.pinned.checked.prog.funcs[f]? = some fn) :
 false=Tryz.pinned.checked.prog.looks []/\∀(j:Nat)t,fn.params[j]? = some t->Tryz.pinned.checked.prog.wantsStandIn t=false:=by
 obtain rfl:f=4:=Option.some.inj ((show prog.funcNamed "milepost/milepostlaw18.ContractKeeps"=some 4 by kernel_rfl).symm.trans hf) |>.symm;obtain rfl:fn=Tryz.f4:=(Option.some.inj (func4.symm.trans hfn)).symm;refine⟨ah,fun j t ht=>?_⟩;rw[Tryz.params4]at ht;have hm:=Array.mem_of_getElem? ht;simp only[List.mem_toArray,List.mem_cons,List.not_mem_nil,or_false]at hm;rcases hm with rfl | rfl | rfl | rfl
 ·exact(show prog.wantsStandIn 69=false by kernel_rfl)
 ·exact(show prog.wantsStandIn 5=false by kernel_rfl)
 ·exact(show prog.wantsStandIn 5=false by kernel_rfl)
 ·exact(show prog.wantsStandIn 5=false by kernel_rfl)
theorem card:Rows.ContractKeepsCardSaid:=
 Claim7.holds_tied_plain_at .later [] _ _ _ _ said (fun _ h=>by cases h) ah (fun _ h=>by cases h) contractKeeps_row_tie rfl ⟨rfl,rfl⟩ ah rfl plain ah
end Go.Proofs.YthkkgdpomhhjjaaGreatDoor.ContractKeeps
namespace Go.Proofs.YthkkgdpomhhjjaaGreatDoor
open Go.Proofs.Tryz
theorem contractKeeps_proved:Rows.ContractKeepsCardSaid:=ContractKeeps.card
end Go.Proofs.YthkkgdpomhhjjaaGreatDoor
