/-
  ContractCuts: each shortcut stands for two kept edges by a vertex that was taken out: whatever the graph and the rounds, the law returns true. Conditions: none but the row's own (the three listed tables hold what the text lays).
-/
import Derived.Test.YthkkgdpomhhjjaaGreatDoorC16
set_option maxRecDepth 100000
namespace Go.Proofs.YthkkgdpomhhjjaaGreatDoor.ContractCuts
open Go.Proofs.Tryz
open Go.ChangeShapes Go.WideShapes Go.ChangeAt Go.RowKit Go.Joins
theorem walk(k0:Nat)(ev0:Value)(es0:List aF)(fr0:Nat)(k1:Nat)(w:World)(JI:k0<256)(he0:kL w ev0 es0)(hf0:fr0<256)(Pr:k1<256):Calls prog 6 #[.agg #[.int .u8 (k0:Int),ev0,.int .u8 (fr0:Int)],.int .u8 (k1:Int)] w fun e w'=>e=.returned (.bool true)/\Below w.heap.size w w':=
 xo CY (Hs CY (EA (m:=2400) af) (Nat.le_refl _)) k0 fr0 k1 JI hf0 Pr he0
theorem contract(H:Type)(enc:TypeId×Value->H)(W:World)(base:Nat)(args:Array Value)(ds gs:List (DataW H))(before:List MemPlace)(hval:∀(j:Nat)t v,Tryz.f6.params[j]? = some t->args[j]? = some v->Value.okWide prog W .any base t v)(hW:DataW.Whole enc prog Tryz.f6.params.toList Rows.contractCutsSpec.vars false W args.toList ds gs before) :
 Calls prog 6 args W fun e W'=>∃v,e=.returned v/\Rows.contractCutsSpec.post enc prog Tryz.f6 false true false false W args v W':=by
 have hW':=hW;obtain⟨p,q,hA0,hV,rfl,Jq,JM⟩:=hW;have hA:DataW.TrodAll enc prog W 0 (fun _=>true) true Tryz.f6.params.toList args.toList ds p:=hA0;rw[Tryz.params6]at hA hval;obtain⟨v0,vs0,d0,ds0,p0,q0,PR,rfl,rfl,h0,r0⟩:=trodAll_cons hA;obtain⟨v1,vs1,d1,ds1,p1,q1,rfl,rfl,rfl,h1,r1⟩:=trodAll_cons r0;obtain⟨rfl,rfl,rfl⟩:=trodAll_nil r1;obtain rfl:args=#[v0,v1]:=by cases args;simp_all
 obtain⟨rfl,rfl⟩:=trodVars_none hV;obtain⟨k0,ev0,es0,fr0,rfl,he0,JI,hf0⟩:=AB (hval 0 _ v0 rfl rfl) h0;obtain⟨a1,rfl,rfl,rfl,w1⟩:=open_int Tryz.underlying5 (hval 1 _ v1 rfl rfl) h1;clear hA0;simp only[List.append_nil]at hW';have Us:∀x∈p0,x.block<W.heap.size:=fun x hx=>hW'.lt x (by simp[hx]);have aff:∀W',Below W.heap.size W W'->∀sp:Nat->Bool,(∀x∈p0,sp x.block=true)->DataW.Trod enc prog W' 0 sp true 69 (.agg #[.int .u8 (k0:Int),ev0,.int .u8 (fr0:Int)]) d0 p0:=fun W' hg sp hsp=>
  WideElems.Trod_stays Sl ag (of_decide_eq_true ag) h0 (fun x hx=>hg.same (Us x hx)) hsp
 obtain⟨k1,Pr,rfl⟩:=KP w1;refine(walk k0 ev0 es0 fr0 k1 W JI he0 hf0 Pr).mono fun e W' ⟨he,hg⟩=>?_;subst he;exact⟨_,rfl,BB (pa:=p0) (pv:=[]) hW' (fun _ _ _=>(trodAll_cons_mk (shut_bool Tryz.underlying4 _) trodAll_mk0)) (fun sp hsp=>by
  have:=trodAll_cons_mk (aff W' hg sp (fun x hx=>hsp x (by simp[hx]))) (trodAll_cons_mk (shut_int (enc:=enc) (P:=prog) (w:=W') (base:=0) (spare:=sp) (held:=true) Tryz.underlying5 w1) trodAll_mk0);rw[show p0++([]++[])=p0 by simp]at this;exact this) (fun _ _=>rfl) ah
  hg (ok_one ag rfl (okWide_bool_mk Tryz.underlying4 _))⟩
def start:Array Value:=#[.agg #[.int .u8 0,.slice none 0 0,.int .u8 0],.int .u8 0]
theorem reads(os:Os){H:Type}(enc:TypeId×Value->H):∃places,DataW.whole enc prog ((iI os).forCall (fun _ _=>0) ⟨#[],start,[]⟩).memory Tryz.f6.params.toList Rows.contractCutsSpec.vars false start.toList 8=some ([.agg [.lit (.int .u8 0),.nil,.lit (.int .u8 0)],.lit (.int .u8 0)],[],places):=
 ⟨[],ag⟩
theorem hv(os:Os):((iI os).forCall (fun _ _=>0) ⟨#[],start,[]⟩).variablesB Tryz.checked.prog=true:=by kernel_rfl
theorem hr(os:Os):(((iI os).forCall (fun _ _=>0) ⟨#[],start,[]⟩).heap.toList.drop Tryz.checked.prog.globals.size).take ((begin Tryz.checked.prog (fun _ _=>0) default).world.heap.size-Tryz.checked.prog.globals.size)=(begin Tryz.checked.prog (fun _ _=>0) default).world.heap.toList.drop Tryz.checked.prog.globals.size:=by kernel_rfl
theorem fw(os:Os):Input.okWideB Tryz.checked.prog ((iI os).forCall (fun _ _=>0) ⟨#[],start,[]⟩) 6 ⟨#[],start,[]⟩=true:=by kernel_rfl
theorem hsz(os:Os){H:Type}(enc:TypeId×Value->H):(OpenSpec.ofChange Rows.contractCutsSpec).bare.sizedB enc prog Tryz.f6 false ((iI os).forCall (fun _ _=>0) ⟨#[],start,[]⟩).memory start 8=true:=by kernel_rfl
theorem hno:Tryz.checked.prog.inits.idxOf? 6=none:=by kernel_rfl
theorem row(os:Os){H:Type}(enc:TypeId×Value->H):(OpenSpec.ofChange Rows.contractCutsSpec).preRow enc prog Tryz.f6 Rows.contractCutsRow.domain false Rows.contractCutsRow.laid ((iI os).forCall (fun _ _=>0) ⟨#[],start,[]⟩).memory start:=by
 obtain⟨places,hx⟩:=reads os enc;exact OpenSpec.preRow_of_cond 8 hx ag (fun k hk=>by cases hk) (hsz os enc) (PS os start)
theorem lifted(os:Os)(started:os.Started)(H:Type)(enc:TypeId×Value->H)(F:Stop.Interp) :
 ReturnsInHanded {} Tryz.checked os 6 .any ((OpenSpec.ofChange Rows.contractCutsSpec).preRow enc prog Tryz.f6 Rows.contractCutsRow.domain false Rows.contractCutsRow.laid) (((OpenSpec.ofChange Rows.contractCutsSpec).at F).post enc prog Tryz.f6 false true false false):=by
 refine returnsInHanded_of_row (C:=Tryz.checked) (s:=OpenSpec.ofChange Rows.contractCutsSpec) own started hno func6
  (witness_row_at (enc:=enc) (C:=Tryz.checked) false (iI os) start rfl (hv os) (hr os) (fw os) (row os enc)) ?_
 intro W base args ds gs before hval hW _ _ _ _ _ _;exact contract H enc W base args ds gs before hval hW
theorem said:Rows.ContractCutsSaid:=
 OpenClaim.holds_of_cond 6 Tryz.f6 rfl rfl rfl rfl rfl rfl rfl ⟨rfl,rfl,rfl,rfl,rfl⟩ rfl rfl rfl rfl rfl ag func6 closed
  (of_decide_eq_true ag) (by unfold Func.isWrapper;first | (rw[if_pos (by decide +kernel)];kernel_rfl) | (rw[if_neg (by decide +kernel)];exact⟨rfl,rfl⟩))
  (fun os started H enc _ F=>by rw[OpenClaim.pre_eq_preRow];exact lifted os started H enc F)
theorem plain(f:FuncId)(fn:Func)(hf:Tryz.pinned.checked.prog.funcNamed "milepost/milepostlaw18.ContractCuts"=some f)(hfn:Tryz.pinned.checked.prog.funcs[f]? = some fn) :
 false=Tryz.pinned.checked.prog.looks []/\∀(j:Nat)t,fn.params[j]? = some t->Tryz.pinned.checked.prog.wantsStandIn t=false:=by
 obtain rfl:f=6:=Option.some.inj ((show prog.funcNamed "milepost/milepostlaw18.ContractCuts"=some 6 by kernel_rfl).symm.trans hf) |>.symm;obtain rfl:fn=Tryz.f6:=(Option.some.inj (func6.symm.trans hfn)).symm;refine⟨ag,fun j t ht=>?_⟩;rw[Tryz.params6]at ht;have hm:=Array.mem_of_getElem? ht;simp only[List.mem_toArray,List.mem_cons,List.not_mem_nil,or_false]at hm;rcases hm with rfl | rfl
 ·exact(show prog.wantsStandIn 69=false by kernel_rfl)
 ·exact(show prog.wantsStandIn 5=false by kernel_rfl)
theorem card:Rows.ContractCutsCardSaid:=
 Claim7.holds_tied_plain_at .later [] _ _ _ _ said (fun _ h=>by cases h) ag (fun _ h=>by cases h) contractCuts_row_tie rfl ⟨rfl,rfl⟩ ag rfl plain ag
end Go.Proofs.YthkkgdpomhhjjaaGreatDoor.ContractCuts
namespace Go.Proofs.YthkkgdpomhhjjaaGreatDoor
open Go.Proofs.Tryz
theorem contractCuts_proved:Rows.ContractCutsCardSaid:=ContractCuts.card
end Go.Proofs.YthkkgdpomhhjjaaGreatDoor
