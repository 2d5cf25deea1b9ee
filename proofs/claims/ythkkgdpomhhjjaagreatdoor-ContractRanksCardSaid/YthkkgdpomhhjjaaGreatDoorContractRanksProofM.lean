/-
  ContractRanks: the ranks are the numbers up to n - 1, each once, and kept edges go up: whatever the graph, the law returns true. Conditions: none but the row's own (the three listed tables hold what the text lays).
-/
import Derived.Test.YthkkgdpomhhjjaaGreatDoorD16
set_option maxRecDepth 100000
namespace Go.Proofs.YthkkgdpomhhjjaaGreatDoor.ContractRanks
open Go.Proofs.Tryz
open Go.ChangeShapes Go.WideShapes Go.ChangeAt Go.RowKit Go.Joins
theorem walk(k0:Nat)(ev0:Value)(es0:List aJ)(Yh:Nat)(w:World)(JP:k0<256)(he0:kL w ev0 es0)(hf0:Yh<256):Calls prog 7 #[.agg #[.int .u8 (k0:Int),ev0,.int .u8 (Yh:Int)]] w fun e w'=>e=.returned (.bool true)/\Below w.heap.size w w':=
 tD CT (FZ CT (D5 (m:=2400) af) (Nat.le_refl _)) k0 Yh JP hf0 he0
theorem contract(H:Type)(enc:TypeId×Value->H)(W:World)(base:Nat)(args:Array Value)(ds gs:List (DataW H))(before:List MemPlace)(hval:∀(j:Nat)t v,Tryz.f7.params[j]? = some t->args[j]? = some v->Value.okWide prog W .any base t v)(hW:DataW.Whole enc prog Tryz.f7.params.toList Rows.contractRanksSpec.vars false W args.toList ds gs before) :
 Calls prog 7 args W fun e W'=>∃v,e=.returned v/\Rows.contractRanksSpec.post enc prog Tryz.f7 false true false false W args v W':=by
 have hW':=hW;obtain⟨p,q,hA0,hV,rfl,Jz,JQ⟩:=hW;have hA:DataW.TrodAll enc prog W 0 (fun _=>true) true Tryz.f7.params.toList args.toList ds p:=hA0;rw[Tryz.params7]at hA hval;obtain⟨v0,vs0,d0,ds0,p0,q0,P4,rfl,rfl,h0,r0⟩:=trodAll_cons hA;obtain⟨rfl,rfl,rfl⟩:=trodAll_nil r0;obtain rfl:args=#[v0]:=by cases args;simp_all
 obtain⟨rfl,rfl⟩:=trodVars_none hV;obtain⟨k0,ev0,es0,Yh,rfl,he0,JP,hf0⟩:=zj (hval 0 _ v0 rfl rfl) h0;clear hA0;simp only[List.append_nil]at hW';have Ut:∀x∈p0,x.block<W.heap.size:=fun x hx=>hW'.lt x (by simp[hx]);have abN:∀W',Below W.heap.size W W'->∀sp:Nat->Bool,(∀x∈p0,sp x.block=true)->DataW.Trod enc prog W' 0 sp true 69 (.agg #[.int .u8 (k0:Int),ev0,.int .u8 (Yh:Int)]) d0 p0:=fun W' hg sp hsp=>
  WideElems.Trod_stays P5 ag (of_decide_eq_true ag) h0 (fun x hx=>hg.same (Ut x hx)) hsp
 refine(walk k0 ev0 es0 Yh W JP he0 hf0).mono fun e W' ⟨he,hg⟩=>?_;subst he;exact⟨_,rfl,BO (pa:=p0) (pv:=[]) hW' (fun _ _ _=>(trodAll_cons_mk (shut_bool Tryz.underlying4 _) trodAll_mk0)) (fun sp hsp=>by
  have:=trodAll_cons_mk (abN W' hg sp (fun x hx=>hsp x (by simp[hx]))) trodAll_mk0;rw[show p0++[]=p0 by simp]at this;exact this) (fun _ _=>rfl) ah
  hg (ok_one ag rfl (okWide_bool_mk Tryz.underlying4 _))⟩
def start:Array Value:=#[.agg #[.int .u8 0,.slice none 0 0,.int .u8 0]]
theorem reads(os:Os){H:Type}(enc:TypeId×Value->H):∃places,DataW.whole enc prog ((iL os).forCall (fun _ _=>0) ⟨#[],start,[]⟩).memory Tryz.f7.params.toList Rows.contractRanksSpec.vars false start.toList 8=some ([.agg [.lit (.int .u8 0),.nil,.lit (.int .u8 0)]],[],places):=
 ⟨[],ag⟩
theorem hv(os:Os):((iL os).forCall (fun _ _=>0) ⟨#[],start,[]⟩).variablesB Tryz.checked.prog=true:=by kernel_rfl
theorem hr(os:Os):(((iL os).forCall (fun _ _=>0) ⟨#[],start,[]⟩).heap.toList.drop Tryz.checked.prog.globals.size).take ((begin Tryz.checked.prog (fun _ _=>0) default).world.heap.size-Tryz.checked.prog.globals.size)=(begin Tryz.checked.prog (fun _ _=>0) default).world.heap.toList.drop Tryz.checked.prog.globals.size:=by kernel_rfl
theorem eD(os:Os):Input.okWideB Tryz.checked.prog ((iL os).forCall (fun _ _=>0) ⟨#[],start,[]⟩) 7 ⟨#[],start,[]⟩=true:=by kernel_rfl
theorem hsz(os:Os){H:Type}(enc:TypeId×Value->H):(OpenSpec.ofChange Rows.contractRanksSpec).bare.sizedB enc prog Tryz.f7 false ((iL os).forCall (fun _ _=>0) ⟨#[],start,[]⟩).memory start 8=true:=by kernel_rfl
theorem hno:Tryz.checked.prog.inits.idxOf? 7=none:=by kernel_rfl
theorem row(os:Os){H:Type}(enc:TypeId×Value->H):(OpenSpec.ofChange Rows.contractRanksSpec).preRow enc prog Tryz.f7 Rows.contractRanksRow.domain false Rows.contractRanksRow.laid ((iL os).forCall (fun _ _=>0) ⟨#[],start,[]⟩).memory start:=by
 obtain⟨places,hx⟩:=reads os enc;exact OpenSpec.preRow_of_cond 8 hx ag (fun k hk=>by cases hk) (hsz os enc) (P6 os start)
theorem lifted(os:Os)(started:os.Started)(H:Type)(enc:TypeId×Value->H)(F:Stop.Interp) :
 ReturnsInHanded {} Tryz.checked os 7 .any ((OpenSpec.ofChange Rows.contractRanksSpec).preRow enc prog Tryz.f7 Rows.contractRanksRow.domain false Rows.contractRanksRow.laid) (((OpenSpec.ofChange Rows.contractRanksSpec).at F).post enc prog Tryz.f7 false true false false):=by
 refine returnsInHanded_of_row (C:=Tryz.checked) (s:=OpenSpec.ofChange Rows.contractRanksSpec) own started hno func7
  (witness_row_at (enc:=enc) (C:=Tryz.checked) false (iL os) start rfl (hv os) (hr os) (eD os) (row os enc)) ?_
 intro W base args ds gs before hval hW _ _ _ _ _ _;exact contract H enc W base args ds gs before hval hW
theorem said:Rows.ContractRanksSaid:=
 OpenClaim.holds_of_cond 7 Tryz.f7 rfl rfl rfl rfl rfl rfl rfl ⟨rfl,rfl,rfl,rfl,rfl⟩ rfl rfl rfl rfl rfl ag func7 closed
  (of_decide_eq_true ag) (by unfold Func.isWrapper;first | (rw[if_pos (by decide +kernel)];kernel_rfl) | (rw[if_neg (by decide +kernel)];exact⟨rfl,rfl⟩))
  (fun os started H enc _ F=>by rw[OpenClaim.pre_eq_preRow];exact lifted os started H enc F)
theorem plain(f:FuncId)(fn:Func)(hf:Tryz.pinned.checked.prog.funcNamed "milepost/milepostlaw18.ContractRanks"=some f)(hfn:Tryz.pinned.checked.prog.funcs[f]? = some fn) :
 false=Tryz.pinned.checked.prog.looks []/\∀(j:Nat)t,fn.params[j]? = some t->Tryz.pinned.checked.prog.wantsStandIn t=false:=by
 obtain rfl:f=7:=Option.some.inj ((show prog.funcNamed "milepost/milepostlaw18.ContractRanks"=some 7 by kernel_rfl).symm.trans hf) |>.symm;obtain rfl:fn=Tryz.f7:=(Option.some.inj (func7.symm.trans hfn)).symm;refine⟨ag,fun j t ht=>?_⟩;rw[Tryz.params7]at ht;have hm:=Array.mem_of_getElem? ht;simp only[List.mem_toArray,List.mem_cons,List.not_mem_nil,or_false]at hm;subst hm;exact(show prog.wantsStandIn 69=false by kernel_rfl)
theorem card:Rows.ContractRanksCardSaid:=
 Claim7.holds_tied_plain_at .later [] _ _ _ _ said (fun _ h=>by cases h) ag (fun _ h=>by cases h) contractRanks_row_tie rfl ⟨rfl,rfl⟩ ag rfl plain ag
end Go.Proofs.YthkkgdpomhhjjaaGreatDoor.ContractRanks
namespace Go.Proofs.YthkkgdpomhhjjaaGreatDoor
open Go.Proofs.Tryz
theorem contractRanks_proved:Rows.ContractRanksCardSaid:=ContractRanks.card
end Go.Proofs.YthkkgdpomhhjjaaGreatDoor
