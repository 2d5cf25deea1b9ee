/-
  ContractRounds: round by round, till no vertex remains, the files are, byte for byte, the document's: whatever the graph, the law returns true. Conditions: none but the row's own (the three listed tables hold what the text lays).
-/
import Derived.Test.YtofigggbapdfhaaGreatDoorR08
set_option maxRecDepth 100000
open Option renaming some->IT
open Bool renaming true->Jd,false->J0
namespace Go.Proofs.YtofigggbapdfhaaGreatDoor.ContractRounds
open Go.Proofs.Tryz
open Go.ChangeShapes Go.WideShapes Go.ChangeAt Go.RowKit Go.Joins
open Go renaming Value->J3
open Go.Value renaming int->Kx
variable {H:Type}
theorem walk(d:Nat)(b:J3)(g:List aJ)(a:Nat)(w:World)(h:d<256)(f:gR w b g)(c:a<256):Calls prog 3 #[.agg #[Kx .u8 (d:Int),b,Kx .u8 (a:Int)]] w λe w'=>e=.returned (.bool Jd)/\Below w.heap.size w w':=
 xw Hd (Lj Hd (I4 (m:=2400) ag) (Nat.le_refl _)) d a h c f
theorem contract(H:Type)(enc:TypeId×J3->H)(W:World)(base:Nat)(args:Array J3)(C L:List (DataW H))(a:List MemPlace)(b:∀(j:Nat)t v,Tryz.f3.params[j]? = IT t->args[j]? = IT v->Value.okWide prog W .any base t v)(B:DataW.Whole enc prog Tryz.f3.params.toList Rows.contractRoundsSpec.vars J0 W args.toList C L a):Calls prog 3 args W λe d=>∃v,e=.returned v/\Rows.contractRoundsSpec.post enc prog Tryz.f3 J0 Jd J0 J0 W args v d:=by
 have r:=B;obtain⟨p,q,k,I,rfl,P,O⟩:=B;have z:DataW.TrodAll enc prog W 0 (λ_=>Jd) Jd Tryz.f3.params.toList args.toList C p:=k;rw[Tryz.params3]at z b;obtain⟨v0,F,E,G,f,N,M,rfl,rfl,y,D⟩:=trodAll_cons z;obtain⟨rfl,rfl,rfl⟩:=trodAll_nil D;obtain rfl:args=#[v0]:=by cases args;simp_all
 obtain⟨rfl,rfl⟩:=trodVars_none I;obtain⟨A,i,u,g,rfl,s,J,o⟩:=Db (b 0 _ v0 rfl rfl) y;clear k;simp only[List.append_nil]at r;have n:∀x∈f,x.block<W.heap.size:=λx l=>r.lt x (by simp[l]);have w:∀d,Below W.heap.size W d->∀h:Nat->Bool,(∀x∈f,h x.block=Jd)->DataW.Trod enc prog d 0 h Jd 24 (.agg #[Kx .u8 (A:Int),i,Kx .u8 (g:Int)]) E f:=λd m h c=>WideElems.Trod_stays V4 ah (of_decide_eq_true ah) y (λx l=>m.same (n x l)) c
 refine(walk A i u g W J s o).mono λe d ⟨K,m⟩=>?_;subst K;exact⟨_,rfl,F7 (pa:=f) (pv:=[]) r (λ_ _ _=>(trodAll_cons_mk (shut_bool Tryz.underlying4 _) trodAll_mk0)) (λh c=>by
  have:=trodAll_cons_mk (w d m h (λx l=>c x (by simp[l]))) trodAll_mk0;rw[show f++[]=f by simp]at this;exact this) (λ_ _=>rfl) ai
  m (ok_one ah rfl (okWide_bool_mk Tryz.underlying4 _))⟩
def start:Array Value:=#[.agg #[Kx .u8 0,.slice none 0 0,Kx .u8 0]]
theorem reads(os:Os)(enc:TypeId×J3->H):∃a,DataW.whole enc prog ((kC os).forCall (λ_ _=>0) ⟨#[],start,[]⟩).memory Tryz.f3.params.toList Rows.contractRoundsSpec.vars J0 start.toList 8=IT ([.agg [.lit (.int .u8 0),.nil,.lit (.int .u8 0)]],[],a):=
 ⟨[],ah⟩
theorem hv(os:Os):((kC os).forCall (λ_ _=>0) ⟨#[],start,[]⟩).variablesB Tryz.checked.prog=true:=by kernel_rfl
theorem hr(os:Os):(((kC os).forCall (λ_ _=>0) ⟨#[],start,[]⟩).heap.toList.drop Tryz.checked.prog.globals.size).take ((begin Tryz.checked.prog (λ_ _=>0) default).world.heap.size-Tryz.checked.prog.globals.size)=(begin Tryz.checked.prog (λ_ _=>0) default).world.heap.toList.drop Tryz.checked.prog.globals.size:=by kernel_rfl
theorem gu(os:Os):Input.okWideB Tryz.checked.prog ((kC os).forCall (λ_ _=>0) ⟨#[],start,[]⟩) 3 ⟨#[],start,[]⟩=true:=by kernel_rfl
theorem hsz(os:Os)(enc:TypeId×J3->H):(OpenSpec.ofChange Rows.contractRoundsSpec).bare.sizedB enc prog Tryz.f3 J0 ((kC os).forCall (λ_ _=>0) ⟨#[],start,[]⟩).memory start 8=true:=by kernel_rfl
theorem hno:Tryz.checked.prog.inits.idxOf? 3=none:=by kernel_rfl
theorem row(os:Os)(enc:TypeId×J3->H):(OpenSpec.ofChange Rows.contractRoundsSpec).preRow enc prog Tryz.f3 Rows.contractRoundsRow.domain J0 Rows.contractRoundsRow.laid ((kC os).forCall (λ_ _=>0) ⟨#[],start,[]⟩).memory start:=by obtain⟨a,c⟩:=reads os enc;exact OpenSpec.preRow_of_cond 8 c ah (λk b=>by cases b) (hsz os enc) (V5 os start)
theorem lifted(os:Os)(a:os.Started)(H:Type)(enc:TypeId×J3->H)(F:Stop.Interp) :
 ReturnsInHanded {} Tryz.checked os 3 .any ((OpenSpec.ofChange Rows.contractRoundsSpec).preRow enc prog Tryz.f3 Rows.contractRoundsRow.domain J0 Rows.contractRoundsRow.laid) (((OpenSpec.ofChange Rows.contractRoundsSpec).at F).post enc prog Tryz.f3 J0 Jd J0 J0):=by
 refine returnsInHanded_of_row (C:=Tryz.checked) (s:=OpenSpec.ofChange Rows.contractRoundsSpec) own a hno func3
  (witness_row_at (enc:=enc) (C:=Tryz.checked) J0 (kC os) start rfl (hv os) (hr os) (gu os) (row os enc)) ?_
 intro W base args f d b c e _ _ _ _ _ _;exact contract H enc W base args f d b c e
theorem said:Rows.ContractRoundsSaid:=
 OpenClaim.holds_of_cond 3 Tryz.f3 rfl rfl rfl rfl rfl rfl rfl ⟨rfl,rfl,rfl,rfl,rfl⟩ rfl rfl rfl rfl rfl ah func3 closed
  (of_decide_eq_true ah) (by unfold Func.isWrapper;first | (rw[if_pos (by decide +kernel)];kernel_rfl) | (rw[if_neg (by decide +kernel)];exact⟨rfl,rfl⟩))
  (λos a H enc _ F=>by rw[OpenClaim.pre_eq_preRow];exact lifted os a H enc F)
theorem plain(f:FuncId)(a:Func)(e:Tryz.pinned.checked.prog.funcNamed "milepost/milepostlaw18.ContractRounds"=IT f)(b:Tryz.pinned.checked.prog.funcs[f]? = IT a) :
 false=Tryz.pinned.checked.prog.looks []/\∀(j:Nat)t,a.params[j]? = IT t->Tryz.pinned.checked.prog.wantsStandIn t=false:=by obtain rfl:f=3:=Option.some.inj ((show prog.funcNamed "milepost/milepostlaw18.ContractRounds"=IT 3 by kernel_rfl).symm.trans e) |>.symm;obtain rfl:a=Tryz.f3:=(Option.some.inj (func3.symm.trans b)).symm;refine⟨ah,λj t c=>?_⟩;rw[Tryz.params3]at c;have d:=Array.mem_of_getElem? c;simp only[List.mem_toArray,List.mem_cons,List.not_mem_nil,or_false]at d;subst d;exact(show prog.wantsStandIn 24=J0 by kernel_rfl)
theorem card:Rows.ContractRoundsCardSaid:=
 Claim7.holds_tied_plain_at .later [] _ _ _ _ said (λ_ h=>by cases h) ah (λ_ h=>by cases h) contractRounds_row_tie rfl ⟨rfl,rfl⟩ ah rfl plain ah
end Go.Proofs.YtofigggbapdfhaaGreatDoor.ContractRounds
namespace Go.Proofs.YtofigggbapdfhaaGreatDoor
open Go.Proofs.Tryz
theorem contractRounds_proved:Rows.ContractRoundsCardSaid:=ContractRounds.card
end Go.Proofs.YtofigggbapdfhaaGreatDoor
