/-
  Joined.
-/
import Derived.Test.YtofigggbapdfhaaGreatDoorR00
import Derived.Test.YtofigggbapdfhaaGreatDoorCards
import Derived.Test.YtofigggbapdfhaaGreatDoorTie
import Derived.WalkKit
import Derived.ProofKit
import Derived.OpenShut
import Derived.Deep.DeepHandedRow
import Derived.Lib.LaidTab
import Derived.Lib.SmallJoins
import Derived.Maps.OwnSet
import Derived.Maps.RangeWalk
import Derived.StillTail
import Derived.Deep.Quiet
import Derived.Deep.QuietTactic
import Derived.BigQuiet
import Derived.Test.YtofigggbapdfhaaGreatDoorRows
import Derived.WalkSpells
import Derived.WalkLawsBesides
import Derived.Lib.Hide
import Derived.Handy
import Derived.IntWalk
import Derived.Deep.LoopGhost
import Derived.Deep.RegionHeld3
import Derived.Deep.DeepCutAuto
import Derived.Laws.Tables
import Derived.Deep.WholeRow
import Derived.Lib.AppendZerosOnto
import Derived.Maps.AppendAt
import Derived.Deep.MidRow
import Derived.Lib.ConvBytes
import Derived.DeepKeys4
import Derived.Laws.CopyOwn
import Derived.Orders
set_option maxRecDepth 100000
set_option maxHeartbeats 8000000
open Option renaming some->IT,none->KK,map_some->ql
open Bool renaming true->Jd,false->J0,and_eq_true->j4,and_true->r6
open Nat renaming le_refl->cg,le_trans->cp,lt_of_lt_of_le->eg,zero_le->em,zero_add->j0,lt_or_ge->lb,mul_le_mul_left->pc,eq_zero_or_pos->qp,mul_one->sE,min_eq_left->tk,mul_succ->xi,xor_lt_two_pow->xp,not_lt_zero->Dc,mod_eq_of_lt->DQ,pow_le_pow_right->Hh,strongRecOn->IF
open List renaming mem_of_getElem?->cx,length_map->dj,length_append->eh,replicate->ei,length_take->et,take_of_length_le->ey,take_succ_eq_append_getElem->fh,mem_map->gl,mem_append->hS,mem_iff_getElem?->hY,length_drop->ie,take_succ_cons->ii,length_cons->it,eq_nil_of_length_eq_zero->jJ,getElem?_map->j1,take_zero->j2,mem_range->j3,mem_singleton->kj,range->kk,map_append->k8,length_singleton->lr,all_eq_true->ms,append_nil->nw,map_cons->oj,drop_succ_cons->ot,length_replicate->pn,ext_getElem?->p5,drop_zero->qd,mem_cons->qk,map_map->rj,getElem_mem->rM,getElem_map->sp,mem_of_mem_take->tt,mem_append_left->Ds,mem_or_eq_of_mem_set->EL,perm_ext_iff_of_nodup->Ft,pairwise_cons->FC,map_nil->FP,getElem?_drop->F1,nodup_cons->GB,map_toArray->GO,concat_eq_append->GS,length_nil->Hl,filter_eq_self->Hm,filter_filter->Iv
open Array renaming getElem?_eq_some_iff->ds,replicate->xj,setIfInBounds_comm->FF
open UInt32 renaming toNat_inj->Cx
namespace Go.Proofs.YtofigggbapdfhaaGreatDoor
open Go.ChangeShapes Go.WideShapes Go.ChangeAt Go.RowKit Go.Joins Go.Maps Go.MapKept Go
open Go.Proofs.Tryz
open Go renaming World->KX,Value->J3,Calls->K1,Ending->Lp,IntKind->Lq,heap_alloc_new->Lw
open Go.RowKit renaming Below->Lg,Hid->Lk,intOf->Lo
open Go.Value renaming int->Kx,tuple->Ly,agg->LV
open Go.Obj renaming cells->Mi
open Go.Ending renaming returned->Mk
open Go.IntKind renaming i64->Mm,u32->Mo,u64->MJ,u8->MM
open Go.IntKind renaming wrap->cf,u32->xf,wrap_u32->Hz
open Go.Value renaming slice->fz,string->ki,int->tb,ownBlock->B2,agg->DS
open Go.World renaming block_lt_of_cell?->jK,cell?->EV
open Go.RowKit.Below renaming refl->kp,block->EQ
variable {υ α β:Type}{z:J3}{Q:Exit->Act->KX->Prop}{p:Oper}{t x:Act->Prop}{u:Act}{xs:List J3}{cap e E c sz:Nat}{k:Array J3}{v:Obj}
theorem own:ownKnob prog.godebug=none:=ah
section
variable {H:Type}{enc:TypeId×J3->H}{P:Program}
theorem F7{f:Func}{s:ChangeSpec}{apart k d l:Bool}{W m:KX}{args:Array J3}{v:J3}{w o:List (DataW H)}{a pa pv:List MemPlace}(x:DataW.Whole enc P f.params.toList s.vars apart W args.toList w o a)(g:∀(b:Nat)(i:Nat->Bool)(F:Bool),DataW.TrodAll enc P m b i F f.resultTypes.toList (v.resultList f.resultTypes.size) (s.fn H (w++o)).results [])(y:∀i:Nat->Bool,(∀p∈a,i p.block=Jd)->DataW.TrodAll enc P m 0 i Jd f.params.toList args.toList (s.fn H (w++o)).args pa)(q:∀i:Nat->Bool,(∀p∈a,i p.block=Jd)->DataW.TrodVars enc P m i s.vars (s.fn H (w++o)).vars pv)(e:a=pa++pv)(A:Lg W W m)(B:∀(j:Nat)(t:TypeId)(r:J3),f.resultTypes[j]? = IT t->(v.resultList f.resultTypes.size)[j]? = IT r->Value.okWide P m .any 0 t r) :
 s.post enc P f apart k d l W args v m:=by
 have u:∀p∈a,p.block<W.heap.size:=λp c=>x.lt p c;have h:∀p∈a,(λb=>decide (b<W.heap.size)) p.block=true:=λp c=>by simpa using u p c
 refine⟨w,o,a,[],pa,pv,x,g _ _ _,y _ h,q _ h,World.keptBut_mono (λp c=>⟨c,?_⟩) (A.frame (·∈a)),λ_=>?_⟩
 .rw[e,hS]at c;exact Or.inr c
 .obtain⟨_,_,_,_,_,E,C⟩:=x;refine⟨B,_,_,([]++pa)++pv,⟨[]++pa,pv,trodAll_append (y _ (λ_ _=>rfl)) (g _ _ _),q _ (λ_ _=>rfl),rfl,?_,?_⟩,?_⟩
  .intro b n c;have z:MemPlace.cell b n∈a:=by rw[e];simpa using c
   rw[A.frozen (u _ z)];exact E b n z
  .intro D;have:=C D;rw[e]at this;simpa using this
  .intro p c _;rw[e];simpa using c
end
def aeK:List Int:=[1,10,100,1000,10000,100000,1000000,10000000,100000000,1000000000,10000000000,100000000000,1000000000000,10000000000000,100000000000000,1000000000000000,10000000000000000,100000000000000000,1000000000000000000,10000000000000000000]
def aip:List Int:=[0,1,28,2,29,14,24,3,30,22,20,15,25,17,4,8,31,27,13,23,21,19,16,7,26,12,18,6,11,5,10,9]
def aiq:List Int:=[0,1,56,2,57,49,28,3,61,58,42,50,38,29,17,4,62,47,59,36,45,43,51,22,53,39,33,30,24,18,12,5,63,55,48,27,60,41,37,16,46,35,44,21,52,32,23,11,54,26,40,15,34,20,31,10,25,14,19,9,13,8,7,6]
def O7(k:Lq)(l:List Int):Obj->Obj
 | Mi _ t frozen=>Mi (l.map (tb k)).toArray t frozen
 |o=>o
noncomputable def kC(os:Os):World:=
 { World.holding prog os ⟨#[],#[],[]⟩ with heap:=(((World.holding prog os ⟨#[],#[],[]⟩).heap.modify 0 (O7 MJ aeK)).modify 1 (O7 MM aip)).modify 2 (O7 MM aiq) }
theorem V5(os:Os)(args:Array J3):laidMet prog Rows.contractRoundsRow.laid ((kC os).forCall (λ_ _=>0) ⟨#[],args,[]⟩).memory:=
 laidMet_of_run' 8 ah ah
theorem anZ{a b:Bool}(h:a=Jd)(k:b=Jd):(a && b)=true:=by rw[h,k];rfl
instance:Coe Nat Value:=⟨λn=>Kx Mm (n:Int)⟩
instance:Coe Int Value:=⟨λn=>Kx Mm n⟩
instance:Coe UInt32 Value:=⟨λn=>Kx Mo (n.toNat:Int)⟩
instance:Coe UInt64 Value:=⟨λn=>Kx MJ (n.toNat:Int)⟩
instance:Coe UInt8 Value:=⟨λn=>Kx MM (n.toNat:Int)⟩
instance:Coe Nat Addr:=⟨λb=>⟨b,0,KK⟩⟩
instance:Coe J3 Ending:=⟨Mk⟩
open Go.ChangeMaps (setBlock map_eraseIdx modify_eq_set heap_setBlock_same heap_setBlock_other)
section
variable {κ:Type} [DecidableEq κ]
def aI(m:List (κ×υ))(k:κ):Option υ:=(m.find? (λp=>p.1=k)).map (·.2)
def tH(m:List (κ×υ))(k:κ):Bool:=(aI m k).isSome
def b9(m:List (κ×υ))(k:κ):List (κ×υ):=m.filter λp=>p.1≠k
def aX(m:List (κ×υ))(k:κ)(v:υ):List (κ×υ):=(k,v)::b9 m k
theorem lT{m:List (κ×υ)}{k:κ}:aI m k=KK ↔ ∀p∈m,p.1≠k:=by grind [aI,Option.map_eq_none_iff]
theorem fy{m:List (κ×υ)}{k:κ}{v:υ}(h:aI m k=IT v):(k,v)∈m:=by grind [aI,Option.map_eq_some_iff]
theorem kD{m:List (κ×υ)}(b:(m.map (·.1)).Nodup){k:κ}{v:υ}(a:(k,v)∈m):aI m k=IT v:=by
 induction m with
 |nil=>cases a
 |cons q m c=>grind [aI]
theorem S0{m m':List (κ×υ)}(a:(m.map (·.1)).Nodup)(b:m.Perm m')(k:κ):aI m k=aI m' k:=by grind [lT,kD,fy]
theorem Ac{m m':List (κ×υ)}(a:m.Perm m')(k:κ):(b9 m k).Perm (b9 m' k):=a.filter _
theorem He{m m':List (κ×υ)}(a:m.Perm m')(k:κ)(v:υ):(aX m k v).Perm (aX m' k v):=(Ac a k).cons _
theorem rq{m:List (κ×υ)}{k:κ}(h:∀p∈m,p.1≠k):b9 m k=m:=Hm.2 M2
theorem Ad{m:List (κ×υ)}{k:κ}(a:(m.map (·.1)).Nodup):((b9 m k).map (·.1)).Nodup:=(List.filter_sublist.map _).nodup a
theorem cK{m:List (κ×υ)}{k:κ}{v:υ}(a:(m.map (·.1)).Nodup):((aX m k v).map (·.1)).Nodup:=by grind [aX,b9]
theorem cV(m:List (κ×υ))(k a:κ):aI (b9 m k) a=if a=k then KK else aI m a:=by grind [aI,b9]
theorem aC(m:List (κ×υ))(k:κ)(v:υ)(a:κ):aI (aX m k v) a=if a=k then IT v else aI m a:=by
 by_cases h:a=k
 .grind [aX,aI]
 .rw[if_neg h];have:=cV m k a;grind [aI,aX]
theorem jk{m:List (κ×υ)}{k:κ}{p:κ×υ}:p∈b9 m k↔p∈m/\p.1≠k:=by simp[b9]
theorem set_perm{m:List (κ×υ)}(a:(m.map (·.1)).Nodup){j:Nat}{p:κ×υ}(b:m[j]? = IT p)(v:υ):(m.set j (p.1,v)).Perm (aX m p.1 v):=by
 induction m generalizing j with
 |nil=>grind
 |cons q m d=>
   simp only[oj,GB]at a;cases j with
   |zero=>grind [b9,rq,aX,List.Perm.refl]
   |succ j=>simp only[List.getElem?_cons_succ]at b;have c:q.1≠p.1:=(M2);have:=d a.2 b;unfold aX b9 at this ⊢;rw[List.filter_cons_of_pos M2,List.set_cons_succ];exact(this.cons q).trans (List.Perm.swap _ _ _)
omit [DecidableEq κ] in
theorem F8{l:List α}{j:Nat}{x:α}(h:l[j]? = IT x):l.Perm (x::l.eraseIdx j):=by
 induction l generalizing j with
 |nil=>grind
 |cons q m a=>
   cases j with
   |zero=>simp_all
   |succ j=>simp only[List.getElem?_cons_succ]at h;rw[List.eraseIdx_cons_succ];exact((a h).cons q).trans (List.Perm.swap _ _ _)
theorem Ae(f:α->β)(p:α->Bool){l:List α}(a:(l.map f).Nodup){j:Nat}{x:α}(b:l[j]? = IT x)(c:∀y∈l,p y=Jd↔f y≠f x):l.eraseIdx j=l.filter p:=by
 induction l generalizing j with
 |nil=>rfl
 |cons q m d=>
   simp only[oj,GB]at a;cases j with
   |zero=>grind [Hm]
   |succ j=>grind
theorem erase_eq{m:List (κ×υ)}(a:(m.map (·.1)).Nodup){j:Nat}{p:κ×υ}(b:m[j]? = IT p):m.eraseIdx j=b9 m p.1:=
 Ae (·.1) _ a b M2
end
section
variable {κ:Type} (P:Program) (i:TypeId) (g:κ->J3) (n:υ->J3)
def Good(P:Program)(k:TypeId)(v:J3):Prop:=∃l,keyOf P k v=IT l
def S1(es:Array MapEntry)(a:Nat)(m:List (κ×υ)):Prop:=
 Stamped es a/\es.toList.map (λe=>(e.key,e.val))=m.map (λp=>(g p.1,n p.2))/\∀p∈m,Good P i (g p.1)
def cj(w:KX)(b:Nat)(m:List (κ×υ)):Prop:=
 ∃es q l,w.heap[b]? = IT (.map es q)/\l.Perm m/\S1 P i g n es q l
def cL(w:KX)(b r:Nat)(m d:List (κ×υ)):Prop:=
 ∃(es:Array MapEntry)(q:Nat)(l:List (κ×υ))(a:Nat)(c:Array Nat)(f:Nat)(t:List (κ×υ)),w.heap[b]? = IT (.map es q)/\l.Perm m/\S1 P i g n es q l /\
  w.heap[r]? = IT (.mapIter (IT b) a c f)/\(∀x∈es.toList,x.born<a)/\a<=f/\a<=q /\
  (leftOf es c).toList.map (λe=>(e.key,e.val))=t.map (λp=>(g p.1,n p.2))/\t.Perm d/\t.Sublist l
variable {P i g n}
variable {w w':KX}{b r:Nat}{m s:List (κ×υ)}{es:Array MapEntry}{q:Nat}
theorem cj.lt(h:cj P i g n w b m):b<w.heap.size:=by obtain⟨es,q,l,a,_⟩:=h;grind
theorem cj.kept(h:cj P i g n w b m)(a:w'.heap[b]? = w.heap[b]?):cj P i g n w' b m:=by obtain⟨es,q,l,d,c⟩:=h;exact⟨es,q,l,a.trans d,c⟩
theorem cj.perm{m':List (κ×υ)}(h:cj P i g n w b m)(c:m.Perm m'):cj P i g n w b m':=by obtain⟨es,q,l,e,d,a⟩:=h;exact⟨es,q,l,e,d.trans c,a⟩
theorem cL.map(h:cL P i g n w b r m s):cj P i g n w b m:=by obtain⟨es,q,l,a,c,j,t,e,f,d,_⟩:=h;exact⟨es,q,l,e,f,d⟩
theorem cL.lt(h:cL P i g n w b r m s):r<w.heap.size:=by obtain⟨es,q,l,a,c,k,t,f,j,d,e,_⟩:=h;grind
theorem cL.ne(h:cL P i g n w b r m s):r≠b:=by obtain⟨es,q,l,a,c,k,t,f,j,d,e,_⟩:=h;grind
theorem cL.kept(h:cL P i g n w b r m s)(p:w'.heap[b]? = w.heap[b]?)(o:w'.heap[r]? = w.heap[r]?):cL P i g n w' b r m s:=by obtain⟨es,q,l,a,c,u,t,j,k,d,e,f⟩:=h;exact⟨es,q,l,a,c,u,t,p.trans j,k,d,o.trans e,f⟩
theorem cL.left(h:cL P i g n w b r m s):w.rangeLeft b r=s.length:=by obtain⟨es,q,l,a,c,p,t,k,o,d,e,_,_,_,j,f,_⟩:=h;grind [World.rangeLeft,dj,List.Perm.length_eq]
theorem cj.made(w:KX)(P:Program)(a:TypeId)(b:κ->J3)(c:υ->J3):cj P a b c (w.alloc (.map #[] 0)) w.heap.size []:=
 ⟨#[],0,[],Lw _ _,.refl _,⟨ai,ai,ai⟩,rfl,ai⟩
theorem Hf(h:es.toList.map (λe=>(e.key,e.val))=m.map (λp=>(g p.1,n p.2)))(j:Nat) :
 (es.toList[j]?).map (λe=>(e.key,e.val))=(m[j]?).map (λp=>(g p.1,n p.2)):=by rw[<- j1,<- j1,h]
theorem pJ(h:es.toList.map (λe=>(e.key,e.val))=m.map (λp=>(g p.1,n p.2))){j:Nat}{e:MapEntry}(a:es.toList[j]? = IT e) :
 ∃p,m[j]? = IT p/\e.key=g p.1/\e.val=n p.2:=by have:=Hf h j;grind
theorem O8(h:es.toList.map (λe=>(e.key,e.val))=m.map (λp=>(g p.1,n p.2))){j:Nat}{p:κ×υ}(a:m[j]? = IT p) :
 ∃e,es.toList[j]? = IT e/\e.key=g p.1/\e.val=n p.2:=by have:=Hf h j;grind
theorem S1.good(h:S1 P i g n es q m):∀e∈es.toList,∃l,keyOf P i e.key=IT l:=by intro e c;obtain⟨j,b⟩:=hY.1 c;obtain⟨p,d,a,_⟩:=pJ h.2.1 b;rw[a];exact h.2.2 p M2
theorem S1.keys(h:S1 P i g n es q m):(m.map (·.1)).Nodup:=by
 have b:es.toList.map (·.key)=m.map (λp=>g p.1):=by have:=congrArg (List.map Prod.fst) h.2.1;grind [Function.comp_def]
 have a:=h.1.2.2;grind
theorem cj.keys(h:cj P i g n w b m):(m.map (·.1)).Nodup:=by obtain⟨es,q,l,_,a,c⟩:=h;grind [S1.keys]
theorem cL.sub(h:cL P i g n w b r m s):∀p∈s,p∈m:=by obtain⟨es,q,l,a,c,k,t,_,e,f,_,_,_,_,_,d,j⟩:=h;grind
theorem cL.keys(h:cL P i g n w b r m s):(s.map (·.1)).Nodup:=by obtain⟨es,q,l,a,c,j,t,_,_,e,_,_,_,_,_,d,f⟩:=h;grind [S1.keys]
theorem cj.good(h:cj P i g n w b m):∀p∈m,Good P i (g p.1):=by obtain⟨es,q,l,_,c,a⟩:=h;exact λp d=>a.2.2 p M2
variable [DecidableEq κ]
theorem S1.find(h:S1 P i g n es q m)(K:Keyed P i)(x:∀a b,g a=g b->a=b)(w:KX)(k:κ)(r:Good P i (g k)) :
 (aI m k=KK/\(Instr.findKey i (g k) es.toList).run P w=.ok KK w/\∀e∈es.toList,e.key≠g k) \/
 ∃j e v,aI m k=IT v/\(Instr.findKey i (g k) es.toList).run P w=.ok (IT (j,n v)) w/\es.toList[j]? = IT e/\e.key=g k/\m[j]? = IT (k,v):=by
 obtain⟨l,t⟩:=r;rcases K.find w t es.toList h.good with⟨d,c⟩|⟨j,s,d,c,z⟩
 .refine Or.inl ⟨?_,d,c⟩;refine lT.2 λp y e=>?_;obtain⟨j,f⟩:=hY.1 y;obtain⟨s,A,u,_⟩:=O8 h.2.1 f;grind
 .obtain⟨p,o,u,B⟩:=pJ h.2.1 c;grind [kD,keys]
theorem cj.lookup{t e:TypeId}(h:cj P i g n w b m)(K:Keyed P i)(p:∀a b,g a=g b->a=b)(x:P.underlying t=IT (.map i e))(A:(zeroValue e).run P w=.ok z w)(k:κ)(r:Good P i (g k))(c:Bool) :
 (Instr.lookup t (.map (IT b)) (g k) c).run P w=.ok (if c then Ly #[((aI m k).map n).getD z,.bool (tH m k)] else ((aI m k).map n).getD z) w:=by
 obtain⟨es,q,l,u,B,s⟩:=h;unfold tH;rw[<- S0 s.keys B k];obtain⟨F,d⟩:=id r;rcases s.find K p w k r with⟨f,o,y⟩|⟨j,E,v,f,o,y,C,D⟩
 .rw[f];simp[Instr.lookup,run_underlying x,MapKept.run_getObj_map u,K.check w _ d,o,A,Result.andThen]
 .rw[f];simp[Instr.lookup,run_underlying x,MapKept.run_getObj_map u,K.check w _ d,o,Result.andThen]
theorem cj.update{t e:TypeId}(h:cj P i g n w b m)(K:Keyed P i)(u:∀a b,g a=g b->a=b)(F:P.underlying t=IT (.map i e))(k:κ)(C:Good P i (g k))(v:υ) :
 ∃s c,(Instr.mapUpdate t (.map (IT b)) (g k) (n v)).run P w=.ok () (setBlock w b (.map s c))/\cj P i g n (setBlock w b (.map s c)) b (aX m k v):=by
 obtain⟨es,q,l,r,G,f⟩:=h;obtain⟨M,o⟩:=id C;rcases f.find K u w k C with⟨B,y,E⟩|⟨j,D,v0,B,y,E,H,I⟩
 .refine⟨es.push ⟨g k,n v,q⟩,q+1,?_,_,_,l++[(k,v)],heap_setBlock_same r _,?_,stamped_push f.1 E,?_,?_⟩
  .simp[Instr.mapUpdate,run_underlying F,MapKept.run_getObj_map r,K.check w J0 o,y,MapKept.run_setObj_map _ r,Result.andThen,setBlock]
  .refine(List.perm_append_singleton _ _).trans (List.Perm.trans ?_ (He G k v));unfold aX;rw[rq (lT.1 B)]
  .rw[Array.toList_push,k8,k8,f.2.1];rfl
  .intro p A;rcases hS.1 A with h | h
   .exact f.2.2 p h
   grind
 .have J:es[j]? = IT D:=M2;have x:(es.modify j (λd=>{ d with key:=g k,val:=n v })).toList=es.toList.set j { D with key:=g k,val:=n v }:=by grind [modify_eq_set]
  have z:Stamped (es.modify j (λd=>{ d with key:=g k,val:=n v })) q:=by
   have L:es.modify j (λd=>{ d with key:=g k,val:=n v })=es.modify j (λd=>{ d with val:=n v }):=M2;rw[L];exact stamped_modify f.1 j _ (λ_ _=>rfl) (λ_ _ _=>rfl)
  refine⟨es.modify j (λd=>{ d with key:=g k,val:=n v }),q,?_,_,_,l.set j (k,v),heap_setBlock_same r _,?_,z,?_,?_⟩
  .simp[Instr.mapUpdate,run_underlying F,MapKept.run_getObj_map r,K.check w J0 o,y,J,H,K.stays w o,MapKept.run_setObj_map _ r,Result.andThen,setBlock]
  .exact(set_perm f.keys I v).trans (He G k v)
  .rw[x,List.map_set,List.map_set,f.2.1]
  .intro p A;rcases EL A with h | h
   .exact f.2.2 p h
   grind
theorem S1.drop{t e ty:TypeId}(h:w.heap[b]? = IT (.map es q))(d:S1 P i g n es q m)(K:Keyed P i)(o:∀a b,g a=g b->a=b)(x:P.underlying t=IT (.map i e))(k:κ)(u:Good P i (g k)) :
 ∃c,(Builtin.delete_ #[t,i] ty #[.map (IT b),g k]).run P w=.ok (Ly #[]) (setBlock w b (.map c q))/\S1 P i g n c q (b9 m k)/\(∀p:MapEntry->Bool,(∀e∈es.toList,p e=Jd↔e.key≠g k)->c.toList=es.toList.filter p):=by
 obtain⟨D,f⟩:=id u;rcases d.find K o w k u with⟨z,l,r⟩|⟨j,C,v0,z,l,r,A,y⟩
 .refine⟨es,?_,?_,?_⟩
  .simp[Builtin.delete_,run_underlying x,MapKept.run_getObj_map h,K.check w _ f,l,MapKept.run_setObj_map _ h,Result.andThen,setBlock]
  .grind [rq,lT]
  grind [Hm]
 .have B:j<es.toList.length:=(M2);have s:(es.eraseIdxIfInBounds j).toList=es.toList.eraseIdx j:=ai;refine⟨es.eraseIdxIfInBounds j,?_,⟨stamped_erase d.1 j,?_,?_⟩,?_⟩
  .simp[Builtin.delete_,run_underlying x,MapKept.run_getObj_map h,K.check w _ f,l,MapKept.run_setObj_map _ h,Result.andThen,setBlock]
  .rw[s,<- erase_eq d.keys y,map_eraseIdx,map_eraseIdx,d.2.1]
  .intro p v;exact d.2.2 p (jk.1 v).1
  .intro p v;rw[s];exact Ae (·.key) p d.1.2.2 r M2
theorem cj.delete{t e ty:TypeId}(h:cj P i g n w b m)(K:Keyed P i)(f:∀a b,g a=g b->a=b)(v:P.underlying t=IT (.map i e))(k:κ)(p:Good P i (g k)) :
 ∃d c,(Builtin.delete_ #[t,i] ty #[.map (IT b),g k]).run P w=.ok (Ly #[]) (setBlock w b (.map d c))/\cj P i g n (setBlock w b (.map d c)) b (b9 m k):=by obtain⟨es,q,l,j,r,u⟩:=h;obtain⟨d,o,s,_⟩:=u.drop (ty:=ty) j K f v k p;exact⟨d,q,o,d,q,b9 l k,heap_setBlock_same j _,Ac r k,s⟩
omit [DecidableEq κ] in
theorem cj.range{t e:TypeId}(h:cj P i g n w b m)(j:P.underlying t=IT (.map i e)) :
 ∃o,(Instr.range t (.map (IT b))).run P w=.ok (.pointer w.heap.size) (w.alloc o)/\cL P i g n (w.alloc o) b w.heap.size m m:=by have c:=h.lt;obtain⟨es,q,l,f,d,a⟩:=h;refine⟨_,run_range_map w t i e b es q j f,es,q,l,q,#[],q,l,((MapKept.heap_alloc w _).2 b c).trans f,d,a,(MapKept.heap_alloc w _).1,a.1.1,cg _,cg _,?_,d,M2⟩;have:leftOf es #[]=es:=Array.filter_eq_self.2 (λ_ _=>ai);rw[this];exact a.2.1
omit [DecidableEq κ] in
theorem ru(es:Array MapEntry)(a:Array Nat):(leftOf es a).toList=es.toList.filter (λe=>!a.contains e.born):=by grind [leftOf]
omit [DecidableEq κ] in
theorem cL.next(h:cL P i g n w b r m s)(ty:TypeId) :
 (s=[]/\(Instr.next (.pointer r) J0 ty).run P w=.ok (Ly #[.bool J0]) w) \/
 ∃p rest d o,s.Perm (p::rest)/\(d=w\/d=w.drew)/\(Instr.next (.pointer r) J0 ty).run P w=.ok (Ly #[.bool Jd,g p.1,n p.2]) (setBlock d r o) /\
  cL P i g n (setBlock d r o) b r m rest/\(Instr.entry (.pointer r)).run P (setBlock d r o)=.ok (Ly #[g p.1,n p.2]) (setBlock d r o):=by
 have H:=h.ne;obtain⟨es,q,l,a,c,O,t,S,W,B,M,k,D,y,Q,J,z⟩:=h;rcases run_next_at (P:=P) w ty r b a O c es q M S k D with⟨X,f⟩|⟨e,R,d,K,f⟩
 .simp_all
 .obtain⟨F,T⟩:=mem_left R;obtain⟨j,I⟩:=hY.1 R;obtain⟨p,E,N,L⟩:=pJ Q I;have A:d.heap[r]? = IT (.mapIter (IT b) a c O):=by rcases K with rfl | rfl<;>exact M
  have C:d.heap[b]? = IT (.map es q):=by rcases K with rfl | rfl<;>exact S
  have G:=heap_set (o':=.mapIter (IT b) a (c.push e.born) q) A;have u:(setBlock d r (.mapIter (IT b) a (c.push e.born) q)).heap[b]? = IT (.map es q):=(G.2 b (λV=>H V.symm)).trans C;rw[N,L]at f;have v:=run_entry_at (P:=P) _ r b a c es q e G.1 u F ((stamped_iff es q).1 B.1).2.1;rw[N,L]at v;refine Or.inr ⟨p,t.eraseIdx j,d,_,?_,K,f,⟨es,q,l,a,c.push e.born,q,t.eraseIdx j,u,W,B,G.1,k,y,y,?_,List.Perm.refl _,(List.eraseIdx_sublist _ _).trans z⟩,v⟩
  .exact J.symm.trans (F8 E)
  .rw[map_eraseIdx,<- Q,<- map_eraseIdx];congr 1;rw[ru]at I ⊢;have U:((es.toList.filter (λe=>!c.contains e.born)).map (·.born)).Nodup:=(List.filter_sublist.map _).nodup ((stamped_iff es q).1 B.1).2.1;rw[ru,Ae (·.born) (λx=>x.born≠e.born) U I M2,Iv];grind
theorem cL.delete{t e ty:TypeId}(h:cL P i g n w b r m s)(K:Keyed P i)(v:∀a b,g a=g b->a=b)(N:P.underlying t=IT (.map i e))(k:κ)(H:Good P i (g k))(X:∀p∈s,p.1≠k) :
 ∃f c,(Builtin.delete_ #[t,i] ty #[.map (IT b),g k]).run P w=.ok (Ly #[]) (setBlock w b (.map f c))/\cL P i g n (setBlock w b (.map f c)) b r (b9 m k) s:=by
 have A:=h.ne;obtain⟨es,q,l,o,d,U,t,C,T,I,S,D,y,z,E,B,u⟩:=h;obtain⟨f,G,R,J⟩:=I.drop (ty:=ty) C K v N k H;classical
 have F:=J (λe=>e.key≠g k) (λe _=>ai);refine⟨f,q,G,f,q,b9 l k,o,d,U,t,heap_setBlock_same C _,Ac T k,R,(heap_setBlock_other C _ A).trans S,?_,y,z,?_,B,?_⟩
 .grind
 .rw[ru,F,Iv,<- E,ru];congr 1;apply List.filter_congr;intro x Y;cases V:d.contains x.born with
  |true=>simp
  |false=>
    simp only[Bool.not_false,Bool.true_and,decide_eq_true_eq];intro M;have O:x∈(leftOf es d).toList:=by grind [ru]
    obtain⟨j,Q⟩:=hY.1 O;obtain⟨p,L,W,_⟩:=pJ E Q;grind
 .have:b9 t k=t:=rq M2;rw[<- this];exact u.filter _
end
section
variable {κ:Type} [DecidableEq κ]{P:Program}{i:TypeId}{g:κ->J3}{n:υ->J3}
variable (w:KX){ops:Array Oper}{rest:List Oper}{o:Oper}{a:Act}
theorem cy(q:o.guard=KK)(m x:Operand)(t:TypeId)(c:Bool)(f:o.op=Op.lookup t m x c)(e:TypeId)(K:Keyed P i)(j:∀a b,g a=g b->a=b)(u:P.underlying t=IT (.map i e))(p:(zeroValue e).run P w=.ok z w)(b:Nat)(M:List (κ×υ))(v:a.eval m=.map (IT b))(h:cj P i g n w b M)(k:κ)(s:a.eval x=g k)(r:Good P i (g k))(hK:wpList P ops Q rest (a.put o.dst (if c then Ly #[((aI M k).map n).getD z,.bool (tH M k)] else ((aI M k).map n).getD z)) w) :
 wpList P ops Q (o::rest) a w:=by refine wpList_plain q λy l=>?_;have d:=h.lookup K j u p k r c;unfold Oper.wp;simp only[execOp,f,v,s,Sem.run_bind,d,Result.andThen];exact l _ _ hK
theorem fL(r:o.guard=KK)(m x v:Operand)(t:TypeId)(j:o.op=Op.mapUpdate t m x v)(e:TypeId)(K:Keyed P i)(l:∀a b,g a=g b->a=b)(A:P.underlying t=IT (.map i e))(b:Nat)(M:List (κ×υ))(C:a.eval m=.map (IT b))(h:cj P i g n w b M)(k:κ)(u:υ)(y:a.eval x=g k)(B:a.eval v=n u)(s:Good P i (g k))(hK:∀es c,cj P i g n (setBlock w b (.map es c)) b (aX M k u)->wpList P ops Q rest (a.put o.dst undef) (setBlock w b (.map es c))) :
 wpList P ops Q (o::rest) a w:=by refine wpList_plain r λD p=>?_;obtain⟨q,f,d,z⟩:=h.update K l A k s u;unfold Oper.wp;simp only[execOp,j,C,y,B,Sem.run_bind,d,Result.andThen];exact p _ _ (hK _ _ z)
theorem xy(r:o.guard=KK)(m x:Operand)(t:TypeId)(j:o.op=Op.call { callee:=Callee.builtin Builtin.delete,args:=#[m,x],argTypes:=#[t,i] })(e:TypeId)(K:Keyed P i)(l:∀a b,g a=g b->a=b)(y:P.underlying t=IT (.map i e))(b:Nat)(M:List (κ×υ))(z:a.eval m=.map (IT b))(h:cj P i g n w b M)(k:κ)(u:a.eval x=g k)(s:Good P i (g k))(hK:∀es c,cj P i g n (setBlock w b (.map es c)) b (b9 M k)->wpList P ops Q rest (a.put o.dst (Ly #[])) (setBlock w b (.map es c))) :
 wpList P ops Q (o::rest) a w:=by refine wpList_plain r λA p=>?_;obtain⟨q,f,d,v⟩:=h.delete (ty:=o.type) K l y k s;unfold Oper.wp;simp[execOp,j,resolve,invoke,builtin,z,u,d,Result.andThen];exact p _ _ (hK _ _ v)
theorem Dd(v:o.guard=KK)(m x:Operand)(t:TypeId)(l:o.op=Op.call { callee:=Callee.builtin Builtin.delete,args:=#[m,x],argTypes:=#[t,i] })(e:TypeId)(K:Keyed P i)(q:∀a b,g a=g b->a=b)(C:P.underlying t=IT (.map i e))(b r:Nat)(M d:List (κ×υ))(D:a.eval m=.map (IT b))(h:cL P i g n w b r M d)(k:κ)(z:a.eval x=g k)(y:Good P i (g k))(B:∀p∈d,p.1≠k)(hK:∀es c,cL P i g n (setBlock w b (.map es c)) b r (b9 M k) d->wpList P ops Q rest (a.put o.dst (Ly #[])) (setBlock w b (.map es c))) :
 wpList P ops Q (o::rest) a w:=by refine wpList_plain v λE s=>?_;obtain⟨u,j,f,A⟩:=h.delete (ty:=o.type) K q C k y B;unfold Oper.wp;simp[execOp,l,resolve,invoke,builtin,D,z,f,Result.andThen];exact s _ _ (hK _ _ A)
omit [DecidableEq κ] in
theorem lU(k:o.guard=KK)(m:Operand)(t:TypeId)(d:o.op=Op.range t m)(e:TypeId)(p:P.underlying t=IT (.map i e))(b:Nat)(M:List (κ×υ))(q:a.eval m=.map (IT b))(h:cj P i g n w b M)(hK:∀f,cL P i g n (w.alloc f) b w.heap.size M M->wpList P ops Q rest (a.put o.dst (.pointer w.heap.size)) (w.alloc f)) :
 wpList P ops Q (o::rest) a w:=by refine wpList_plain k λr j=>?_;obtain⟨f,c,l⟩:=h.range p;unfold Oper.wp;simp only[execOp,d,q,Sem.run_bind,c,Result.andThen];exact j _ _ (hK _ l)
omit [DecidableEq κ] in
theorem lV(u:o.guard=KK)(t:Operand)(l:o.op=Op.next t J0)(b r:Nat)(M d:List (κ×υ))(m:a.eval t=.pointer r)(h:cL P i g n w b r M d)(j:d=[]->wpList P ops Q rest (a.put o.dst (Ly #[.bool J0])) w)(f:∀p rs e k,d.Perm (p::rs)->(e=w\/e=w.drew)->cL P i g n (setBlock e r k) b r M rs ->
   (Instr.entry (.pointer r)).run P (setBlock e r k)=.ok (Ly #[g p.1,n p.2]) (setBlock e r k)->wpList P ops Q rest (a.put o.dst (Ly #[.bool Jd,g p.1,n p.2])) (setBlock e r k)) :
 wpList P ops Q (o::rest) a w:=by
 refine wpList_plain u λz q=>?_;unfold Oper.wp;rcases h.next o.type with⟨v,c⟩|⟨p,rs,e,k,y,x,c,hi,s⟩
 .simp only[execOp,l,m,Sem.run_bind,c,Result.andThen];exact q _ _ (j v)
 .simp only[execOp,l,m,Sem.run_bind,c,Result.andThen];exact q _ _ (f p rs e k y x hi s)
end
section
variable {P:Program}{ops:Array Oper}{md:Region.Mode}{C:KX->Prop}
def kU(P:Program)(md:Region.Mode)(ops:Array Oper)(C:KX->Prop)(n:Nat)(L:Array Bool->Act->Prop):Nat->Array Bool->Act->Prop
 |0,listed,a=>L listed a
 |f+1,listed,a=>Region.ready md ops listed≠[]/\∀i∈Region.ready md ops listed,i<n/\qOp P ops C i (kU P md ops C n L f (listed.setIfInBounds i Jd)) a
theorem tS{n g:Nat}{L:Array Bool->Act->Prop}{Q':Exit->Act->KX->Prop}(l:∀b a w,C w->L b a->wpAny P md ops Q' g b a w)(f:Nat) :
 ∀(b:Array Bool)(a:Act)(w:KX),C w->kU P md ops C n L f b a->wpAny P md ops Q' (f+g) b a w:=by
 induction f with
 |zero=>intro b a w c h;rw[j0];exact l _ _ _ c h
 |succ f k=>intro b a w c h;rw[show f+1+g=(f+g)+1 by omega];exact⟨λj=>absurd j h.1,λi hi=>wpOp_of_qOp c (λm w' d e=>k _ m w' d e) (h.2 i hi).2⟩
theorem Ga{n i:Nat}{v:J3}{L:Array Bool->Act->Prop}(hi:ops[i]? = IT p)(M:∀(j:Nat)(o:Oper)F b,ops[j]? = IT o->o.op≠.select F b)(B:Region.sinkB md ops n=Jd)(x:Region.chainB md ops n=Jd)(z:n<ops.size)(A:i<n)(g:∀c a,L c a->∀j∈Region.ready md ops c,n<=j)(f:Nat) :
 ∀(c:Array Bool)(a:Act),HeadInv md ops n c ->
  (∀j m,ops[j]? = IT m->j≠i->c.getD j Jd=J0->(∀e∈m.after,Region.binds md e=Jd->e.on≠i)->p.apart ops m=Jd) ->
  i∈Region.ready md ops c->YieldsIn P ops C p v a ->
  kU P md ops C n L f (c.setIfInBounds i Jd) (a.put p.dst v)->kU P md ops C n L (f+1) c a:=by
 induction f with
 |zero=>
   intro c a d _ s y H;have q:=(mem_ready.1 s).1;refine⟨M2,λj l=>?_⟩;have t:j<n:=by
    rcases lb j n with h | h
    .exact h
    .exact absurd l (tail_waits B x z d _ i rfl A q j h)
   refine⟨t,?_⟩;by_cases r:j=i
   .grind [YieldsIn.qOp]
   .have:=g _ _ H j (ready_mono l r);omega
 |succ f ih=>
   intro c a d I s y H;have q:=(mem_ready.1 s).1;refine⟨M2,λj l=>?_⟩;have t:j<n:=by
    rcases lb j n with h | h
    .exact h
    .exact absurd l (tail_waits B x z d _ i rfl A q j h)
   refine⟨t,?_⟩;by_cases r:j=i
   .grind [YieldsIn.qOp]
   .have D:=(H.2 j (ready_mono l r)).2;obtain⟨Q,m,E,w⟩:=mem_ready.1 l;have O:=qOp_put E M2 M2 M2 y D;have N:∀k ok,ops[k]? = IT ok->k≠i->(c.setIfInBounds j Jd).getD k Jd=J0 ->
     (∀e∈ok.after,Region.binds md e=Jd->e.on≠i)->p.apart ops ok=true:=λk ok J K q u=>by
     refine I k ok J K ?_ u;by_cases G:j=k
     .grind
     simp_all
    grind [qOp_mono,HeadInv.set,ready_mono,FF]
theorem Lm{n g:Nat}(y:Region.noSelect ops=Jd)(E:Region.sinkB md ops n=Jd)(w:Region.chainB md ops n=Jd)(z:n<ops.size)(l:List Oper) :
 ∀(k:Nat)(b:Array Bool)(a:Act),(∀j,j<l.length->l[j]? = ops[k+j]?)->k+l.length=n->HeadInv md ops n b ->
 Region.lexHead md ops g l.length k b=Jd->wpQuiet P ops C t l a ->
 kU P md ops C n (λc s=>Region.seqB md ops g n c=Jd/\t s) l.length b a:=by
 induction l with
 |nil=>
   intro k b a _ A _ i h;have:k=n:=af;subst this;exact⟨Nd,h⟩
 |cons o l B=>
   intro k b a p A d i h;have e:=by simpa using (p 0 ai).symm
   simp only[it,Region.lexHead,j4]at i;obtain⟨⟨G,u⟩,f⟩:=i;have r:k<n:=M2;have q:k∈Region.ready md ops b:=M2;have m:qOp P ops C k (wpQuiet P ops C t l) a:=by unfold qOp;simp only[e];exact h
   obtain⟨v,x,hK⟩:=yieldsIn_of_qOp e m;exact Ga e (Region.noSelect_spec y) E w z r (λc s D=>seqB_ready D.1) l.length b a d (Region.free_spec e u) q x
    (B (k+1) _ _ (λj F=>by have:=p (j+1) M2;grind) M2 (d.set q r) f hK)
theorem cm(C:KX->Prop){i:Nat}{a:Act}{w:KX}{l:List Oper}(n:Nat)(m:P.follows .mixedOrders=Jd)(e:Region.lexTailB .any l.toArray n=Jd)(v:C w.drew)(h:wpQuiet P l.toArray C (λd=>∀w',C w'->wpList P l.toArray Q (l.drop n) d w') (l.take n) a):(Code.region i l.toArray Jd).wp P Q a w:=by
 simp only[Region.lexTailB,j4,decide_eq_true_eq]at e;obtain⟨⟨⟨⟨p,q⟩,u⟩,k⟩,o⟩:=e;have t:n<l.length:=af;have r:(l.take n).length=n:=M2;have z:(l.drop n).length=l.toArray.size-n:=ai;have f:HeadInv .any l.toArray n (xj l.toArray.size J0):=
  ⟨ai,λj x _ y=>(by grind [getD_replicate_false]),Nc⟩
 have H:=Lm (md:=.any) (C:=C) (g:=l.toArray.size-n) p u k q (l.take n) 0 _ a M2 af f M2 h;refine wp_region_any m ?_;have:=tS (Q':=Q) (g:=l.toArray.size-n) (λb d w' c s=>by have:=wpAny_of_seq (md:=.any) (Q':=Q) (l.drop n) n b d w' M2 M2 (s.2 w' c);grind) _ _ _ _ v H
 rw[r,show n+(l.toArray.size-n)=l.toArray.size by omega]at this;exact this
theorem dx(C:KX->Prop){c:Nat}{a:Act}{w:KX}{l:List Oper}(f:P.follows .mixedOrders=Jd)(b:Region.lexB .any l.toArray=Jd)(e:C w.drew)(h:wpQuiet P l.toArray C (λd=>∀w',C w'->Q .normal d w') l a):(Code.region c l.toArray Jd).wp P Q a w:=
 wp_region_quiet f b e (by simpa using h)
theorem q_op{Q:Act->Prop}{a:Act}{o:Oper}{rest:List Oper}{v:J3}(c:Region.wanted o (yielded ops a.tmps)=Jd)(h:∀w,C w->(execOp a.eval o).run P w=.ok (.value v) w)(b:∀K:Act->Prop,(∀a,wpQuiet P ops C Q rest a->K a)->K (a.put o.dst v)):wpQuiet P ops C Q (o::rest) a:=by unfold wpQuiet;rw[if_pos c];exact⟨v,λw d=>by unfold Oper.quietAt;rw[h w d];exact⟨rfl,rfl⟩,b _ λ_ h=>h⟩
theorem xA{Q:Act->Prop}{a:Act}{o:Oper}{rest:List Oper}{v:J3}{f:FuncId}{args:Array J3}(d:Region.wanted o (yielded ops a.tmps)=Jd)(h:∀w,C w->(execOp a.eval o).run P w=.ok (.enter f args) w)(g:∀w,C w->K1 P f args w λe w'=>e=Mk v/\C w')(c:∀K:Act->Prop,(∀a,wpQuiet P ops C Q rest a->K a)->K (a.put o.dst v)):wpQuiet P ops C Q (o::rest) a:=by unfold wpQuiet;rw[if_pos d];exact⟨v,λw b=>by unfold Oper.quietAt;rw[h w b];exact⟨rfl,g w b⟩,c _ λ_ h=>h⟩
theorem qz{Q:Act->Prop}{a:Act}{o:Oper}{rest:List Oper}{v:J3}(b:wpQuiet P ops C Q rest u)(h:∀w,C w->(execOp a.eval o).run P w=.ok (.value v) w:=by intro w' c;go_simp<;>rfl)(e:a.put o.dst v=u:=by go_simp<;>rfl)(d:Region.wanted o (yielded ops a.tmps)=true:=by rfl):wpQuiet P ops C Q (o::rest) a:=q_op d h λ_ g=>g _ (e▸b)
theorem qw{Q:Act->Prop}{a:Act}{o:Oper}{rest:List Oper}{v:J3}{f:FuncId}{args:Array J3}(j:∀w,C w->K1 P f args w λe w'=>e=Mk v/\C w')(d:wpQuiet P ops C Q rest u)(h:∀w,C w->(execOp a.eval o).run P w=.ok (.enter f args) w:=by intro w' c;go_simp<;>rfl)(i:a.put o.dst v=u:=by go_simp<;>rfl)(b:Region.wanted o (yielded ops a.tmps)=true:=by rfl):wpQuiet P ops C Q (o::rest) a:=xA b h j λ_ g=>g _ (i▸d)
theorem wq(w:KX){c:Nat}{a:Act}{l:List Oper}(h:wpQuiet P l.toArray (RowKit.Below w.heap.size w) (λe=>∀w',RowKit.Below w.heap.size w w'->Q .normal e w') l a)(d:P.follows .mixedOrders=true:=by kernel_rfl)(b:Region.lexB .any l.toArray=true:=by kernel_rfl):(Code.region c l.toArray Jd).wp P Q a w:=dx _ d b (RowKit.Below.refl _ _).drew h
end
theorem se{k:Lq}{a b:Int}(h:a=b):Ending.returned (.int k a)=Mk (.int k b):=by rw[h]
@[go_sem] theorem aae(w:KX)(n:Nat)(a:Addr)(v:J3):(w.drewN n).setCell a v=(w.setCell a v).drewN n:=rfl
@[go_sem] theorem adb(w:KX)(n:Nat)(o:Obj):(w.drewN n).alloc o=(w.alloc o).drewN n:=rfl
def bv(b:UInt8):Value:=b
def le(x:Nat):Nat->List UInt8
 |0=>[]
 |k+1=>le x k++[UInt8.ofNat (x/256^k)]
theorem bL(x k:Nat):(le x k).length=k:=by
 induction k with
 |zero=>rfl
 |succ k a=>simp[le,a]
theorem Ln(x k:Nat):tb MM ((x:Int)/2^(8*k)%256)=bv (UInt8.ofNat (x/256^k)):=by grind [bv,Int.pow_mul,UInt8.toNat_ofNat']
theorem jl(b:UInt8):(bv b).oneCell'=true:=rfl
theorem aD{w:KX}{base size n:Nat}{e:TypeId}{v:J3}(h:w.ownsRow base e size v n xs):∀k,v.ownBlock=IT k->base<=k:=by
 intro k a;obtain⟨_,⟨rfl,_⟩|⟨g,cap,c,rfl,b,_⟩⟩:=h
 .cases a
 .cases a;exact b
theorem aQ{w:KX}{base a size n:Nat}{e:TypeId}{v:J3}(h:w.ownsRow base e size v n xs)(j:a<=base):w.ownsRow a e size v n xs:=by
 obtain⟨d,c⟩:=h;refine⟨d,?_⟩;rcases c with c |⟨g,cap,b,f,i,r⟩
 .grind
 .exact .inr ⟨g,cap,b,f,af,r⟩
theorem aB{w w':KX}{base size n:Nat}{e:TypeId}{v:J3}(h:w.ownsRow base e size v n xs)(k:Lg w w w'):w'.ownsRow base e size v n xs:=by
 obtain⟨c,b⟩:=h;refine⟨c,?_⟩;rcases b with b |⟨g,cap,a,i,d,j,r⟩
 .grind
 .have f:g<w.heap.size:=M2;exact .inr ⟨g,cap,a,i,d,by grind [EQ],r⟩
def Rd(w:KX)(v:J3)(bs:List UInt8):Prop:=
 ∃a cap,v=.slice a bs.length cap/\bs.length<=cap/\cap<=maxLen/\(bs.length=0\/∃b c,a=IT ⟨b,c,KK⟩/\∀j(h:j<bs.length),w.cell? ⟨b,c+j,KK⟩=IT (bv bs[j]))
theorem Rd.drewN{w:KX}{v:J3}{bs:List UInt8}(h:Rd w v bs)(n:Nat):Rd (w.drewN n) v bs:=h
theorem Rd.from{w:KX}{a:Option Addr}{n k:Nat}{bs:List UInt8}(h:Rd w (.slice a n cap) bs)(g:k<=bs.length) :
 (cap=k->Rd w (.slice a (n-k) 0) (bs.drop k))/\(Rd w (.slice (a.map (·.add k)) (n-k) (cap-k)) (bs.drop k)):=by
 obtain⟨j,d,c,f,e,i⟩:=h;simp only[Value.slice.injEq]at c;obtain⟨rfl,rfl,rfl⟩:=c;have b:(bs.drop k).length=bs.length-k:=(M2);constructor
 .rintro rfl;refine⟨a,0,by rw[b],af,ai,af⟩
 .refine⟨_,_,by rw[b],af,af,?_⟩;grind [Addr.add]
theorem Rd.to{w:KX}{a:Option Addr}{n k:Nat}{bs:List UInt8}(h:Rd w (.slice a n cap) bs)(g:k<=bs.length):Rd w (.slice a k cap) (bs.take k):=by
 obtain⟨j,d,c,e,b,i⟩:=h;simp only[Value.slice.injEq]at c;obtain⟨rfl,rfl,rfl⟩:=c;have f:(bs.take k).length=k:=M2;refine⟨a,cap,by rw[f],af,b,?_⟩;grind
theorem Rd.sub{w:KX}{a:Option Addr}{n i k:Nat}{bs:List UInt8}(h:Rd w (.slice a n cap) bs)(c:i+k<=bs.length):Rd w (.slice (a.map (·.add i)) k (cap-i)) ((bs.drop i).take k):=by have b:=(h.from (k:=i) af).2;exact b.to M2
theorem Rd.kept{w w':KX}{v:J3}{bs:List UInt8}(h:Rd w v bs)(f:∀b o x,w.cell? ⟨b,o,KK⟩=IT x->w'.cell? ⟨b,o,KK⟩=IT x):Rd w' v bs:=by obtain⟨a,cap,e,d,c,g⟩:=h;refine⟨a,cap,e,d,c,?_⟩;grind
theorem Rd.below{w w':KX}{v:J3}{bs:List UInt8}(h:Rd w v bs)(c:Lg w w w'):Rd w' v bs:=
 h.kept λb o x a=>by rw[c.cell (jK _ _ a)];exact a
theorem br(b o j:Nat):(⟨b,o,KK⟩:Addr).add j=⟨b,o+j,KK⟩:=by grind [Addr.add]
theorem Rd.news{w w':KX}{ad:Addr}{n:Nat}{bs:List UInt8}(h:Rd w (.slice (IT ad) n cap) bs)(c:∀b o x,w.cell? ⟨b,o,KK⟩=IT x->w'.cell? ⟨b,o,KK⟩=IT x) :
 ∀j u,(bs.map bv)[j]? = IT u->w'.cell? (ad.add j)=IT u:=by obtain⟨a,cap,e,_,_,d⟩:=h;grind [br]
def gw:List UInt8->Nat
 | []=>0
 |b::bs=>b.toNat+256*gw bs
theorem RJ(bs:List UInt8):gw bs<256^bs.length:=by
 induction bs with
 |nil=>simp[gw]
 |cons b bs a=>grind [UInt8.toNat_lt,gw]
theorem Hi(bs:List UInt8)(b:UInt8):gw (bs++[b])=gw bs+b.toNat*256^bs.length:=by
 induction bs with
 |nil=>simp[gw]
 |cons c bs a=>grind [gw]
theorem aaE(bs:List UInt8)(b:UInt8):gw bs ||| b.toNat*256^bs.length=gw (bs++[b]):=by have h:=Nat.shiftLeft_add_eq_or_of_lt (i:=8*bs.length) (a:=b.toNat) (b:=gw bs) (by grind [Nat.pow_mul,RJ]);grind [Nat.shiftLeft_eq,Nat.pow_mul,Hi]
theorem kV(x k:Nat):gw (le x k)=x%256^k:=by
 induction k with
 |zero=>grind [le,gw]
 |succ k c=>have h:=Nat.mod_mul (x:=x) (a:=256^k) (b:=256);grind [le,Hi,bL,UInt8.toNat_ofNat']
theorem cM(n:Int)(b:0<=n)(a:n<2^32):cf Mo n=n:=by grind [Hz]
theorem iQ(n:Int)(b:0<=n)(a:n<2^64):cf MJ n=n:=by grind [cf,IntKind.bits,IntKind.signed]
theorem gD(k:Lq)(j:Nat)(d:j<=k.bits)(h:∀n:Int,0<=n->n<2^j->k.wrap n=n)(a b:Nat)(i:a<2^j)(l:b<2^j) :
 bits .xor k a b=((a ^^^ b:Nat):Int):=by have g:2^j<=2^k.bits:=Hh ag d;have e:a%2^k.bits=a:=DQ af;have f:b%2^k.bits=b:=DQ af;have c:∀n:Nat,n<2^j->((n:Nat):Int)<2^j:=(M2);grind [bits,xp]
theorem Lr(b k:Nat)(c:b<256)(n:Nat)(a:k<n):b*256^k<256^n:=by have e:(256:Nat)^(k+1)<=256^n:=Hh ag a;have d:b*256^k<256*256^k:=Nat.mul_lt_mul_of_pos_right c M2;omega
theorem yD(bs:List UInt8)(k n:Nat)(a:k<=n):gw (bs.take k)<256^n:=
 eg (RJ _) (Hh ag M2)
theorem Hj(bs:List UInt8)(k:Nat)(a:k<bs.length):gw (bs.take k) ||| bs[k].toNat*256^k=gw (bs.take (k+1)):=by have h:=aaE (bs.take k) bs[k];grind [fh]
theorem an5(bs:List UInt8)(k:Nat)(c:k<bs.length)(a:k<4) :
 bits BinOp.or xf (gw (bs.take k)) ((bs[k].toNat:Int)%4294967296*2^(8*k)%4294967296)=(gw (bs.take (k+1)):Int):=by
 have e:bs[k].toNat<256:=bs[k].toNat_lt;have b:=Lr bs[k].toNat k e 4 a;have d:((bs[k].toNat:Int)%4294967296*2^(8*k)%4294967296)=((bs[k].toNat*256^k:Nat):Int):=by grind [Int.pow_mul]
 rw[d,(bits_nat Mo 32 ag cM _ _ (yD bs k 4 af) b).2,Hj bs k c]
theorem an6(bs:List UInt8)(k:Nat)(b:k<bs.length)(e:k<8) :
 bits BinOp.or IntKind.u64 (gw (bs.take k)) ((bs[k].toNat:Int)%18446744073709551616*2^(8*k)%18446744073709551616)=(gw (bs.take (k+1)):Int):=by
 have d:bs[k].toNat<256:=bs[k].toNat_lt;have a:=Lr bs[k].toNat k d 8 e;have c:((bs[k].toNat:Int)%18446744073709551616*2^(8*k)%18446744073709551616)=((bs[k].toNat*256^k:Nat):Int):=by grind [Int.pow_mul]
 rw[c,(bits_nat MJ 64 ag iQ _ _ (yD bs k 8 af) a).2,Hj bs k b]
theorem jZ:(prog.info? 5).map (λi=>(i.zero,i.size,i.bytes))=IT (IT (Kx MM 0),1,1):=ah
def RM(base n:Nat)(w:KX)(xs:List J3)(e:Lp)(w':KX):Prop:=
 ∃v',e=Mk v'/\w'.ownsRow base 5 1 v' n xs/\Lg base w w'
theorem nZ(base n:Nat)(v:J3)(bs:List UInt8)(x size:Nat)(w:KX)(q:size<=4)(r:n<=1000000)(s:base<=w.heap.size)(h:w.ownsRow base 5 1 v n (bs.map bv)):K1 prog 85 #[v,Kx Mo x,Kx Mm size] w (RM base (n+size) w ((bs++le x size).map bv)):=by
 obtain⟨i0,hi,g,f,e⟩:=info_parts jZ;go_enter func85,ntmps85;go_wp2;go_loopw [0,9] (λv i wr=>∃k:Nat,k<=size/\i=Kx Mm k/\wr.ownsRow base 5 1 v (n+k) ((bs++le x k).map bv)/\Lg base w wr) (λ_ i _=>size-(Lo i).toNat)
 case atStart=>grind [le,kp]
 case round=>
  obtain⟨k,p,rfl,d,b⟩:=hrel;by_cases l:k<size
  .go_wp2_with (at_builtin;refine wpList_append_own _ rfl _ _ 46 rfl base 5 i0 (Kx MM 0) 1 1 Tryz.underlying46 hi g f e rfl ag _ _ _ rfl (d.alloc _) ⟨wr.heap.size,0,KK⟩ 1 1 [bv (UInt8.ofNat (x/256^k))] rfl rfl ?c1 ?c2 ?c3 ?c4 ?c5 ?_);case c1=>grind [Ln,cell_one_new]
   case c2=>simp[jl]
   case c3=>grind [maxLen]
   case c4=>omega
   case c5=>have:=b.size;simp;omega
   intro v' j a c _;have m:=ae ((b.alloc (Nm b.size) _).grown c (by have:=b.size;simp;omega) (aD d));have o:Lk (j.ownsRow base 5 1 v' (n+(k+1)) ((bs++le x (k+1)).map bv)):=ae (by grind [le]);clear a c d b;go_wp2;grind [Hid.out,Lo]
  .go_wp2_with fail;obtain rfl:k=size:=af;go_ret;exact⟨_,rfl,d,b⟩
theorem Af(base n:Nat)(v:J3)(bs:List UInt8)(x size:Nat)(w:KX)(q:size<=8)(r:n<=1000000)(s:base<=w.heap.size)(h:w.ownsRow base 5 1 v n (bs.map bv)):K1 prog 229 #[v,Kx MJ x,Kx Mm size] w (RM base (n+size) w ((bs++le x size).map bv)):=by
 obtain⟨i0,hi,g,f,e⟩:=info_parts jZ;go_enter func229,ntmps229;go_wp2;go_loopw [0,9] (λv i wr=>∃k:Nat,k<=size/\i=Kx Mm k/\wr.ownsRow base 5 1 v (n+k) ((bs++le x k).map bv)/\Lg base w wr) (λ_ i _=>size-(Lo i).toNat)
 case atStart=>grind [le,kp]
 case round=>
  obtain⟨k,p,rfl,d,b⟩:=hrel;by_cases l:k<size
  .go_wp2_with (at_builtin;refine wpList_append_own _ rfl _ _ 46 rfl base 5 i0 (Kx MM 0) 1 1 Tryz.underlying46 hi g f e rfl ag _ _ _ rfl (d.alloc _) ⟨wr.heap.size,0,KK⟩ 1 1 [bv (UInt8.ofNat (x/256^k))] rfl rfl ?c1 ?c2 ?c3 ?c4 ?c5 ?_);case c1=>grind [Ln,cell_one_new]
   case c2=>simp[jl]
   case c3=>grind [maxLen]
   case c4=>omega
   case c5=>have:=b.size;simp;omega
   intro v' j a c _;have m:=ae ((b.alloc (Nm b.size) _).grown c (by have:=b.size;simp;omega) (aD d));have o:Lk (j.ownsRow base 5 1 v' (n+(k+1)) ((bs++le x (k+1)).map bv)):=ae (by grind [le]);clear a c d b;go_wp2;grind [Hid.out,Lo]
  .go_wp2_with fail;obtain rfl:k=size:=af;go_ret;exact⟨_,rfl,d,b⟩
def Ag(r l g:Nat):List UInt8:=le r 4++le l 4++le g 4
def Ah(t h w m:Nat):List UInt8:=le t 4++le h 4++le w 8++le m 4
theorem ownsRow_nil(w:KX)(base:Nat)(e:TypeId):w.ownsRow base e 1 (.slice KK 0 0) 0 []:=⟨rfl,.inl ⟨rfl,rfl⟩⟩
def jR(w:KX)(bs:List UInt8)(e:Lp)(w':KX):Prop:=
 ∃v,e=Mk v/\w'.ownsRow w.heap.size 5 1 v bs.length (bs.map bv)/\Lg w w w'
theorem Df{w w':KX}{a c1 c2:J3}{t:TypeId}(h:Lg (w.heap.size+1) (w.alloc (Mi #[a,c1,c2] t)).drew w') :
 w'.cell? w.heap.size=IT a/\w'.cell? ⟨w.heap.size,1,KK⟩=IT c1/\w'.cell? ⟨w.heap.size,2,KK⟩=IT c2:=
 ⟨by rw[h.cell ai];simp,by rw[h.cell ai];simp,by rw[h.cell ai];simp⟩
theorem V8(r l g:Nat)(w:KX):K1 prog 44 #[LV #[Kx Mo r,Kx Mo l,Kx Mo g]] w (jR w (Ag r l g)):=by
 go_enter func44,ntmps44;go_wp2;go_region_held3 (λw'=>w'.cell? w.heap.size=IT (Kx Mo r)/\w'.cell? ⟨w.heap.size,1,KK⟩=IT (Kx Mo l)/\w'.cell? ⟨w.heap.size,2,KK⟩=IT (Kx Mo g)) (go_keep)
  (first
    | (go_at_call 85;refine(nZ (w.heap.size+1) 8 _ (le r 4++le l 4) g 4 _ af af (by have:=hb2.size;simp_all) mK).mono ?_;rintro e i⟨v3,rfl,h,a⟩;replace a:=hb2.trans a;have b:=(Df a))
    | (go_at_call 85;refine(nZ (w.heap.size+1) 4 _ (le r 4) l 4 _ af af (by have:=hb1.size;simp_all) mJ).mono ?_;rintro e f⟨v2,rfl,mK,hb2⟩;replace hb2:=hb1.trans hb2;have d:=(Df hb2))
    | (go_at_call 85;go_call(nZ (w.heap.size+1) 0 _ [] r 4 _ af af ai (ownsRow_nil _ _ _)) as e w1⟨v1,rfl,mJ,hb1⟩;have c:=(Df hb1)))
 go_wp2;go_ret;exact⟨v3,rfl,by grind [Ag,bL,aQ],((aq.alloc af _).drew).trans (a.mono af)⟩
theorem kG{w w':KX}{a c1 c2 c3:J3}{t:TypeId}(h:Lg (w.heap.size+1) (w.alloc (Mi #[a,c1,c2,c3] t)).drew w') :
 w'.cell? w.heap.size=IT a/\w'.cell? ⟨w.heap.size,1,KK⟩=IT c1/\w'.cell? ⟨w.heap.size,2,KK⟩=IT c2/\w'.cell? ⟨w.heap.size,3,KK⟩=IT c3:=
 ⟨by rw[h.cell ai];simp,by rw[h.cell ai];simp,by rw[h.cell ai];simp,by rw[h.cell ai];simp⟩
theorem V9(t h x m:Nat)(w:KX):K1 prog 183 #[LV #[Kx Mo t,Kx Mo h,Kx MJ x,Kx Mo m]] w (jR w (Ah t h x m)):=by
 go_enter func183,ntmps183;go_wp2;go_region_held3 (λw'=>w'.cell? w.heap.size=IT (Kx Mo t)/\w'.cell? ⟨w.heap.size,1,KK⟩=IT (Kx Mo h)/\w'.cell? ⟨w.heap.size,2,KK⟩=IT (Kx MJ x)/\w'.cell? ⟨w.heap.size,3,KK⟩=IT (Kx Mo m)) (go_keep)
  (first
    | (go_at_call 85;refine(nZ (w.heap.size+1) 4 _ (le t 4) h 4 _ af af (by have:=hb1.size;simp_all) mJ).mono ?_;rintro e d⟨v2,rfl,i,a⟩;replace a:=hb1.trans a;have l:=(kG a))
    | (go_at_call 85;go_call(nZ (w.heap.size+1) 0 _ [] t 4 _ af af ai (ownsRow_nil _ _ _)) as e w1⟨v1,rfl,mJ,hb1⟩;have f:=(kG hb1)))
 clear f;have g:Lg (w.heap.size+1) (w.alloc (Mi #[Kx Mo t,Kx Mo h,Kx MJ x,Kx Mo m] 63)).drew d.drew:=a.drew;have c:d.drew.ownsRow (w.heap.size+1) 5 1 v2 (4+4) ((le t 4++le h 4).map bv):=i;go_wp2;go_region_held3 (λw'=>w'.cell? w.heap.size=IT (Kx Mo t)/\w'.cell? ⟨w.heap.size,1,KK⟩=IT (Kx Mo h)/\w'.cell? ⟨w.heap.size,2,KK⟩=IT (Kx MJ x)/\w'.cell? ⟨w.heap.size,3,KK⟩=IT (Kx Mo m)) (go_keep)
  (first
    | (go_at_call 85;refine(nZ (w.heap.size+1) 16 _ (le t 4++le h 4++le x 8) m 4 _ af af (by have:=hb3.size;simp_all) kF).mono ?_;rintro e j⟨v4,rfl,n,b⟩;replace b:=hb3.trans b;have p:=(kG b))
    | (go_at_call 229;refine(Af (w.heap.size+1) 8 _ (le t 4++le h 4) x 8 _ af af (by have:=a.size;simp_all) c).mono ?_;rintro e o⟨v3,rfl,kF,hb3⟩;replace hb3:=g.trans hb3;have k:=(kG hb3)))
 go_wp2;go_ret;exact⟨v4,rfl,by grind [Ah,bL,aQ],((aq.alloc af _).drew).trans (b.mono af)⟩
def Ls(q:Lq)(x:Nat)(v:J3)(bs:List UInt8)(size:Nat)(w:KX)(e:Lp)(w':KX):Prop:=
 ∃rest n,e=Mk (Ly #[.int q x,rest])/\(∀W,Rd W v bs->Rd W rest (bs.drop size))/\w'=w.drewN n
theorem lW(v:J3)(bs:List UInt8)(size:Nat)(w:KX)(p:size<=4)(g:size<=bs.length)(n:Rd w v bs):K1 prog 171 #[v,Kx Mm size] w (Ls Mo (gw (bs.take size)) v bs size w):=by
 obtain⟨a,cap,rfl,l,e,d⟩:=n;unfold maxLen at e;go_enter func171,ntmps171;go_wp2;go_loop [4,8] (λx i=>∃k:Nat,k<=size/\i=Kx Mm k/\x=Kx Mo (gw (bs.take k))) (λ_ i=>size-(Lo i).toNat)
 case atStart=>exact⟨0,em _,rfl,rfl⟩
 case round=>
  obtain⟨k,o,rfl,rfl⟩:=hrel;by_cases m:k<size
  .obtain d |⟨b,j,rfl,d⟩:=d
   .omega
   have c:=d k af;have h:=ae (an5 bs k af af);unfold bv at c;clear d;go_wp2_with fail;grind [Hid.out,Lo]
  .obtain rfl:k=size:=af;clear d;go_wp2_with fail;go_quiet (fail)
   go_wp2
   .go_ret2;exact⟨_,_,rfl,λW f=>(f.from g).1 rfl,rfl⟩
   .go_ret2;exact⟨_,_,rfl,λW f=>(f.from g).2,rfl⟩
theorem xB(v:J3)(bs:List UInt8)(size:Nat)(w:KX)(p:size<=8)(g:size<=bs.length)(n:Rd w v bs):K1 prog 263 #[v,Kx Mm size] w (Ls MJ (gw (bs.take size)) v bs size w):=by
 obtain⟨a,cap,rfl,l,e,d⟩:=n;unfold maxLen at e;go_enter func263,ntmps263;go_wp2;go_loop [4,8] (λx i=>∃k:Nat,k<=size/\i=Kx Mm k/\x=Kx MJ (gw (bs.take k))) (λ_ i=>size-(Lo i).toNat)
 case atStart=>exact⟨0,em _,rfl,rfl⟩
 case round=>
  obtain⟨k,o,rfl,rfl⟩:=hrel;by_cases m:k<size
  .obtain d |⟨b,j,rfl,d⟩:=d
   .omega
   have c:=d k af;have h:=ae (an6 bs k af af);unfold bv at c;clear d;go_wp2_with fail;grind [IntKind.wrap_u64,Hid.out,Lo]
  .obtain rfl:k=size:=af;clear d;go_wp2_with fail;go_quiet (fail)
   go_wp2
   .go_ret2;exact⟨_,_,rfl,λW f=>(f.from g).1 rfl,rfl⟩
   .go_ret2;exact⟨_,_,rfl,λW f=>(f.from g).2,rfl⟩
def RN(v:J3)(w:KX)(e:Lp)(w':KX):Prop:=e=Mk v/\Lg w w w'
theorem I8(v:J3)(bs:List UInt8)(w:KX)(j:bs.length=12)(n:Rd w v bs):K1 prog 105 #[v] w (RN (Ly #[LV #[Kx Mo (gw (bs.take 4)),Kx Mo (gw ((bs.drop 4).take 4)),Kx Mo (gw ((bs.drop 8).take 4))],Kx Mm 0]) w):=by
 have i:Lk (∀W,Lg w w W->Rd W v bs):=ae λW h=>n.below h;obtain⟨a,cap,m,k,f,p⟩:=n;rw[j]at m k;subst m;unfold maxLen at f;clear p;have r:=ae j;clear j;go_enter func105,ntmps105;go_wp2_with fail;go_call(lW _ bs 4 _ af (by grind [Hid.out]) (i.out _ (aq.alloc af _))) as e w'⟨v1,n1,rfl,Dg,rfl⟩;have b:=ae Dg;clear Dg;go_wp2_with fail;have o:(bs.drop 4).length=8:=by grind [Hid.out]
 refine(lW v1 (bs.drop 4) 4 _ af af (b.out _ (i.out _ (below_drewN (aq.alloc af _) _)))).mono ?_;rintro e w'⟨v2,t,rfl,d,rfl⟩;have c:Lk (∀W,Rd W (.slice a 12 cap) bs->Rd W v2 (bs.drop 8)):=ae λW q=>by have:=d W (b.out W q);simp_all
 clear d b o;go_wp2_with fail;have g:(bs.drop 8).length=4:=by grind [Hid.out]
 refine(lW v2 (bs.drop 8) 4 _ af af (c.out _ (i.out _ (below_drewN (aq.alloc af _) _)))).mono ?_;rintro e w'⟨v3,s,rfl,l,rfl⟩;clear l c g;go_wp2_with fail;go_returns;exact⟨rfl,below_drewN (aq.alloc af _) _⟩
theorem I9(v:J3)(bs:List UInt8)(w:KX)(l:bs.length=20)(q:Rd w v bs):K1 prog 217 #[v] w (RN (Ly #[LV #[Kx Mo (gw (bs.take 4)),Kx Mo (gw ((bs.drop 4).take 4)),Kx MJ (gw ((bs.drop 8).take 8)),Kx Mo (gw ((bs.drop 16).take 4))],Kx Mm 0]) w):=by
 have i:Lk (∀W,Lg w w W->Rd W v bs):=ae λW h=>q.below h;obtain⟨a,cap,r,k,n,t⟩:=q;rw[l]at r k;subst r;unfold maxLen at n;clear t;have x:=ae l;clear l;go_enter func217,ntmps217;go_wp2_with fail;go_call(lW _ bs 4 _ af (by grind [Hid.out]) (i.out _ (aq.alloc af _))) as e w'⟨v1,n1,rfl,Dg,rfl⟩;have c:=ae Dg;clear Dg;go_wp2_with fail;have s:(bs.drop 4).length=16:=by grind [Hid.out]
 refine(lW v1 (bs.drop 4) 4 _ af af (c.out _ (i.out _ (below_drewN (aq.alloc af _) _)))).mono ?_;rintro e w'⟨v2,z,rfl,d,rfl⟩;have b:Lk (∀W,Rd W (.slice a 20 cap) bs->Rd W v2 (bs.drop 8)):=ae λW p=>by have:=d W (c.out W p);simp_all
 clear d c s;go_wp2_with fail;have o:(bs.drop 8).length=12:=by grind [Hid.out]
 refine(xB v2 (bs.drop 8) 8 _ af af (b.out _ (i.out _ (below_drewN (aq.alloc af _) _)))).mono ?_;rintro e w'⟨v3,y,rfl,g,rfl⟩;have f:Lk (∀W,Rd W (.slice a 20 cap) bs->Rd W v3 (bs.drop 16)):=ae λW p=>by have:=g W (b.out W p);simp_all
 clear g b o;go_wp2_with fail;have m:(bs.drop 16).length=4:=by grind [Hid.out]
 refine(lW v3 (bs.drop 16) 4 _ af af (f.out _ (i.out _ (below_drewN (aq.alloc af _) _)))).mono ?_;rintro e w'⟨v4,u,rfl,j,rfl⟩;clear j f m;go_wp2_with fail;go_returns;exact⟨rfl,below_drewN (aq.alloc af _) _⟩
def iX(x:Nat):Nat:=(x/2) ^^^ (2197175160*(x%2))
def dX:Nat->Nat->Nat
 |0,x=>x
 |k+1,x=>iX (dX k x)
def qC(i:Nat):Nat:=dX 8 i
theorem Pb(x:Nat)(h:x<4294967296):iX x<4294967296:=by
 unfold iX;have b:x/2<2^32:=af;have a:2197175160*(x%2)<2^32:=af;exact xp b a
theorem pK(k x:Nat)(h:x<4294967296):dX k x<4294967296:=by
 induction k with
 |zero=>exact h
 |succ k a=>exact Pb _ a
theorem S2(x:Nat)(h:x<4294967296) :
 bits BinOp.xor xf ((x:Int)/2) (2197175160*bits BinOp.and xf x 1%4294967296)=(iX x:Int):=by
 have a:=(bits_nat Mo 32 ag cM x 1 h ag).1;rw[Nat.and_one_is_mod]at a;have d:bits BinOp.and xf (x:Int) 1=((x%2:Nat):Int):=a;have b:(2197175160*((x%2:Nat):Int)%4294967296)=((2197175160*(x%2):Nat):Int):=af;have c:(x:Int)/2=((x/2:Nat):Int):=af;rw[d,b,c,gD Mo 32 ag cM _ _ af af];rfl
def Hk(k i:Nat):Value:=if i<k then Kx Mo (qC i) else Kx Mo 0
def cR(k:Nat):Array Value:=((kk 256).map (Hk k)).toArray
theorem Gb(k:Nat):(cR k).size=256:=by simp[cR]
theorem yE(k i:Nat)(h:i<256):(cR k)[i]? = IT (Hk k i):=by simp[cR,h]
theorem Ja(k:Nat):(cR k).setIfInBounds k (Kx Mo (qC k))=cR (k+1):=by
 apply Array.ext
 .simp[cR]
 .intro i a b;simp only[Array.size_setIfInBounds,Gb]at a;rw[Array.getElem_setIfInBounds]
  .simp only[cR,List.getElem_toArray,sp,List.getElem_range,Hk];grind
  grind
theorem yF(k:Nat):(cR k).all (·.oneCell')=true:=by rw[Array.all_eq_true];intro i h;simp only[cR,List.getElem_toArray,sp,Hk];split<;>rfl
theorem Gc:Tryz.zeroCells361=cR 0:=ah
theorem S3(w:KX):K1 prog 286 #[] w λe w'=>e=Mk (LV (cR 256))/\Lg w w w':=by
 go_enter func286,ntmps286;go_wp2_with fail;rw[Gc];go_loopw [3] (λi wr=>∃k:Nat,k<=256/\i=Kx Mm k/\wr=w.alloc (Mi (cR k) 361)) (λi _=>256-(Lo i).toNat)
 case atStart=>grind
 case round=>
  obtain⟨k,o,rfl,rfl⟩:=hrel;by_cases h:k<256
  .have a:Lk (k<4294967296):=ae af;go_wp2_with fail;go_loop [2,8] (λx j=>∃m:Nat,m<=8/\j=Kx Mm m/\x=Kx Mo (dX m k)) (λ_ j=>8-(Lo j).toNat)
   case atStart=>exact⟨0,af,rfl,rfl⟩
   case round=>
    obtain⟨m,p,rfl,rfl⟩:=hrel;by_cases l:m<8
    .have g:=ae (S2 _ (pK m k a.out));go_wp2_with fail;go_round
     case rel=>exact⟨m+1,af,by go_num,by rw[g.out];rfl⟩
     grind [Lo]
    .obtain rfl:m=8:=af;have n:(cR k)[k]? = IT (Kx Mo 0):=by grind [yE,Hk]
     go_wp2_with fail;go_roundw
     case rel=>exact⟨k+1,af,by go_num,by rw[<- Ja k];rfl⟩
     grind [Lo]
  .obtain rfl:k=256:=af;have f:(prog.info? 361).map (·.size)=IT (cR 256).size:=by rfl
   have d:(w.alloc (Mi (cR 256) 361)).heap[w.heap.size]? = IT (Mi (cR 256) 361 (0,0)):=Lw _ _;have c:=ae f;have b:=ae d;clear f d;go_wp2_with (first
    |refine wpList_load_row rfl 361 _ rfl w.heap.size rfl 361 (cR 256) (0,0) _ b.out Tryz.underlying361 rfl c.out ?_
    | (refine wpList_store_row rfl 361 _ _ rfl w.heap.size (cR 256) rfl rfl 361 (cR 256) b.out c.out rfl (yF 256) ?_;rw[World.setRow_alloc_new]))
   refine bodyPost_ret (results_cell_row rfl _ _ w.heap.size 361 (cR 256) (0,0) _ rfl b.out Tryz.underlying361 rfl c.out) rfl ?_;exact⟨rfl,aq.alloc af _⟩
def fM(x:Nat)(b:UInt8):Nat:=(x/256) ^^^ qC ((x%256) ^^^ b.toNat)
def gX(bs:List UInt8):Nat:=4294967295-bs.foldl fM 4294967295
theorem S4(x:Nat)(b:UInt8)(h:x<4294967296):fM x b<4294967296:=by
 have a:=b.toNat_lt;have d:x/256<2^32:=af;have e:x%256 ^^^ b.toNat<2^8:=xp af a;have c:qC ((x%256) ^^^ b.toNat)<2^32:=pK 8 _ af;exact xp d c
theorem xC(bs:List UInt8)(x:Nat)(h:x<4294967296):bs.foldl fM x<4294967296:=by
 induction bs generalizing x with
 |nil=>exact h
 |cons b bs a=>grind [S4]
theorem ry(bs:List UInt8):gX bs<4294967296:=by grind [gX]
theorem Dh(x:Nat)(h:x<4294967296):bits BinOp.xor xf IntKind.u32.max (x:Int)=((4294967295-x:Nat):Int):=by
 have e:IntKind.u32.max=((4294967295:Nat):Int):=ag;have a:(4294967295 ^^^ x:Nat)=4294967295-x:=by
  have c:(~~~ (BitVec.ofNat 32 x)).toNat=2^32-1-x:=M2;have b:(BitVec.allOnes 32 ^^^ BitVec.ofNat 32 x).toNat=4294967295 ^^^ x:=M2;rw[BitVec.allOnes_xor,c]at b;omega
 rw[e,gD Mo 32 ag cM _ _ ag h,a]
theorem Pc(v:J3)(bs:List UInt8)(w:KX)(m:Rd w v bs):K1 prog 267 #[Kx Mo 0,v] w λe w'=>e=Mk (Kx Mo (gX bs))/\Lg w w w':=by
 have o:Lk (∀W,Lg w w W->Rd W v bs):=ae λW h=>m.below h;obtain⟨a,cap,rfl,u,l,c⟩:=m;clear c;unfold maxLen at l;go_enter func267,ntmps267;go_wp2_with fail;go_call(S3 _) as e w1⟨rfl,hb1⟩;have s:(prog.info? 361).map (·.size)=IT (cR 256).size:=by rfl
 have A:=ae s;clear s;have r:Lk (Lg w w (w1.alloc (Mi (cR 256) 361))):=ae (hb1.alloc hb1.size _);have D:=ae (o.out _ r.out);clear hb1 o;go_wp2_with (first
  | (refine wpList_store_row rfl 361 _ _ rfl w1.heap.size (cR 256) rfl rfl 361 Tryz.zeroCells361 (Lw _ _) A.out rfl (yF 256) ?_;rw[World.setRow_alloc_new]))
 go_loop [6,13] (λx i=>∃k:Nat,k<=bs.length/\i=Kx Mm k/\x=Kx Mo ((bs.take k).foldl fM 4294967295:Nat)) (λ_ i=>bs.length-(Lo i).toNat)
 case atStart=>grind [Dh]
 case round=>
  obtain⟨k,I,rfl,rfl⟩:=hrel;by_cases f:k<bs.length
  .obtain⟨F,p,t,_,_,c⟩:=D.out;simp only[Value.slice.injEq]at t;obtain⟨rfl,_,rfl⟩:=t;obtain c |⟨b,z,rfl,c⟩:=c
   .omega
   have d:=c k f;unfold bv at d;have g:=ae (xC (bs.take k) 4294967295 af);have j:Lk ((bs.take (k+1)).foldl fM 4294967295=((bs.take k).foldl fM 4294967295)/256 ^^^ qC (((bs.take k).foldl fM 4294967295)%256 ^^^ bs[k].toNat)):=ae (by rw[fh f,List.foldl_append];rfl);clear c;generalize (bs.take k).foldl fM 4294967295=X at *;have H:bs[k].toNat<256:=bs[k].toNat_lt;generalize bs[k].toNat=B at *;have G:X%256 ^^^ B<256:=xp (n:=8) af af;have y:bits BinOp.xor IntKind.u8 ((X:Int)%256) B=((X%256 ^^^ B:Nat):Int):=by rw[show(X:Int)%256=((X%256:Nat):Int) by omega,gD MM 8 ag wraps_u8 _ _ af af]
   have q:qC (X%256 ^^^ B)<4294967296:=pK 8 (X%256 ^^^ B) af;have E:(cR 256)[X%256 ^^^ B]? = IT (Kx Mo (qC (X%256 ^^^ B))):=by grind [yE,Hk]
   have C:Lk (bits BinOp.xor xf ((X:Int)/256) (qC (X%256 ^^^ B))=((X/256 ^^^ qC (X%256 ^^^ B):Nat):Int)):=ae (by have:=g.out;rw[show(X:Int)/256=((X/256:Nat):Int) by omega,gD Mo 32 ag cM _ _ af q])
   clear q;generalize X%256 ^^^ B=Y at *;go_wp2_with fail;grind [Hid.out,Lo]
  .obtain rfl:k=bs.length:=af;have g:=ae (xC bs 4294967295 af);rw[List.take_length];go_wp2_with fail;go_ret;refine⟨?_,r.out⟩;unfold gX;rw[<- Dh _ g.out];rfl
theorem Jc(v:J3)(bs:List UInt8)(w:KX)(a:Rd w v bs):K1 prog 232 #[v] w λe w'=>e=Mk (Kx Mo (gX bs))/\Lg w w w':=by go_enter func232,ntmps232;go_wp2_with fail;go_call(Pc v bs _ a) as e w1⟨rfl,hb1⟩;go_wp2_with fail;go_ret;simp_all
theorem oD(z:J3)(k:Nat):(Builtin.zeroCells #[z] k).toList=ei k z:=by
 apply List.ext_getElem
 .simp[Builtin.zeroCells]
 grind [Builtin.zeroCells]
theorem ownsRow_made{w0:KX}{base n:Nat}{e:TypeId}{rest:Array J3}(f:xs.length=n)(b:base<=w0.heap.size)(a:n<=cap)(c:cap<=maxLen)(d:rest.size=cap-n) :
 (w0.alloc (Mi (xs.toArray++rest) e)).ownsRow base e 1 (.slice w0.heap.size n cap) n xs:=
 ⟨af,.inr ⟨w0.heap.size,cap,_,rfl,b,Lw _ _,a,c,M2,M2⟩⟩
theorem Ai{P:Program}(w:KX)(base:Nat)(t u ty e:TypeId)(i:TypeInfo)(z:J3)(F:Lq)(p:P.underlying t=IT (.slice e))(s:P.underlying u=IT (.int F))(hi:P.info? e=IT i)(I:i.zero=IT z)(f:i.size=1)(D:i.bytes=1)(T:z.cells=#[z])(O:z.oneCell'=Jd)(v:J3)(n:Nat)(xs:List J3)(d:w.ownsRow base e 1 v n xs)(k:Nat)(Y:n+k<=1073741824)(b:base<=w.heap.size) :
 ∃v' w',(Builtin.append_ #[t,u] ty #[v,Kx Mm k]).run P w=.ok v' w'/\w'.ownsRow base e 1 v' (n+k) (xs++ei k z)/\w.grownBy w' v.ownBlock /\
  (v'=.slice KK 0 0↔v=.slice KK 0 0/\k=0)/\(v'.ownBlock=v.ownBlock\/v'.ownBlock=IT w.heap.size):=by
 have R:cf Mm (k:Int)=k:=by grind [IntKind.wrap_i64]
 have o:cf Mm 0=0:=ag;have K:¬((k:Int)<0):=af;have C:¬(281474976710656<(k:Int)):=af;have W:xs.length=n:=Nm d.1;have J:=λh=>grownCap_le_maxLen w (n+k) h e (by grind [maxLen]);have Q:=λh=>grownCap_ge w (n+k) h e;rcases d.2 with⟨rfl,M⟩|⟨g,cap,a,rfl,G,y,A,H,U,X⟩
 .obtain rfl:n=0:=M;obtain rfl:xs=[]:=(M2);by_cases x:k=0
  .subst x;refine⟨.slice KK 0 0,w,?_,World.ownsRow_nil w base e 1,⟨rfl,rfl,rfl,cg _,λ_ _ _=>rfl⟩,ai,.inl rfl⟩;simp[Builtin.append_,run_underlying p,run_underlying s,sizeOf,typeInfo,hi,asInt,asIntOf,o]
  .have E:=Lib.run_append_nil_zeros (P:=P) w t u ty e i z Mm F p s hi I k af af af M2;refine⟨_,_,E,?_,⟨rfl,rfl,rfl,ai,λj q _=>heap_alloc_old w.drew _ q⟩,M2,.inr rfl⟩;have m:Builtin.zeroCells z.cells k=(ei k z).toArray:=by grind [oD]
   rw[m];have:=ownsRow_made (w0:=w.drew) (base:=base) (n:=k) (cap:=grownCap w k 0 e) (e:=e) (xs:=ei k z) (rest:=Builtin.zeroCells z.cells (grownCap w k 0 e-k)) ai b M2 M2 (by grind [size_zeroCells]);simp_all
 .by_cases c:n+k<=cap
  .have B:(Builtin.zeroCells z.cells k).toList=ei k z:=by grind [oD]
   have r:=run_storeCells_at (P:=P) g n e (ei k z) 0 a w y M2 M2;simp only[Nat.add_zero,pn]at r;have L:(⟨g,0,KK⟩:Addr).add n=⟨g,n,KK⟩:=by grind [br]
   have V:n+(ei k z).length<=a.size:=M2;refine⟨.slice g (n+k) cap,w.setRow g (a.toList.take n++ei k z++a.toList.drop (n+k)).toArray,?_,⟨M2,.inr ⟨g,cap,_,rfl,G,setRow_heap w g a _ e _ y,c,H,?_,?_⟩⟩,⟨rfl,rfl,rfl,ai,λj _ q=>setRow_other w g j _ (λe=>q (by simp[B2,e]))⟩,ai,.inl rfl⟩
   .by_cases x:k=0
    .subst x;simp only[List.replicate_zero,Nat.add_zero,nw,List.take_append_drop,Array.toArray_toList,setRow_self w g a e (0,0) y];have S:(storeCells ⟨g,n,KK⟩ []).run P w=.ok () w:=rfl;simp[Builtin.append_,run_underlying p,run_underlying s,sizeOf,typeInfo,hi,asInt,asIntOf,o,f,A,L,S]
    .simp[Builtin.append_,run_underlying p,run_underlying s,sizeOf,typeInfo,zeroValue,hi,I,asInt,asIntOf,R,K,C,f,D,c,L,x,B,r]
   .grind
   grind
  .have l:=d.cells (g:=g) rfl;have N:=run_firstCells_some (P:=P) w.drew i.size n ⟨g,0,KK⟩ n cap xs M2 l;have E:=Lib.run_append_grow_zeros (P:=P) w t u ty e i z Mm F p s hi I (IT ⟨g,0,KK⟩) n cap xs N k af af af af M2 (growslice_fits af M2);refine⟨_,_,E,?_,⟨rfl,rfl,rfl,ai,λj q _=>heap_alloc_old w.drew _ q⟩,ai,.inr rfl⟩;have m:Builtin.zeroCells z.cells k=(ei k z).toArray:=by grind [oD]
   rw[m];have:=ownsRow_made (w0:=w.drew) (base:=base) (n:=n+k) (cap:=grownCap w (n+k) cap e) (e:=e) (xs:=xs++ei k z) (rest:=Builtin.zeroCells z.cells (grownCap w (n+k) cap e-(n+k))) M2 b (Q cap) (J cap) (by grind [size_zeroCells]);rw[show xs.toArray++(ei k z).toArray=(xs++ei k z).toArray by simp];exact this
theorem gY{P:Program}{w:KX}{ops:Array Oper}{rest:List Oper}{o:Oper}{a:Act}(m:o.guard=KK)(s x:Operand)(t:TypeId)(G:o.op=.call { callee:=.builtin .append,args:=#[s,x],argTypes:=#[t,t] })(base:Nat)(e:TypeId)(q:P.underlying t=IT (.slice e))(hi:(P.info? e).map (λi=>(i.zero,i.size,i.bytes))=IT (IT (Kx MM 0),1,1))(v:J3)(n:Nat)(xs:List J3)(O:a.eval s=v)(b:w.ownsRow base e 1 v n xs)(j:J3)(bs:List UInt8)(I:a.eval x=j)(H:Rd w j bs)(S:n+bs.length<=1073741824)(c:base<=w.heap.size)(h:∀v' w',w'.ownsRow base e 1 v' (n+bs.length) (xs++bs.map bv)->w.grownBy w' v.ownBlock->(v'.ownBlock=v.ownBlock\/v'.ownBlock=IT w.heap.size)->wpList P ops Q rest (a.put o.dst v') w') :
 wpList P ops Q (o::rest) a w:=by
 obtain⟨i0,hi,y,p,r⟩:=info_parts hi;refine wpList_plain m λK hK=>?_;have f:∃v' w',(Builtin.append_ #[t,t] o.type #[v,j]).run P w=.ok v' w'/\w'.ownsRow base e 1 v' (n+bs.length) (xs++bs.map bv)/\w.grownBy w' v.ownBlock/\(v'.ownBlock=v.ownBlock\/v'.ownBlock=IT w.heap.size):=by
  obtain⟨ad,cap,rfl,k,u,F⟩:=H;cases ad with
  |none=>
    have B:bs=[]:=M2;subst B;refine⟨v,w,?_,M2,⟨rfl,rfl,rfl,cg _,M2⟩,.inl rfl⟩;rcases b.2 with⟨rfl,B⟩|⟨g,U,L,rfl,M,R,l,E,N,V⟩
    .simp[Builtin.append_,run_underlying q,sizeOf,typeInfo,hi,Builtin.lenOf,Builtin.firstCells]
    .have J:∀ad,(storeCells ad []).run P w=.ok () w:=λ_=>rfl;simp[Builtin.append_,run_underlying q,sizeOf,typeInfo,hi,Builtin.lenOf,Builtin.firstCells,l,J]
  |some ad=>have d:=Rd.news (w:=w) (w':=w) (ad:=ad) (n:=bs.length) (cap:=cap) (bs:=bs) ⟨IT ad,cap,rfl,k,u,F⟩ (λ_ _ _ h=>h);obtain⟨v',w',A,D,C,z,T⟩:=run_append_own_at (P:=P) w base t o.type e i0 (Kx MM 0) 1 1 q hi y p r rfl ag v n xs b ad bs.length cap (bs.map bv) ai d (by simp[jl]) (by grind [maxLen]) af c;grind
 obtain⟨v',w',A,D,C,z⟩:=f;unfold Oper.wp execOp;simp only[G,resolve,invoke,builtin,Sem.run_bind,Sem.run_pure,Result.andThen_ok,GO,oj,FP,O,I,A];exact hK _ _ (h v' w' D C z)
theorem nC{P:Program}{w:KX}{ops:Array Oper}{rest:List Oper}{o:Oper}{a:Act}(j:o.guard=KK)(s x:Operand)(t g:TypeId)(p:Lq)(B:o.op=.call { callee:=.builtin .append,args:=#[s,x],argTypes:=#[t,g] })(base:Nat)(e:TypeId)(D:P.underlying t=IT (.slice e))(y:P.underlying g=IT (.int p))(hi:(P.info? e).map (λi=>(i.zero,i.size,i.bytes))=IT (IT (Kx MM 0),1,1))(v:J3)(n:Nat)(xs:List J3)(C:a.eval s=v)(c:w.ownsRow base e 1 v n xs)(k:Nat)(A:a.eval x=Kx Mm k)(z:n+k<=1073741824)(b:base<=w.heap.size)(h:∀v' w',w'.ownsRow base e 1 v' (n+k) (xs++(ei k (0:UInt8)).map bv)->w.grownBy w' v.ownBlock->(v'.ownBlock=v.ownBlock\/v'.ownBlock=IT w.heap.size)->wpList P ops Q rest (a.put o.dst v') w') :
 wpList P ops Q (o::rest) a w:=by obtain⟨i0,hi,f,l,d⟩:=info_parts hi;refine wpList_plain j λK hK=>?_;obtain⟨v',w',u,m,q,_,r⟩:=Ai (P:=P) w base t g o.type e i0 (Kx MM 0) p D y hi f l d rfl rfl v n xs c k z b;rw[show ei k (tb MM 0)=(ei k (0:UInt8)).map bv by simp[bv]]at m;unfold Oper.wp execOp;simp only[B,resolve,invoke,builtin,Sem.run_bind,Sem.run_pure,Result.andThen_ok,GO,oj,FP,C,A,u];exact hK _ _ (h v' w' m q r)
theorem Je(w:KX):(w.alloc (Mi #[] 5)).ownsRow w.heap.size 5 1 (.slice w.heap.size 0 0) 0 []:=
 ⟨rfl,.inr ⟨w.heap.size,0,#[],rfl,cg _,Lw _ _,cg _,ai,rfl,rfl⟩⟩
theorem gZ(v:J3)(bs:List UInt8)(w:KX)(r:Rd w v bs)(l:bs.length<=140737488355328):K1 prog 26 #[v] w (jR w bs):=by
 obtain⟨i0,hi,i,g,h⟩:=info_parts jZ;obtain⟨a,cap,rfl,d,f,o⟩:=r;have C:=ae l;have y:=ae f;have B:=ae d;clear l f d;have z:=λ(W:KX)(a:Option Addr)(n c:Nat)=>Lib.run_eql_slice_nil (P:=prog) W 46 5 a n c 0 0 Tryz.underlying46;cases a with
 |none=>
   have q:bs=[]:=M2;subst q;clear o;go_enter func26,ntmps26;go_wp2_with fail;go_ret;exact⟨_,rfl,ownsRow_nil _ _ _,kp _ _⟩
 |some ad=>
   have p:Lk (∀j u,(bs.map bv)[j]? = IT u->(w.alloc (Mi #[] 5)).cell? (ad.add j)=IT u):=ae λj u A=>by grind [Addr.add_mid,World.cell?_alloc_lt,jK]
   clear o;go_enter func26,ntmps26;go_wp2_with (at_builtin;refine wpList_append_own _ rfl _ _ 46 rfl w.heap.size 5 i0 (Kx MM 0) 1 1 Tryz.underlying46 hi i g h rfl ag _ _ _ rfl (Je w) ad bs.length cap (bs.map bv) rfl ?c1 p.out ?c2 ?c3 ?c4 ?c5 ?_);case c1=>simp
   case c2=>simp[jl]
   case c3=>grind [Hid.out]
   case c4=>grind [Hid.out]
   case c5=>simp
   intro v' m b e _;have t:Lk (Lg w w m):=ae ((aq.alloc af _).grown e ai (λk s=>by cases s;simp));have x:Lk (m.ownsRow w.heap.size 5 1 v' bs.length (bs.map bv)):=ae af;clear b e;go_wp2;go_ret;exact⟨v',rfl,x.out,t.out⟩
theorem Dk(w:KX):K1 prog 278 #[Kx Mm 4] w λe w'=>e=Mk (.bool Jd)/\Lg w w w':=by
 go_enter func278,ntmps278;go_wp2;go_rounds 4
 go_ret;exact⟨rfl,aq.alloc af _⟩
theorem Dl(w:KX):K1 prog 278 #[Kx Mm 2] w λe w'=>e=Mk (.bool Jd)/\Lg w w w':=by
 go_enter func278,ntmps278;go_wp2;go_rounds 3
 go_ret;exact⟨rfl,aq.alloc af _⟩
theorem Dm(v:J3)(bs:List UInt8)(x:Nat)(w:KX)(c:Rd w v bs)(d:bs.length<=1000000):K1 prog 246 #[v,Kx MJ x,Kx Mm 4] w (jR w (bs++le x 4)):=by go_enter func246,ntmps246;go_wp2_with fail;go_call(gZ v bs _ c af) as e w1⟨v1,rfl,mJ,hb1⟩;go_wp2_with fail;go_call(Dk _) as e w2⟨rfl,hb2⟩;have b:=aB mJ hb2;have a:=hb1.trans (hb2.mono hb1.size);go_wp2_with fail;go_call(Af w.heap.size bs.length v1 bs x 4 _ af af a.size b) as e w3⟨v3,rfl,kF,hb3⟩;go_wp2_with fail;go_ret;exact⟨v3,rfl,by grind [bL],a.trans hb3⟩
theorem Lt(v:J3)(bs:List UInt8)(x:Nat)(w:KX)(c:Rd w v bs)(d:bs.length<=1000000):K1 prog 246 #[v,Kx MJ x,Kx Mm 2] w (jR w (bs++le x 2)):=by go_enter func246,ntmps246;go_wp2_with fail;go_call(gZ v bs _ c af) as e w1⟨v1,rfl,mJ,hb1⟩;go_wp2_with fail;go_call(Dl _) as e w2⟨rfl,hb2⟩;have b:=aB mJ hb2;have a:=hb1.trans (hb2.mono hb1.size);go_wp2_with fail;go_call(Af w.heap.size bs.length v1 bs x 2 _ af af a.size b) as e w3⟨v3,rfl,kF,hb3⟩;go_wp2_with fail;go_ret;exact⟨v3,rfl,by grind [bL],a.trans hb3⟩
theorem tT(v:J3)(bs:List UInt8)(k:Nat)(w:KX)(c:Rd w v bs)(i:k+4<=bs.length)(j:bs.length<=1000000):K1 prog 268 #[v,Kx Mm k,Kx Mm 4] w λe w'=>e=Mk (Kx MJ (gw ((bs.drop k).take 4)))/\Lg w w w':=by
 have d:Lk (∀W,Lg w w W->Rd W v bs):=ae λW h=>c.below h;obtain⟨a,cap,rfl,f,b,g⟩:=c;clear g;unfold maxLen at b;go_enter func268,ntmps268;go_wp2_with fail;go_in
 go_wp2_with fail;go_call(Dk _) as e w1⟨rfl,hb1⟩;go_wp2_with fail;go_call(xB _ (bs.drop k) 4 _ af M2 ((d.out _ hb1).from af).2) as e w2⟨v2,n2,rfl,_,rfl⟩;go_wp2_with fail;go_ret;exact⟨rfl,below_drewN hb1 _⟩
theorem Bx(v:J3)(bs:List UInt8)(k:Nat)(w:KX)(c:Rd w v bs)(i:k+2<=bs.length)(j:bs.length<=1000000):K1 prog 268 #[v,Kx Mm k,Kx Mm 2] w λe w'=>e=Mk (Kx MJ (gw ((bs.drop k).take 2)))/\Lg w w w':=by
 have d:Lk (∀W,Lg w w W->Rd W v bs):=ae λW h=>c.below h;obtain⟨a,cap,rfl,f,b,g⟩:=c;clear g;unfold maxLen at b;go_enter func268,ntmps268;go_wp2_with fail;go_in
 go_wp2_with fail;go_call(Dl _) as e w1⟨rfl,hb1⟩;go_wp2_with fail;go_call(xB _ (bs.drop k) 2 _ af M2 ((d.out _ hb1).from af).2) as e w2⟨v2,n2,rfl,_,rfl⟩;go_wp2_with fail;go_ret;exact⟨rfl,below_drewN hb1 _⟩
def lX(t n s z:Nat):List UInt8:=le t 4++le n 4++le s 2++le z 2
theorem fp{w:KX}{base:Nat}{v:J3}{bs:List UInt8}(h:w.ownsRow base 5 1 v bs.length (bs.map bv)):Rd w v bs:=by
 obtain⟨k,⟨rfl,b⟩|⟨g,cap,a,rfl,l,c,e,f,n,d⟩⟩:=h
 .exact⟨KK,0,by rw[b],af,ai,.inl b⟩
 .refine⟨IT ⟨g,0,KK⟩,cap,rfl,e,f,.inr ⟨g,0,rfl,λj i=>?_⟩⟩;simp only[EV,c,j0];have m:(a.toList.take (bs.length*1))[j]? = (bs.map bv)[j]? := by rw[d]
  grind
theorem Wc(t n s z:Nat)(w:KX):K1 prog 245 #[LV #[Kx MJ t,Kx MJ n,Kx MJ s,Kx MJ z]] w (jR w (lX t n s z)):=by
 go_enter func245,ntmps245;go_wp2;go_region_held3 (λw'=>w'.cell? w.heap.size=IT (Kx MJ t)/\w'.cell? ⟨w.heap.size,1,KK⟩=IT (Kx MJ n)/\w'.cell? ⟨w.heap.size,2,KK⟩=IT (Kx MJ s)/\w'.cell? ⟨w.heap.size,3,KK⟩=IT (Kx MJ z)) (go_keep)
  (first
    | (go_at_call 246;go_call(Dm v1 (le t 4) n _ (fp mJ) (by grind [bL])) as e w2⟨v2,rfl,mK,hb2⟩;replace mK:=aQ mK (by simpa using hb1.size);replace hb2:=hb1.trans (hb2.mono (by simpa using hb1.size));have f:=(kG hb2))
    | (go_at_call 246;go_call(Dm (.slice KK 0 0) [] t _ ⟨KK,0,rfl,ai,ai,.inl rfl⟩ ai) as e w1⟨v1,rfl,mJ,hb1⟩;simp only[World.size_drew,World.size_alloc]at hb1 mJ;have c:=(kG hb1)))
 clear c;have b:Lg (w.heap.size+1) (w.alloc (Mi #[Kx MJ t,Kx MJ n,Kx MJ s,Kx MJ z] 323)).drew w2.drew:=hb2.drew;have a:w2.drew.ownsRow (w.heap.size+1) 5 1 v2 (le t 4++le n 4).length ((le t 4++le n 4).map bv):=mK;go_wp2;go_region_held3 (λw'=>w'.cell? w.heap.size=IT (Kx MJ t)/\w'.cell? ⟨w.heap.size,1,KK⟩=IT (Kx MJ n)/\w'.cell? ⟨w.heap.size,2,KK⟩=IT (Kx MJ s)/\w'.cell? ⟨w.heap.size,3,KK⟩=IT (Kx MJ z)) (go_keep)
  (first
    | (go_at_call 246;go_call(Lt v3 (le t 4++le n 4++le s 2) z _ (fp kF) (by simp[bL])) as e w4⟨v4,rfl,I7,hb4⟩;replace I7:=aQ I7 (by simpa using hb3.size);replace hb4:=hb3.trans (hb4.mono (by simpa using hb3.size));have g:=(kG hb4))
    | (go_at_call 246;go_call(Lt v2 (le t 4++le n 4) s _ (fp a) (by simp[bL])) as e w3⟨v3,rfl,kF,hb3⟩;replace kF:=aQ kF (by simpa using b.size);replace hb3:=b.trans (hb3.mono (by simpa using b.size));have d:=(kG hb3)))
 go_wp2;go_ret;exact⟨v4,rfl,by grind [lX,aQ],((aq.alloc af _).drew).trans (hb4.mono af)⟩
def cG(tag a:Nat)(bs:List UInt8):List UInt8:=lX tag a bs.length 0++bs++ei (240-bs.length) 0
def cP(tag a:Nat)(bs:List UInt8):List UInt8:=cG tag a bs++le (gX (cG tag a bs)) 4
theorem rz(t n s z:Nat):(lX t n s z).length=12:=by rfl
theorem iH(tag a:Nat)(bs:List UInt8)(h:bs.length<=240):(cG tag a bs).length=252:=by grind [cG,rz]
theorem dW(tag a:Nat)(bs:List UInt8)(h:bs.length<=240):(cP tag a bs).length=256:=by grind [cP,iH,bL]
def xD(w:KX)(bs:List UInt8)(e:Lp)(w':KX):Prop:=
 ∃v,e=Mk (Ly #[v,Kx Mm 0])/\w'.ownsRow w.heap.size 5 1 v bs.length (bs.map bv)/\Lg w w w'
theorem Wd(tag b:Nat)(v:J3)(bs:List UInt8)(w:KX)(z:Rd w v bs)(y:bs.length<=240)(O:tag<4294967296)(N:b<4294967296):K1 prog 209 #[Kx Mo tag,Kx Mo b,v] w (xD w (cP tag b bs)):=by
 have G:Lk (∀W,Lg w w W->Rd W v bs):=ae λW h=>z.below h;obtain⟨a,cap,rfl,D,t,E⟩:=z;clear E;unfold maxLen at t;go_enter func209,ntmps209;go_wp2_with fail;have A:=Wc tag b bs.length 0 w;go_call A as e w1⟨v1,rfl,mJ,hb1⟩;rw[rz]at mJ;have l:=ae (G.out _ hb1);have q:=ae hb1;have f:=ae mJ;clear A hb1 mJ;go_wp2_with (at_builtin;refine gY rfl _ _ 46 rfl w.heap.size 5 Tryz.underlying46 jZ v1 12 _ rfl f.out _ bs rfl l.out ?c1 ?c2 ?_);case c1=>omega
 case c2=>exact q.out.size
 intro v2 F C k _;have p:=ae (q.out.grown k q.out.size (aD f.out));have i:Lk (F.ownsRow w.heap.size 5 1 v2 (12+bs.length) ((lX tag b bs.length 0++bs).map bv)):=ae M2;have d:Lk (∃a2 c2,v2=.slice a2 (12+bs.length) c2):=ae (by
  obtain⟨_,⟨rfl,M⟩|⟨g,P,J,rfl,_⟩⟩:=C
  .omega
  simp)
 obtain⟨a2,c2,d⟩:=d.out;subst d;clear C k f l q;go_wp2_with (at_builtin;refine nC rfl _ _ 46 3 Mm rfl w.heap.size 5 Tryz.underlying46 Tryz.underlying3 jZ _ (12+bs.length) _ rfl i.out (240-bs.length) ?c3 ?c1 ?c2 ?_);case c3=>show tb Mm _=tb Mm _;grind
 case c1=>omega
 case c2=>exact p.out.size
 intro v3 I u n _;have s:=ae (p.out.grown n p.out.size (aD i.out));have j:Lk (I.ownsRow w.heap.size 5 1 v3 (cG tag b bs).length ((cG tag b bs).map bv)):=ae (by rw[iH _ _ _ y];rw[show 12+bs.length+(240-bs.length)=252 by omega]at u;simpa[cG]using u)
 have B:=ae (iH tag b bs y);have H:Lk (cP tag b bs=cG tag b bs++le (gX (cG tag b bs)) 4):=ae rfl;have L:=ry (cG tag b bs);clear u n i p d;generalize cG tag b bs=c at *;go_wp2_with fail;go_call(Jc v3 c _ (fp j.out)) as e w4⟨rfl,hb4⟩;have o:=ae (s.out.trans (hb4.mono s.out.size));have m:=ae (aB j.out hb4);clear hb4 j s;generalize gX c=r at *;go_wp2_with fail;go_call(Dm v3 c r _ (fp m.out) (by grind [Hid.out])) as e w5⟨v5,rfl,ho5,kR⟩;have x:=ae (o.out.trans (kR.mono o.out.size));have K:=ae (aQ ho5 o.out.size);clear kR ho5 m o;go_wp2_with fail;go_ret2;exact⟨v5,rfl,by grind [Hid.out],x.out⟩
theorem qD(w:KX)(s:ByteArray)(b:s.size<=1000):Rd (Lib.bytesWorld w 5 s) (.slice w.heap.size s.size (grownCap w s.size 0 5)) s.data.toList:=by
 refine⟨_,_,rfl,?_,grownCap_le_maxLen w s.size 0 _ (by grind [maxLen]),.inr ⟨w.heap.size,0,rfl,λj a=>?_⟩⟩
 .exact grownCap_ge w s.size 0 _
 .rw[j0,Lib.bytesWorld_cell w _ s j a];grind [bv]
theorem aaF(s:ByteArray)(w:KX)(d:s.size<=1000):K1 prog 196 #[.string s] w λe w'=>e=Mk (Kx Mo (gX s.data.toList))/\Lg w w w':=by have b:=ae (qD w s d);have a:=ae (Joins.below_bytesWorld w.heap.size w 5 s af);have c:=λW=>Lib.run_convert_string_bytes (P:=prog) W 9 46 5 s Tryz.underlying9 Tryz.underlying46 Tryz.underlying5;go_enter func196,ntmps196;go_wp2_with fail;go_call(Jc _ _ _ b.out) as e w1⟨rfl,hb1⟩;go_wp2_with fail;go_ret;exact⟨rfl,a.out.trans (hb1.mono a.out.size)⟩
open Go.ChangeMaps (setBlock heap_setBlock_same heap_setBlock_other)
structure aN(S:Nat->Prop)(w w':KX):Prop where
 os:w'.os=w.os
 tape:w'.tape=w.tape
 output:w'.output=w.output
 size:w.heap.size<=w'.heap.size
 block:∀k,k<w.heap.size->¬S k->w'.heap[k]? = w.heap[k]?
section
variable {S S':Nat->Prop}{w w' j:KX}
theorem aN.refl(S:Nat->Prop)(w:KX):aN S w w:=⟨rfl,rfl,rfl,cg _,M2⟩
theorem aN.trans(h:aN S w w')(k:aN S' w' j)(c:∀x,x<w.heap.size->S' x->S x):aN S w j:=
 ⟨k.os.trans h.os,k.tape.trans h.tape,k.output.trans h.output,cp h.size k.size,λx a b=>(k.block x (eg a h.size) M2).trans (h.block x a b)⟩
theorem aN.mono(h:aN S w w')(c:∀x,x<w.heap.size->S x->S' x):aN S' w w':=⟨h.os,h.tape,h.output,h.size,λx a b=>h.block x a M2⟩
theorem aN.aZ(h:Lg w w w'):aN S w w':=⟨h.os,h.tape,h.output,h.size,λx a _=>h.block x a⟩
theorem aN.below(h:aN S w w'){n:Nat}(a:n<=w.heap.size)(c:∀x,S x->n<=x):Lg n w w':=⟨h.os,h.tape,h.output,h.size,λx b=>h.block x af M2⟩
theorem aN.b7(h:aN S w w')(k:Lg w' w' j):aN S w j:=h.trans (S':=λ_=>False) (aN.aZ k) M2
theorem aN.alloc(h:aN S w w')(o:Obj):aN S w (w'.alloc o):=h.b7 (aq.alloc af o)
theorem aN.drew(h:aN S w w'):aN S w w'.drew:=h.b7 aq.drew
theorem aN.drewN(h:aN S w w')(n:Nat):aN S w (w'.drewN n):=⟨h.os,h.tape,h.output,h.size,h.block⟩
theorem aN.setCell(h:aN S w w')(a:Addr)(u:J3)(d:S a.block\/w.heap.size<=a.block):aN S w (w'.setCell a u):=by refine h.trans (S':=λx=>x=a.block) ⟨rfl,rfl,rfl,ai,λx _ b=>Below.heap_setCell _ _ _ _ b⟩ (λx c e=>?_);grind
theorem aN.grown{row:Option Nat}(h:aN S w w')(a:w'.grownBy j row)(d:∀k,row=IT k->S k\/w.heap.size<=k):aN S w j:=by refine h.trans (S':=λx=>row=IT x) ⟨a.os,a.tape,a.output,a.size,λx b c=>a.block x b M2⟩ (λx b e=>?_);grind
theorem bm{w:KX}{b:Nat}(a:Obj){x:Nat}(c:x≠b):(setBlock w b a).heap[x]? = w.heap[x]? := by grind [setBlock]
theorem aN.setBlock(h:aN S w w')(b:Nat)(a:Obj)(d:S b\/w.heap.size<=b):aN S w (setBlock w' b a):=by refine h.trans (S':=λx=>x=b) ⟨rfl,rfl,rfl,by simp[ChangeMaps.setBlock],λx _ c=>bm a c⟩ (λx f e=>?_);grind
theorem aN.cell(h:aN S w w'){a:Addr}{v:J3}(b:w.cell? a=IT v)(c:¬S a.block):w'.cell? a=IT v:=by grind [World.cell?_of_block,block,jK]
theorem aN.ownsRow(h:aN S w w'){base:Nat}{e:TypeId}{size:Nat}{v:J3}{n:Nat}(a:w.ownsRow base e size v n xs)(l:∀b,v.ownBlock=IT b->¬S b):w'.ownsRow base e size v n xs:=by
 obtain⟨k,a⟩:=a;refine⟨k,?_⟩;rcases a with a |⟨g,cap,d,f,j,i,r⟩
 .grind
 .have c:g<w.heap.size:=(M2);exact .inr ⟨g,cap,d,f,j,(h.block g c (l g (by rw[f];rfl))).trans i,r⟩
theorem aN.rd(h:aN S w w'){v:J3}{bs:List UInt8}(l:Rd w v bs)(m:∀b,v.ownBlock=IT b->¬S b):Rd w' v bs:=by
 obtain⟨a,cap,g,f,d,c⟩:=l;refine⟨a,cap,g,f,d,?_⟩;rcases c with c |⟨b,e,i,c⟩
 .omega
 .exact .inr ⟨b,e,i,λj k=>h.cell (c j k) (m b (by rw[g,i];rfl))⟩
end
abbrev Tag:=Nat×Nat
abbrev ay:=Nat->Option Tag
def ay.In(o:ay)(C:Nat->Prop)(x:Nat):Prop:=∃t,o x=IT t/\C t.1
def ay.set(o:ay)(b:Nat)(t:Tag):ay:=λx=>if x=b then IT t else o x
@[simp] theorem ay.tU(o:ay)(b:Nat)(t:Tag):o.set b t b=IT t:=by simp[ay.set]
theorem ay.dB(o:ay){b x:Nat}(t:Tag)(h:x≠b):o.set b t x=o x:=by simp[ay.set,h]
theorem ay.ne{o:ay}{x y:Nat}{s t:Tag}(a:o x=IT s)(b:o y=IT t)(h:s≠t):x≠y:=M2
theorem ay.Jf{o:ay}{C:Nat->Prop}{x:Nat}{t:Tag}(a:o x=IT t)(h:¬C t.1):¬o.In C x:=by rintro⟨s,c,b⟩;grind
theorem ay.eB{o:ay}{C:Nat->Prop}{x:Nat}(a:o x=KK):¬o.In C x:=by rintro⟨s,b,_⟩;grind
def cX(n:Nat)(o o':ay):Prop:=∀x,x<n->o' x=o x
theorem cX.refl(n:Nat)(o:ay):cX n o o:=λ_ _=>rfl
theorem cX.trans{n a:Nat}{o o' b:ay}(h:cX n o o')(k:cX a o' b)(d:n<=a):cX n o b:=λx c=>(k x af).trans (h x c)
theorem cX.set{n:Nat}{o o':ay}(h:cX n o o'){b:Nat}(c:n<=b)(t:Tag):cX n o (o'.set b t):=λx a=>by rw[ay.dB _ _ af];exact h x a
theorem aN.owned{o o':ay}{C:Nat->Prop}{w w' a:KX}(h:aN (o.In C) w w')(b:cX w.heap.size o o')(k:aN (o'.In C) w' a):aN (o.In C) w a:=
 h.trans k λx c ⟨t,e,d⟩=>⟨t,by rw[<- b x c];exact e,d⟩
theorem Tryz.Lv:laidOutB prog=true:=ah
theorem kW:Keyed prog 9:=string_keyed Tryz.underlying9
theorem oF:∀a b:ByteArray,ki a=ki b->a=b:=(M2)
theorem pM{s:ByteArray}(h:s.size<=maxLen):Good prog 9 (.string s):=⟨.string s.data.toList,by simp[keyOf,mapKey,Tryz.underlying9,h]⟩
theorem Wf:(90:TypeId)<prog.types.size:=(Nc)
theorem S5:(match prog.underlying 90 with | some (.array _ _) | some (.struct _)=>Jd | _=>J0)=true:=by rw[Tryz.underlying90]
theorem Dp:Keyed prog 90:=Keyed.of_law (deep_law_laid Tryz.Lv (m:=2) af Wf ah S5)
def eZ(k:ByteArray×Nat):Value:=LV #[.string k.1,k.2]
theorem iz:∀a b,eZ a=eZ b->a=b:=by grind [eZ]
theorem S6{s:ByteArray}{n:Nat}(h:s.size<=maxLen)(j:n<9223372036854775808):Good prog 90 (eZ (s,n)):=by
 have f:prog.keyType 90=true:=ah;have a:prog.cellsOf 90=2:=by rfl
 have c:prog.cellsOf 9=1:=by rfl
 have b:prog.cellsOf 3=1:=by rfl
 have e:(Lit.int Mm (n:Int)).wf=true:=by
  have:(Lit.int Mm (n:Int)).wf=(decide (-9223372036854775808<=(n:Int)) && decide ((n:Int)<=9223372036854775807)):=by rfl
  grind
 have g:∀d,prog.keyLits (d+2) 90 [.string s,.int Mm (n:Int)]=IT [.string s.data.toList,.int Mm (n:Int)]:=by intro d;simp[Program.keyLits,Tryz.underlying90,Tryz.underlying9,Tryz.underlying3,a,c,b,h,e]
 unfold Good eZ keyOf;rw[Tryz.underlying90];simp only[f,Value.formed,Tryz.underlying90,a];have i:prog.keyLits (prog.types.size+1) 90 (DS #[.string s,.int Mm (n:Int)]).cells.toList=IT [.string s.data.toList,.int Mm (n:Int)]:=g (prog.types.size-1);simp_all
theorem Lx(w:KX):K1 prog 270 #[Kx MM 0] w λe w'=>e=Mk (.bool J0)/\w=w':=by go_enter func270,ntmps270;go_wp2;go_ret;simp
theorem Gd(v:J3)(k:Nat)(w:KX)(p:Rd w v (ei k 0)):K1 prog 288 #[v,.func (.func 270) #[] #[]] w λe w'=>e=Mk (Kx Mm (-1))/\w=w':=by
 obtain⟨a,cap,l,h,g,d⟩:=p;rw[pn]at l h;have n:=ae d;clear d;subst l;unfold maxLen at g;go_enter func288,ntmps288;go_wp2;go_loop [8] (λi=>∃j:Nat,j<=k/\i=Kx Mm j) (λi=>k-(Lo i).toNat)
 case atStart=>grind
 case round=>
  obtain⟨j,q,rfl⟩:=hrel;by_cases o:j<k
  .rcases n.out with d |⟨b,m,rfl,d⟩
   .grind
   have c:=d j M2;rw[List.getElem_replicate]at c;have f:bv 0=Kx MM 0:=rfl;rw[f]at c;clear d f;go_wp2_with (go_at_call 270;go_call(Lx _) as e w'⟨rfl,rfl⟩);grind [Lo]
  .go_wp2_with fail;go_ret;simp
theorem Ak(v:J3)(k:Nat)(w:KX)(a:Rd w v (ei k 0)):K1 prog 269 #[v,.func (.func 270) #[] #[]] w λe w'=>e=Mk (.bool J0)/\w=w':=by go_enter func269,ntmps269;go_wp2_with fail;go_call(Gd v k _ a) as e w'⟨rfl,rfl⟩;go_wp2_with fail;go_ret;simp
structure Hn(tag num:Nat)(bs p:List UInt8):Prop where
 len:p.length=256
 sum:gw ((p.drop 252).take 4)=gX (p.take 252)
 tag:gw ((p.drop 0).take 4)=tag
 num:gw ((p.drop 4).take 4)=num
 size:gw ((p.drop 8).take 2)=bs.length
 none:gw ((p.drop 10).take 2)=0
 zeros:(p.drop (12+bs.length)).take (240-bs.length)=ei (240-bs.length) 0
 body:(p.drop 12).take bs.length=bs
theorem tV(a b:List UInt8)(n:Nat)(h:a.length=n):(a++b).take n=a:=M2
theorem mL(a b:List UInt8)(n:Nat)(h:a.length=n):(a++b).drop n=b:=M2
theorem Jg(tag a:Nat)(bs:List UInt8)(f:bs.length<=240)(m:tag<4294967296)(l:a<4294967296):Hn tag a bs (cP tag a bs):=by
 have g:=iH tag a bs f;have e:cP tag a bs=le tag 4++(le a 4++(le bs.length 2++(le 0 2++(bs++(ei (240-bs.length) 0++le (gX (cG tag a bs)) 4))))):=by simp[cP,cG,lX]
 have h:(cP tag a bs).take 252=cG tag a bs:=tV _ _ _ g;have d:(cP tag a bs).drop 252=le (gX (cG tag a bs)) 4:=mL _ _ _ g;have j:(cP tag a bs).drop 4=le a 4++(le bs.length 2++(le 0 2++(bs++(ei (240-bs.length) 0++le (gX (cG tag a bs)) 4)))):=by grind [bL]
 have i:(cP tag a bs).drop 8=le bs.length 2++(le 0 2++(bs++(ei (240-bs.length) 0++le (gX (cG tag a bs)) 4))):=by grind [mL,bL]
 have c:(cP tag a bs).drop 10=le 0 2++(bs++(ei (240-bs.length) 0++le (gX (cG tag a bs)) 4)):=by grind [mL,bL]
 have b:(cP tag a bs).drop 12=bs++(ei (240-bs.length) 0++le (gX (cG tag a bs)) 4):=by rw[show 12=10+2 from rfl,<- List.drop_drop,c];rfl
 have k:=ry (cG tag a bs);refine⟨dW tag a bs f,?_,?_,?_,?_,?_,?_,?_⟩
 .grind [bL,kV]
 .grind [bL,kV]
 .grind [bL,kV]
 .grind [bL,kV]
 .rfl
 .rw[<- List.drop_drop,b,mL _ _ _ rfl,tV _ _ _ ai]
 grind
theorem Wh(tag g:Nat)(v:J3)(bs p:List UInt8)(w:KX)(U:Rd w v p)(O:Hn tag g bs p)(hl:bs.length<=240)(ht:tag<4294967296)(hn:g<4294967296):K1 prog 234 #[v,Kx Mo tag,Kx Mo g] w (xD w bs):=by
 have q:Lk (∀W,Lg w w W->Rd W v p):=ae λW h=>U.below h;obtain⟨a,cap,he,G,P,hc⟩:=U;rw[O.len]at he G;subst he;clear hc;unfold maxLen at P;have c:=ae O;clear O;go_enter func234,ntmps234;go_wp2_with fail;go_step3
 go_wp2_with fail;obtain⟨n,L⟩:=ac (w.alloc (Mi #[Kx MJ 0,Kx MJ 0,Kx MJ 0,Kx MJ 0] 323));have r:Lk (Lg w w n):=ae (by rw[L];exact aq.alloc af _);have E:Lk (n.heap[w.heap.size]? = IT (Mi #[Kx MJ 0,Kx MJ 0,Kx MJ 0,Kx MJ 0] 323 (0,0))):=ae (by grind [Lw]);have J:Lk (n.heap.size=w.heap.size+1):=ae Nc;rw[<- L];clear L;have u:Lg n n n.drew:=aq.drew;have x:=ae c.out.sum;have H:(((gX (p.take 252):Nat):Int) != ((gX (p.take 252):Nat):Int))=false:=ai;have T:=ry (p.take 252);have am:(252:Int)<=cap:=af;have S:cf MJ ((gX (p.take 252):Nat):Int)=((gX (p.take 252):Nat):Int):=iQ _ af af;refine dx (Lg n n) (by rfl) ah u ?_;iterate 5 (refine q_op rfl (λw' b=>(by go_simp;rfl)) (λK hK=>?_);go_simp;refine hK _ ?_;clear hK K)
 refine xA rfl (λw' b=>(by go_simp)) (λw' b=>((tT (.slice a 256 cap) p 252 w' (q.out _ (r.out.trans (b.mono r.out.size))) (by rw[c.out.len];omega) (by rw[c.out.len];omega)).mono (λe j h=>⟨h.1,b.trans (h.2.mono b.size)⟩))) (λK hK=>?_);go_simp;refine hK _ ?_;clear hK K;rw[x.out];iterate 2 (refine q_op rfl (λw' b=>(by go_simp;rfl)) (λK hK=>?_);go_simp;refine hK _ ?_;clear hK K)
 refine xA rfl (λw' b=>(by go_simp)) (λw' b=>((Jc (.slice a 252 cap) (p.take 252) w' ((q.out _ (r.out.trans (b.mono r.out.size))).to (by rw[c.out.len];omega))).mono (λe j h=>⟨h.1,b.trans (h.2.mono b.size)⟩))) (λK hK=>?_);go_simp;refine hK _ ?_;clear hK K;iterate 3 (refine q_op rfl (λw' b=>(by go_simp;rfl)) (λK hK=>?_);go_simp;refine hK _ ?_;clear hK K)
 refine wpQuiet_nil ?_;intro V s;clear u;have C:=ae (r.out.trans (s.mono r.out.size));have N:Lk (V.heap[w.heap.size]? = IT (Mi #[Kx MJ 0,Kx MJ 0,Kx MJ 0,Kx MJ 0] 323 (0,0))):=ae (by grind [EQ,Hid.out]);have y:Lk (w.heap.size<V.heap.size):=ae (by grind [Hid.out]);clear s r E J;go_wp2_with fail;refine(tT (.slice a 256 cap) p 0 _ (q.out _ C.out) (by rw[c.out.len];omega) (by rw[c.out.len];omega)).mono ?_;rintro e w3⟨rfl,d⟩;have D:=ae (C.out.trans (d.mono C.out.size));have R:Lk (w3.heap[w.heap.size]? = IT (Mi #[Kx MJ 0,Kx MJ 0,Kx MJ 0,Kx MJ 0] 323 (0,0))):=ae (by grind [EQ,Hid.out]);have z:=ae (eg y.out d.size);rw[c.out.tag];clear d C N y;clear H S T x;go_wp2_with fail;refine(tT (.slice a 256 cap) p 4 _ (q.out _ D.out) (by rw[c.out.len];omega) (by rw[c.out.len];omega)).mono ?_;rintro e w4⟨rfl,d⟩;have B:=ae (D.out.trans (d.mono D.out.size));have Vw:Lk (w4.heap[w.heap.size]? = IT (Mi #[Kx MJ 0,Kx MJ 0,Kx MJ 0,Kx MJ 0] 323 (0,0))):=ae (by grind [EQ,Hid.out]);have X:=ae (eg z.out d.size);rw[c.out.num];clear d D R z;go_wp2_with fail;refine(Bx (.slice a 256 cap) p 8 _ (q.out _ B.out) (by rw[c.out.len];omega) (by rw[c.out.len];omega)).mono ?_;rintro e w5⟨rfl,d⟩;have m:=ae (B.out.trans (d.mono B.out.size));have S7:Lk (w5.heap[w.heap.size]? = IT (Mi #[Kx MJ 0,Kx MJ 0,Kx MJ 0,Kx MJ 0] 323 (0,0))):=ae (by grind [EQ,Hid.out]);have Z:=ae (eg X.out d.size);rw[c.out.size];clear d B Vw X;go_wp2_with fail;refine(Bx (.slice a 256 cap) p 10 _ (q.out _ m.out) (by rw[c.out.len];omega) (by rw[c.out.len];omega)).mono ?_;rintro e o⟨rfl,d⟩;have I:=ae (m.out.trans (d.mono m.out.size));have f:Lk (o.heap[w.heap.size]? = IT (Mi #[Kx MJ 0,Kx MJ 0,Kx MJ 0,Kx MJ 0] 323 (0,0))):=ae (by grind [EQ,Hid.out]);have al:=ae (eg Z.out d.size);rw[c.out.none];clear d m S7 Z;have b0:o.cell? w.heap.size=IT (Kx MJ 0):=by simp[EV,f.out]
 have b1:o.cell? ⟨w.heap.size,1,KK⟩=IT (Kx MJ 0):=by simp[EV,f.out]
 have b2:o.cell? ⟨w.heap.size,2,KK⟩=IT (Kx MJ 0):=by simp[EV,f.out]
 have b3:o.cell? ⟨w.heap.size,3,KK⟩=IT (Kx MJ 0):=by simp[EV,f.out]
 have f6:∀k,o.frozen? ⟨w.heap.size,k,KK⟩=false:=λk=>by simp[World.frozen?,f.out]
 have n1:((tag:Int) != (tag:Int))=false:=ai;have l:Lk (Lg w w ((((o.setCell w.heap.size (Kx MJ tag)).setCell ⟨w.heap.size,1,KK⟩ (Kx MJ g)).setCell ⟨w.heap.size,2,KK⟩ (Kx MJ bs.length)).setCell ⟨w.heap.size,3,KK⟩ (Kx MJ 0))):=
  ae ((((I.out.setCell (cg _) _).setCell (cg _) _).setCell (cg _) _).setCell (cg _) _)
 have t:=ae (q.out _ l.out);go_wp2_with fail;refine(Ak _ (252-(12+bs.length)) _ ?_).mono ?_
 .have F:=t.out.sub (i:=12+bs.length) (k:=252-(12+bs.length)) (by rw[c.out.len];omega);have h2:=c.out.zeros;grind
 rintro e w'⟨rfl,rfl⟩;have aE:(12:Int)+bs.length<=(cap:Int):=af;go_wp2_with fail;refine(gZ _ bs _ ?_ af).mono ?_
 .have F:=t.out.sub (i:=12) (k:=bs.length) (by rw[c.out.len];omega);rw[c.out.body]at F;exact F
 rintro e w8⟨v8,rfl,A,Y⟩;have M:=ae (aQ A l.out.size);have Q:=ae (l.out.trans (Y.mono l.out.size));clear A Y;go_wp2_with fail;rw[Exit.noGoto_ret];go_ret2;exact⟨v8,rfl,M.out,Q.out⟩
open Go.ChangeMaps (setBlock heap_setBlock_same heap_setBlock_other)
abbrev Name:=ByteArray
structure bY where
 now:List UInt8
 iY:List UInt8
structure Dsk where
 files:List (Name×bY)
 loose:List ((Name×Nat)×Unit)
 bU:Nat
 dS:Nat
 dead:Bool
namespace Dsk
def tick(d:Dsk):Dsk:=if 0<d.dS then { d with dS:=d.dS-1,dead:=d.dead || d.dS-1 == 0 } else d
def err(d:Dsk):Nat:=if d.dead then 6 else 0
end Dsk
def jn(n:Nat):Nat:=(n+63)/64
def fq(fs:List (Name×bY)):Nat:=(fs.map (λp=>jn p.2.now.length)).sum
structure Dsk.Ok(d:Dsk):Prop where
 bU:d.bU<=1048576
 dS:d.dS<9223372036854775808
 used:fq d.files<=1048576
theorem Lz{a b:List (Name×bY)}(h:a.Perm b):fq a=fq b:=(h.map _).sum_nat
theorem vM(fs:List (Name×bY))(name:Name):fq (b9 fs name)<=fq fs:=by
 unfold fq b9;induction fs with
 |nil=>simp
 |cons p fs a=>grind
theorem lY(fs:List (Name×bY))(name:Name)(f:bY):fq (aX fs name f)=jn f.now.length+fq (b9 fs name):=by rfl
theorem xE{fs:List (Name×bY)}{name:Name}{f:bY}(a:(fs.map (·.1)).Nodup)(h:aI fs name=IT f):fq fs=jn f.now.length+fq (b9 fs name):=by rw[<- lY fs name f];obtain⟨j,b⟩:=hY.1 (fy h);grind [set_perm,List.set_getElem_self,Lz]
def kX(b:UInt8):Bool:=(decide (97<=b.toNat) && decide (b.toNat<=122)) || (decide (48<=b.toNat) && decide (b.toNat<=57)) || b.toNat == 46 || b.toNat == 45
def b6(s:Name):Bool:=s.data.toList.all kX && decide (1<=s.size) && decide (s.size<=24)
theorem LA{s:Name}(h:b6 s=Jd):s.size<=24:=by grind [b6]
def ptrTo(b:Nat):Value:=.pointer b
theorem au{w:KX}{b:Nat}{t:TypeId}(h:w.heap[b]? = IT (Mi k t))(i:Nat):w.cell? ⟨b,i,KK⟩=k[i]? := by simp[EV,h]
theorem aO{w:KX}{b:Nat}{t:TypeId}(h:w.heap[b]? = IT (Mi k t))(i:Nat):w.frozen? ⟨b,i,KK⟩=false:=by simp[World.frozen?,h]
theorem aS{w:KX}{b:Nat}{t:TypeId}(h:w.heap[b]? = IT (Mi k t))(i:Nat)(u:J3):(w.setCell ⟨b,i,KK⟩ u).heap[b]? = IT (Mi (k.setIfInBounds i u) t):=by grind [World.setCell]
def sf(c:Nat):Prop:=c<6
structure dR(w:KX)(o:ay)(pf:Nat)(f:bY):Prop where
 own:o pf=IT (3,0)
 rows:∃t v u,w.heap[pf]? = IT (Mi #[v,u] t)/\w.ownsRow 0 5 1 v f.now.length (f.now.map bv)/\(∀b,v.ownBlock=IT b->o b=IT (4,pf)) /\
  w.ownsRow 0 5 1 u f.iY.length (f.iY.map bv)/\∀b,u.ownBlock=IT b->o b=IT (5,pf)
 most:f.now.length<=16777216/\f.iY.length<=16777216
def jS(w:KX)(db b c:Nat)(a dS:Nat)(dead:Bool):Prop:=
 ∃t,w.heap[db]? = IT (Mi #[.map (IT b),.map (IT c),a,dS,.bool dead] t)
abbrev FileMap:=cj prog 9 ki (λx:Nat×bY=>ptrTo x.1)
abbrev Dr:=cj prog 90 eZ (λ_:Unit=>.bool Jd)
structure cZ(w:KX)(db:Nat)(o:ay)(mf ml:Nat)(l:List (Name×(Nat×bY)))(d:Dsk):Prop where
 Ge:o db=IT (0,0)
 FA:o mf=IT (1,0)
 Gf:o ml=IT (2,0)
 head:jS w db mf ml d.bU d.dS d.dead
 files:FileMap w mf l
 strip:l.map (λp=>(p.1,p.2.2))=d.files
 apart:(l.map (·.2.1)).Nodup
 each:∀p∈l,dR w o p.2.1 p.2.2
 loose:Dr w ml d.loose
 owned:∀x t,o x=IT t->x<w.heap.size
 ok:d.Ok
def cI(w:KX)(db:Nat)(o:ay)(d:Dsk):Prop:=∃mf ml l,cZ w db o mf ml l d
section
variable {S:Nat->Prop}{w w':KX}{o o':ay}{db mf ml pf:Nat}{l:List (Name×(Nat×bY))}{d:Dsk}{f:bY}
theorem aN.heap(a:aN S w w'){b:Nat}{x:Obj}(h:w.heap[b]? = IT x)(c:¬S b):w'.heap[b]? = IT x:=
 (a.block b M2 c).trans h
theorem dR.kept'(h:dR w o pf f)(a:aN S w w')(i:¬S pf)(k:∀x,o x=IT (4,pf)->¬S x)(l:∀x,o x=IT (5,pf)->¬S x)(g:∀x t,o x=IT t->o' x=IT t):dR w' o' pf f:=by obtain⟨d,⟨t,v,u,e,b,m,c,n⟩,j⟩:=h;exact⟨g _ _ d,⟨t,v,u,a.heap e i,a.ownsRow b M2,M2,a.ownsRow c M2,M2⟩,j⟩
theorem dR.kept(h:dR w o pf f)(a:aN S w w')(c:∀x t,o x=IT t->3<=t.1->t.1<6->¬S x)(b:∀x t,o x=IT t->o' x=IT t):dR w' o' pf f:=
 h.kept' a (c _ _ h.own ag ag) M2 M2 b
theorem jS.kept{q a:Nat}{b:Bool}(h:jS w db mf ml q a b)(c:aN S w w')(d:¬S db):jS w' db mf ml q a b:=by obtain⟨t,h⟩:=h;exact⟨t,c.heap h d⟩
theorem jS.cells{q a:Nat}{b:Bool}(h:jS w db mf ml q a b) :
 (w.cell? db=IT (.map (IT mf))/\w.cell? ⟨db,1,KK⟩=IT (.map (IT ml))/\w.cell? ⟨db,2,KK⟩=q/\w.cell? ⟨db,3,KK⟩=a/\w.cell? ⟨db,4,KK⟩=IT (.bool b)) /\
   w.frozen? ⟨db,2,KK⟩=J0/\w.frozen? ⟨db,3,KK⟩=J0/\w.frozen? ⟨db,4,KK⟩=false:=by obtain⟨t,h⟩:=h;refine⟨⟨?_,?_,?_,?_,?_⟩,aO h _,aO h _,aO h _⟩<;>rw[au h]<;>rfl
theorem jS.set{q a:Nat}{b:Bool}(h:jS w db mf ml q a b)(c:Nat)(d:Bool):jS ((w.setCell ⟨db,3,KK⟩ c).setCell ⟨db,4,KK⟩ (.bool d)) db mf ml q c d:=by obtain⟨t,h⟩:=h;exact⟨t,by rw[aS (aS h _ _)];rfl⟩
theorem cj.turn{e:Type}{P:Program}{c:TypeId}{d:e->J3}{a:υ->J3}{b:Nat}{m:List (e×υ)}(h:cj P c d a w b m)(g:aN S w w')(f:¬S b):cj P c d a w' b m:=
 h.kept (g.block b h.lt f)
theorem cZ.kept(h:cZ w db o mf ml l d)(b:aN S w w')(c:∀x t,o x=IT t->t.1<6->¬S x)(a:∀x t,o x=IT t->o' x=IT t)(f:∀x t,o' x=IT t->x<w'.heap.size):cZ w' db o' mf ml l d where
 Ge:=a _ _ h.Ge
 FA:=a _ _ h.FA
 Gf:=a _ _ h.Gf
 head:=h.head.kept b (c _ _ h.Ge ag)
 files:=h.files.turn b (c _ _ h.FA ag)
 strip:=h.strip
 apart:=h.apart
 each:=λp e=>(h.each p e).kept b M2 a
 loose:=h.loose.turn b (c _ _ h.Gf ag)
 owned:=f
 ok:=h.ok
theorem cI.kept(h:cI w db o d)(b:aN S w w')(e:∀x t,o x=IT t->t.1<6->¬S x)(c:∀x t,o x=IT t->o' x=IT t)(a:∀x t,o' x=IT t->x<w'.heap.size):cI w' db o' d:=by obtain⟨mf,ml,l,h⟩:=h;exact⟨mf,ml,l,h.kept b e c a⟩
theorem cZ.below(h:cZ w db o mf ml l d)(a:Lg w w w'):cZ w' db o mf ml l d:=
 h.kept (S:=λ_=>False) (aN.aZ a) M2 M2 (λx t b=>eg (h.owned x t b) a.size)
theorem cI.below(h:cI w db o d)(a:Lg w w w'):cI w' db o d:=by obtain⟨mf,ml,l,h⟩:=h;exact⟨mf,ml,l,h.below a⟩
theorem cZ.Al(h:cZ w db o mf ml l d)(c:aN (·=db) w w'){q a:Nat}{b:Bool}(f:jS w' db mf ml q a b)(j:q<=1048576)(g:a<9223372036854775808):cZ w' db o mf ml l { d with bU:=q,dS:=a,dead:=b } where
 Ge:=h.Ge
 FA:=h.FA
 Gf:=h.Gf
 head:=f
 files:=h.files.turn c (ay.ne h.FA h.Ge ag)
 strip:=h.strip
 apart:=h.apart
 each:=λp i=>(h.each p i).kept c (λx t e k _=>ay.ne e h.Ge M2) M2
 loose:=h.loose.turn c (ay.ne h.Gf h.Ge ag)
 owned:=λx t e=>eg (h.owned x t e) c.size
 ok:=⟨j,g,h.ok.used⟩
theorem cZ.Jh(h:cZ w db o mf ml l d)(g:aN S w w')(m:∀x,S x->x=mf\/∃t,o x=IT t/\3<=t.1)(c:∀x t,o x=IT t->o' x=IT t){a:List (Name×(Nat×bY))}(e:FileMap w' mf a)(b:(a.map (·.2.1)).Nodup)(k:∀p∈a,dR w' o' p.2.1 p.2.2)(i:∀x t,o' x=IT t->x<w'.heap.size)(j:fq (a.map (λp=>(p.1,p.2.2)))<=1048576) :
 cZ w' db o' mf ml a { d with files:=a.map (λp=>(p.1,p.2.2)) }:=by
 have f:∀x t,o x=IT t->t.1<3->x≠mf->¬S x:=(M2);exact {
  Ge:=c _ _ h.Ge
  FA:=c _ _ h.FA
  Gf:=c _ _ h.Gf
  head:=h.head.kept g (f _ _ h.Ge ag (ay.ne h.Ge h.FA ag))
  files:=e
  strip:=rfl
  apart:=b
  each:=k
  loose:=h.loose.turn g (f _ _ h.Gf ag (ay.ne h.Gf h.FA ag))
  owned:=i
  ok:=⟨h.ok.bU,h.ok.dS,j⟩ }
end
section
variable {l:List (Name×(Nat×bY))}{name:Name}
def bare(l:List (Name×(Nat×bY))):List (Name×bY):=l.map (λp=>(p.1,p.2.2))
theorem uO:aI (bare l) name=(aI l name).map (·.2):=by
 unfold bare aI;induction l with
 |nil=>rfl
 |cons p l a=>grind
theorem Hp:bare (b9 l name)=b9 (bare l) name:=by unfold bare b9;rw[List.filter_map];rfl
theorem Hq{x:Nat×bY}:bare (aX l name x)=aX (bare l) name x.2:=by unfold aX;rw[<- Hp];rfl
theorem Pf(h:(l.map (·.2.1)).Nodup):((b9 l name).map (·.2.1)).Nodup:=(List.filter_sublist.map _).nodup h
theorem Wi(h:(l.map (·.2.1)).Nodup){p q:Name×(Nat×bY)}(a:p∈l)(c:q∈l)(e:p.2.1=q.2.1):p=q:=by
 induction l with
 |nil=>cases a
 |cons x l b=>grind
theorem aeS(h:(l.map (·.2.1)).Nodup){x:Nat×bY}(b:aI l name=IT x)(f:bY):((aX l name (x.1,f)).map (·.2.1)).Nodup:=by unfold aX;rw[oj,GB];refine⟨λd=>?_,Pf h⟩;obtain⟨q,a,e⟩:=gl.1 d;obtain⟨a,c⟩:=jk.1 a;have:=Wi h a (fy b) e;grind
theorem Ta{a:Type}[DecidableEq a]{m:List (a×υ)}(b:(m.map (·.1)).Nodup){k:a}{v:υ}(h:aI m k=IT v):(aX m k v).Perm m:=by
 obtain⟨j,c⟩:=hY.1 (fy h);refine(set_perm b c v).symm.trans ?_;have:m.set j (k,v)=m:=by grind [List.set_getElem_self]
 rw[this]
theorem Tb{g:α->β}{L X:List β}(h:L.Perm X):∀{m:List α},X=m.map g->∃l:List α,l.Perm m/\L=l.map g:=by
 induction h with
 |nil=>simp
 |cons x _ c=>
   intro m e;cases m with
   |nil=>cases e
   |cons p m=>rw[oj,List.cons.injEq]at e;obtain⟨l,b,a⟩:=c e.2;exact⟨p::l,b.cons p,M2⟩
 |swap x y l=>
   intro m e;match m,e with
   |p::q::m,e=>rw[oj,oj,List.cons.injEq,List.cons.injEq]at e;exact⟨q::p::m,.swap _ _ _,M2⟩
 |trans _ _ ih1 ih2=>intro m e;obtain⟨i,f,a⟩:=ih2 e;obtain⟨k,d,j⟩:=ih1 a;grind [List.Perm.trans]
theorem cj.aiu{f:Type}{P:Program}{i:TypeId}{c:f->J3}{a:υ->J3}{w:KX}{b:Nat}{m m':List (f×υ)}(h:cj P i c a w b m)(t:m.map (λp=>(c p.1,a p.2))=m'.map (λp=>(c p.1,a p.2))):cj P i c a w b m':=by
 obtain⟨es,q,l,n,s,j,k,o⟩:=h;have g:(l.map (λp=>(c p.1,a p.2))).Perm (m'.map (λp=>(c p.1,a p.2))):=(M2);rw[<- k]at g;obtain⟨l',d,e⟩:∃l':List (f×υ),l'.Perm m'/\es.toList.map (λe=>(e.key,e.val))=l'.map (λp=>(c p.1,a p.2)):=by exact Tb g rfl
 refine⟨es,q,l',n,d,j,e,λp r=>?_⟩;have u:(c p.1,a p.2)∈m.map (λp=>(c p.1,a p.2)):=M2;grind
end
theorem kH{w:KX}{db:Nat}{o:ay}{d:Dsk}(h:cI w db o d):K1 prog 90 #[ptrTo db] w λe w'=>e=d.tick.err/\cI w' db o d.tick/\aN (o.In sf) w w':=by
 obtain⟨mf,ml,l,h⟩:=h;obtain⟨⟨r,z,y,k,g⟩,B,x,E⟩:=h.head.cells;have b:=ae h;have p:=h.ok.dS;have F:=ae p;clear h p;unfold ptrTo;by_cases t:0<d.dS
 .have g0:((d.dS:Int)>0):=af;have C:wrap64 ((d.dS:Int)-1)=(d.dS-1:Nat):=by grind [Hid.out,wrap64]
  have f:=λD s j=>b.out.Al (((aN.refl (·=db) w).setCell _ _ (.inl rfl)).setCell _ _ (.inl rfl)) (b.out.head.set D s) b.out.ok.bU j
  have c:∀u v,aN (o.In sf) w ((w.setCell ⟨db,3,KK⟩ u).setCell ⟨db,4,KK⟩ v):=λu v=>((aN.refl _ _).setCell _ _ (.inl ⟨_,b.out.Ge,by show 0<6;decide⟩)).setCell _ _ (.inl ⟨_,b.out.Ge,by show 0<6;decide⟩)
  have f:=ae f;have c:=ae c;have i:d.tick={ d with dS:=d.dS-1,dead:=d.dead || d.dS-1 == 0 }:=by grind [Dsk.tick]
  unfold Dsk.err;rw[i];clear i;by_cases m:d.dS=1
  .have q:d.dS-1=0:=af;rw[m]at k;clear C g0;have n:(d.dS-1 == 0)=true:=M2;rw[n,Bool.or_true,q];clear n q m t;cases a:d.dead with
   |true=>rw[a]at g;go_enter func90,ntmps90;go_wp2;go_ret;exact⟨rfl,⟨mf,ml,l,f.out 0 Jd af⟩,c.out _ _⟩
   |false=>rw[a]at g;go_enter func90,ntmps90;go_wp2;go_ret;exact⟨rfl,⟨mf,ml,l,f.out 0 Jd af⟩,c.out _ _⟩
  .have A:(d.dS-1 == 0)=false:=M2;rw[A,Bool.or_false];cases a:d.dead with
   |true=>rw[a]at g;go_enter func90,ntmps90;go_wp2;go_ret;exact⟨rfl,⟨mf,ml,l,f.out _ _ (by grind [Hid.out])⟩,c.out _ _⟩
   |false=>rw[a]at g;go_enter func90,ntmps90;go_wp2;go_ret;exact⟨rfl,⟨mf,ml,l,f.out _ _ (by grind [Hid.out])⟩,c.out _ _⟩
 .have i:d.tick=d:=by grind [Dsk.tick]
  rw[i];unfold Dsk.err;cases a:d.dead with
  |true=>rw[a]at g;go_enter func90,ntmps90;go_wp2;go_ret;exact⟨rfl,⟨mf,ml,l,b.out⟩,aN.refl _ _⟩
  |false=>rw[a]at g;go_enter func90,ntmps90;go_wp2;go_ret;exact⟨rfl,⟨mf,ml,l,b.out⟩,aN.refl _ _⟩
section
open Go.ChangeMaps (setBlock heap_setBlock_same heap_setBlock_other)
theorem yG{w:KX}{db:Nat}{o:ay}{d:Dsk}(h:cI w db o d):K1 prog 244 #[ptrTo db] w λe w'=>e=d.err/\w=w':=by
 obtain⟨mf,ml,l,h⟩:=h;obtain⟨⟨f,j,g,k,b⟩,i,c,m⟩:=h.head.cells;clear h;unfold ptrTo Dsk.err;cases a:d.dead with
 |true=>rw[a]at b;go_enter func244,ntmps244;go_wp2;go_ret;simp
 |false=>rw[a]at b;go_enter func244,ntmps244;go_wp2;go_ret;simp
theorem Bz(n:Nat)(w:KX)(a:n<=1099511627776):K1 prog 247 #[n] w λe w'=>e=((n+63)/64:Nat)/\w=w':=by go_enter func247,ntmps247;go_wp2;go_ret;refine⟨?_,rfl⟩;simp;omega
theorem Ji{s:Name}{j:Nat}(a:j<s.data.toList.length)(h:kX s.data.toList[j]=J0):b6 s=false:=by grind [b6]
def aaH(s:Name)(j:Nat):Prop:=∀k(h:k<s.data.toList.length),k<j->kX s.data.toList[k]=Jd
theorem aaH.all{s:Name}(h:aaH s s.size):s.data.toList.all kX=true:=by rw[ms];intro b c;obtain⟨k,a,rfl⟩:=List.getElem_of_mem c;exact h k a Nd
set_option linter.unusedSimpArgs false in
theorem uP(s:Name)(w:KX)(L:s.size<=1000):K1 prog 162 #[.string s] w λe w'=>e=Mk (.bool (b6 s))/\Lg w w w':=by
 have A:=ae (qD w s L);have n:=ae (Joins.below_bytesWorld w.heap.size w 5 s (cg _));have r:=λW=>Lib.run_convert_string_bytes (P:=prog) W 9 46 5 s Tryz.underlying9 Tryz.underlying46 Tryz.underlying5;go_enter func162,ntmps162;go_wp2;clear r;have f:s.data.toList.length=s.size:=by rfl
 have O:=ae f;clear f;obtain⟨a,cap,x,_,_,g⟩:=A.out;simp only[Value.slice.injEq]at x;obtain⟨rfl,q,_⟩:=x;have C:=ae g;clear g q A;go_loop [8] (λi=>∃j:Nat,j<=s.size/\i=Kx Mm j/\aaH s j) (λi=>s.size-(Lo i).toNat)
 case atStart=>exact⟨0,af,rfl,λk _ h=>af⟩
 case round=>
  obtain⟨j,Q,rfl,o⟩:=hrel;by_cases M:j<s.size
  .have v:j<s.data.toList.length:=Nc;rcases C.out with g |⟨b,F,l,g⟩
   .omega
   simp only[Option.some.injEq,Addr.mk.injEq]at l;obtain⟨rfl,rfl,_⟩:=l;have c:=g j v;rw[j0]at c;clear g;unfold bv at c;have m:=(s.data.toList[j]).toNat_lt;generalize y:s.data.toList[j]=B at c m
   have K:=ae y;clear y;generalize u:B.toNat=N at c m
   have J:=ae u;clear u;have p:Lk (kX B=J0->b6 s=J0):=ae (λh=>Ji v (by grind [Hid.out]));have I:Lk (kX B=Jd->aaH s (j+1)):=ae (λh k G D=>by
    by_cases e:k=j
    .grind [Hid.out]
    .exact o k G af)
   have E:Lk (kX B=((decide (97<=N) && decide (N<=122)) || (decide (48<=N) && decide (N<=57)) || N == 46 || N == 45)):=ae (by grind [kX,Hid.out]);clear K J;go_wp2;all_goals first
    | (go_ret
       have H:b6 s=false:=p.out (by grind [Hid.out]);rw[H];exact⟨rfl,n.out⟩)
    | (go_round
       case rel=>
        refine⟨_,_,_,⟨j+1,af,?_,I.out ?_⟩,rfl,rfl,rfl⟩
        .go_num
        grind [Hid.out]
       grind [Lo])
  .obtain rfl:j=s.size:=af;have d:=ae o.all;clear o;by_cases t:1<=s.size
   .by_cases z:s.size<=24
    .go_wp2;go_ret;refine⟨?_,n.out⟩;unfold b6;rw[d.out];simp[t,z];omega
    .go_wp2;go_ret;refine⟨?_,n.out⟩;unfold b6;rw[d.out];simp[t,z];omega
   .go_wp2;go_ret;refine⟨?_,n.out⟩;unfold b6;simp_all
def kY(l:List (Name×(Nat×bY)))(name:Name)(a:Bool):J3×Nat:=
 if b6 name && a then (match aI l name with | some x=>(ptrTo x.1,0) | none=>(.pointer KK,3)) else (.pointer KK,1)
theorem rA{w:KX}{db r A:Nat}{o:ay}{l:List (Name×(Nat×bY))}{d:Dsk}(h:cZ w db o r A l d)(name:Name)(a:Bool)(j:name.size<=1000):K1 prog 91 #[ptrTo db,.string name,.bool a] w λe w'=>e=Mk (Ly #[(kY l name a).1,(kY l name a).2])/\Lg w w w':=by
 have v:=ae h;clear h;unfold ptrTo;cases c:b6 name with
 |false=>
   have b:kY l name a=(.pointer KK,1):=by grind [kY]
   rw[b];have g:=ae c;clear c;go_enter func91,ntmps91;go_wp2_with fail;go_call(uP _ _ j) as e w1⟨rfl,hb1⟩;rw[g.out];go_wp2;go_returns;simp_all
 |true=>
   have g:=ae c;cases a with
   |false=>
     have b:kY l name J0=(.pointer KK,1):=by grind [kY]
     rw[b];clear c;go_enter func91,ntmps91;go_wp2_with fail;go_call(uP _ _ j) as e w1⟨rfl,hb1⟩;rw[g.out];go_wp2;go_returns;simp_all
   |true=>
     have y:=pM (s:=name) (by grind [maxLen]);have z:∀W:KX,(zeroValue 80).run prog W=.ok (.pointer KK) W:=λW=>by rfl
     cases i:aI l name with
     |none=>
       have b:kY l name Jd=(.pointer KK,3):=by grind [kY]
       rw[b];have m:=ae i;clear i c b;go_enter func91,ntmps91;go_wp2_with fail;go_call(uP _ _ j) as e w1⟨rfl,hb1⟩;rw[g.out];have f:=ae (v.out.below hb1);obtain⟨⟨k,q,p,u,C⟩,t,n,B⟩:=f.out.head.cells;go_wp2_with (at_lookup;refine cy _ rfl _ _ _ _ rfl 80 kW oF Tryz.underlying81 (z _) r l rfl f.out.files name rfl y ?_;rw[m.out]);go_returns;simp_all
     |some x=>
       have b:kY l name Jd=(ptrTo x.1,0):=by grind [kY]
       rw[b];have m:=ae i;clear i c b;go_enter func91,ntmps91;go_wp2_with fail;go_call(uP _ _ j) as e w1⟨rfl,hb1⟩;rw[g.out];have f:=ae (v.out.below hb1);obtain⟨⟨k,q,p,u,C⟩,t,n,B⟩:=f.out.head.cells;go_wp2_with (at_lookup;refine cy _ rfl _ _ _ _ rfl 80 kW oF Tryz.underlying81 (z _) r l rfl f.out.files name rfl y ?_;rw[m.out];simp only[ql,Option.getD_some,ptrTo]);go_returns;exact⟨rfl,hb1⟩
namespace Dsk
def settle(d:Dsk)(name:Name):Dsk:={ d with loose:=d.loose.filter (λp=>decide (p.1.1≠name)) }
end Dsk
def kZ(L:List ((Name×Nat)×Unit))(name:Name)(m a:List ((Name×Nat)×Unit)):Prop:=
 (∀p,p∈m↔p∈L/\(p.1.1≠name\/p∈a))/\∀p∈a,p∈L
theorem kZ.struck{L m a rs:List ((Name×Nat)×Unit)}{name:Name}{p:(Name×Nat)×Unit}(h:kZ L name m a)(b:a.Perm (p::rs))(d:∀q∈rs,q.1≠p.1)(c:p.1.1=name):kZ L name (b9 m p.1) rs:=by refine⟨λq=>?_,λq e=>h.2 q (b.mem_iff.2 M2)⟩;rw[jk,h.1 q,b.mem_iff,qk];grind
theorem kZ.passed{L m a rs:List ((Name×Nat)×Unit)}{name:Name}{p:(Name×Nat)×Unit}(h:kZ L name m a)(b:a.Perm (p::rs))(c:p.1.1≠name):kZ L name m rs:=by refine⟨λq=>?_,λq d=>h.2 q (b.mem_iff.2 M2)⟩;rw[h.1 q,b.mem_iff,qk];grind
theorem kZ.done{L m:List ((Name×Nat)×Unit)}{name:Name}(h:kZ L name m [])(d:(m.map (·.1)).Nodup)(a:(L.map (·.1)).Nodup):m.Perm (L.filter (λp=>decide (p.1.1≠name))):=by have b:m.Nodup:=List.Pairwise.of_map _ (λ_ _ h e=>h (by rw[e])) d;have c:L.Nodup:=List.Pairwise.of_map _ (λ_ _ h e=>h (by rw[e])) a;refine(Ft b (c.filter _)).2 λq=>?_;rw[h.1 q,List.mem_filter];simp
theorem cZ.RO{w w':KX}{db f a:Nat}{o:ay}{l:List (Name×(Nat×bY))}{d:Dsk}(h:cZ w db o f a l d)(b:aN (·=a) w w'){s:List ((Name×Nat)×Unit)}(g:Dr w' a s):cZ w' db o f a l { d with loose:=s } where
 Ge:=h.Ge
 FA:=h.FA
 Gf:=h.Gf
 head:=h.head.kept b (ay.ne h.Ge h.Gf ag)
 files:=h.files.turn b (ay.ne h.FA h.Gf ag)
 strip:=h.strip
 apart:=h.apart
 each:=λp i=>(h.each p i).kept b (λx t c j _=>ay.ne c h.Gf (λe=>M2)) (λ_ _ h=>h)
 loose:=g
 owned:=λx t c=>eg (h.owned x t c) b.size
 ok:=⟨h.ok.bU,h.ok.dS,h.ok.used⟩
theorem Dt{w:KX}{db V a:Nat}{o:ay}{l:List (Name×(Nat×bY))}{d:Dsk}(h:cZ w db o V a l d)(name:Name):K1 prog 92 #[ptrTo db,.string name,.func (.func 93) #[] #[]] w λe w'=>e=Mk (Ly #[])/\cZ w' db o V a l (d.settle name)/\aN (·=a) w w':=by
 have i:=ae h;obtain⟨⟨B,t,F,O,je⟩,L,C,Cl⟩:=h.head.cells;clear h B F O je L C Cl;unfold ptrTo;go_enter func92,ntmps92;go_wp2_with (at_range;refine lU _ rfl _ _ rfl 4 Tryz.underlying82 a d.loose rfl i.out.loose ?_;intro ob tj);go_frame
 go_loopw [] (λwr=>∃m s,cL prog 90 eZ (λ_:Unit=>.bool Jd) wr a w.heap.size m s/\aN (·=a) w wr/\kZ d.loose name m s) (λwr=>wr.rangeLeft a w.heap.size)
 case atStart=>exact⟨_,_,tj,(aN.refl _ _).alloc _,λp=>⟨λf=>⟨f,.inr f⟩,λf=>f.1⟩,λp f=>f⟩
 case round=>
  obtain⟨m,s,hi,H,v⟩:=hrel;go_wp2_with (at_next;refine lV _ rfl _ rfl a w.heap.size m s rfl hi ?_ ?_)
  .rintro rfl;go_wp2;go_end0
   refine⟨rfl,i.out.RO H (hi.map.perm (v.done hi.map.keys i.out.loose.keys)),H⟩
  .intro nm n u rs x A f U g k;have E:aN (·=a) w (setBlock x w.heap.size A):=by grind [aN.setBlock,aN.drew]
   have Du:(setBlock x w.heap.size A).cell? ⟨db,1,KK⟩=IT (.map (IT a)):=E.cell t (ay.ne i.out.Ge i.out.Gf ag);have j:((nm,n),u)∈s:=f.mem_iff.2 ai;have I5:((nm,n),u)∈m:=(v.1 _).2 ⟨v.2 _ j,.inr j⟩;have Wk:Lk (Good prog 90 (eZ (nm,n))):=ae (hi.map.good _ I5);have Y:Lk (∀p∈rs,p.1≠(nm,n)):=ae (by have h1:=(f.map (·.1)).nodup_iff.1 hi.keys;grind)
   clear j I5;have z:=ae f;have Q:=ae hi;have S:=ae v;have y:=ae E;have HL:=ae U;clear f hi v E U H;unfold eZ at k;generalize hW:setBlock x w.heap.size A=W at k Du y g;clear hW tj HL A x;go_wp2
   .rename_i K
    obtain rfl:nm=name:=WideShapes.bytes_inj (by grind [ByteArray.toList_eq]);clear K;have G:aN (·=a) w (W.alloc (Mi #[.string nm,Kx Mm n] 90)):=y.out.alloc _;have c:∀{b},b<W.heap.size->(W.alloc (Mi #[.string nm,Kx Mm n] 90)).heap[b]? = W.heap[b]? := λh=>(MapKept.heap_alloc W _).2 _ h;have r:=g.kept (c g.map.lt) (c g.lt);have N:(W.alloc (Mi #[.string nm,Kx Mm n] 90)).cell? W.heap.size=IT (.string nm):=ai;have D:(W.alloc (Mi #[.string nm,Kx Mm n] 90)).cell? ⟨W.heap.size,1,KK⟩=IT (Kx Mm n):=ai;have k2:(W.alloc (Mi #[.string nm,Kx Mm n] 90)).cell? ⟨db,1,KK⟩=IT (.map (IT a)):=G.cell t (ay.ne i.out.Ge i.out.Gf ag);have ac:=Q.out.left;clear g c;generalize M:W.alloc (Mi #[.string nm,Kx Mm n] 90)=T at G r N D k2 ⊢;generalize hX:W.heap.size=X at N D ⊢;clear M hX k Du y;refine cm (λw'=>∃n,w'=T.drewN n) 5 (by rfl) ah ⟨1,rfl⟩ ?_;simp only[ii,j2,ot,qd];repeat go_big_quiet_step (fail)
    refine wpQuiet_nil ?_;rintro _⟨nq,rfl⟩;have J:cL prog 90 eZ (λ_:Unit=>.bool Jd) (T.drewN nq) a w.heap.size m rs:=r.kept rfl rfl;clear r N D k2;go_wp2_with (at_delete;refine Dd _ rfl _ _ 82 rfl 4 Dp iz Tryz.underlying82 a w.heap.size m rs rfl J (nm,n) rfl Wk.out Y.out ?_;intro es q R;go_frame);go_roundw
    case rel=>exact⟨_,_,R,(G.drewN nq).setBlock _ _ (.inl rfl),S.out.struck z.out Y.out rfl⟩
    case measure=>have Z:=R.left;have P:=z.out.length_eq;grind
   .rename_i I
    have c:∀{b},b<W.heap.size->(W.alloc (Mi #[.string nm,Kx Mm n] 90)).heap[b]? = W.heap[b]? := λh=>(MapKept.heap_alloc W _).2 _ h;have r:=g.kept (c g.map.lt) (c g.lt);go_roundw
    case rel=>exact⟨_,_,r,y.out.alloc _,S.out.passed z.out (λe=>I (congrArg ByteArray.toList e))⟩
    case measure=>have Z:=r.left;have P:=z.out.length_eq;rw[it]at P;rw[Z,Q.out.left];omega
def cS(w:KX)(db:Nat)(o:ay)(d':Dsk)(w':KX):Prop:=
 ∃o',cI w' db o' d'/\aN (o.In sf) w w'/\cX w.heap.size o o'
theorem cS.of{w w':KX}{db:Nat}{o:ay}{d':Dsk}(h:cI w' db o d')(a:aN (o.In sf) w w'):cS w db o d' w':=⟨o,h,a,cX.refl _ _⟩
theorem lZ{w:KX}{db e c:Nat}{o:ay}{l:List (Name×(Nat×bY))}{d:Dsk}(h:cZ w db o e c l d)(name:Name)(a:Bool) :
 ((b6 name && a)=J0/\kY l name a=(.pointer KK,1)) \/
 ((b6 name && a)=Jd/\aI d.files name=KK/\aI l name=KK/\kY l name a=(.pointer KK,3)) \/
 ∃b f,(b6 name && a)=Jd/\aI d.files name=IT f/\aI l name=IT (b,f)/\kY l name a=(.pointer (IT ⟨b,0,KK⟩),0):=by
 have g:aI d.files name=(aI l name).map (·.2):=by rw[<- h.strip];exact uO
 unfold kY;cases i:(b6 name && a) with
 |false=>simp
 |true=>
   cases j:aI l name with
   |none=>grind
   |some x=>exact .inr (.inr ⟨x.1,x.2,rfl,M2,rfl,rfl⟩)
theorem cZ.get{w:KX}{db a b:Nat}{o:ay}{l:List (Name×(Nat×bY))}{d:Dsk}(h:cZ w db o a b l d){name:Name}{c:Nat}{f:bY}(g:aI l name=IT (c,f)):aI d.files name=IT f:=by have e:aI (bare l) name=(aI l name).map (·.2):=uO;grind [strip,bare]
theorem cZ.LC{w:KX}{db a b:Nat}{o:ay}{l:List (Name×(Nat×bY))}{d:Dsk}(h:cZ w db o a b l d):(d.files.map (·.1)).Nodup:=by rw[<- h.strip,rj];exact h.files.keys
theorem cZ.adh{w:KX}{db b a:Nat}{o:ay}{l:List (Name×(Nat×bY))}{d:Dsk}(h:cZ w db o b a l d):o.In sf a:=⟨_,h.Gf,by show 2<6;decide⟩
namespace Dsk
def create(d:Dsk)(name:Name):Dsk×Nat:=
 if d.tick.dead then (d.tick,6) else if b6 name=J0 then (d.tick,1) else if (aI d.files name).isSome then (d.tick,4) else ({ d.tick with files:=aX d.files name ⟨[],[]⟩ },0)
theorem dY(d:Dsk):d.tick.files=d.files:=by grind [tick]
theorem oG(d:Dsk):d.tick.loose=d.loose:=by grind [tick]
theorem xF(d:Dsk):d.tick.bU=d.bU:=by grind [tick]
end Dsk
theorem cZ.aaL{w f:KX}{db a j:Nat}{o:ay}{l:List (Name×(Nat×bY))}{d:Dsk}(h:cZ w db o a j l d)(name:Name){t:TypeId}(i:f=setBlock (w.alloc (Mi #[.slice KK 0 0,.slice KK 0 0] t)) a v)(s:FileMap f a (aX l name (w.heap.size,⟨[],[]⟩))) :
 cZ f db (o.set w.heap.size (3,0)) a j (aX l name (w.heap.size,⟨[],[]⟩)) { d with files:=aX d.files name ⟨[],[]⟩ }:=by
 have n:aN (·=a) w f:=by rw[i];exact((aN.refl (·=a) w).alloc _).setBlock _ _ (.inl rfl)
 have r:a<w.heap.size:=h.files.lt;have D:∀x,o x=KK\/x<w.heap.size:=λx=>by
  cases c:o x with
  |none=>simp
  |some t=>exact .inr (h.owned x t c)
 have k:∀x t,o x=IT t->(o.set w.heap.size (3,0)) x=IT t:=λx t c=>by grind [ay.dB]
 have z:w.heap.size<f.heap.size:=by rw[i];simp[setBlock]
 have m:aX d.files name ⟨[],[]⟩=(aX l name (w.heap.size,⟨[],[]⟩)).map (λp=>(p.1,p.2.2)):=by rw[<- h.strip];exact(Hq (x:=(w.heap.size,(⟨[],[]⟩:bY)))).symm
 rw[m];refine h.Jh n (λx c=>.inl c) k s ?_ ?_ ?_ (by rw[<- m,lY];have:=vM d.files name;have:=h.ok.used;grind [jn])
 .unfold aX;rw[oj,GB];refine⟨λB=>?_,Pf h.apart⟩;obtain⟨q,A,e⟩:=gl.1 B;have:=h.owned _ _ (h.each q (jk.1 A).1).own;grind
 .intro p g;rcases qk.1 g with rfl | g
  .refine⟨ai,⟨t,.slice KK 0 0,.slice KK 0 0,?_,ownsRow_nil _ _ _,λb y=>by grind [B2],ownsRow_nil _ _ _,λb y=>by grind [B2]⟩,ai⟩;grind [bm,Lw]
  .have u:=(jk.1 g).1;exact(h.each p u).kept n (λx t c C _=>ay.ne c h.FA (λe=>M2)) k
 grind [ay.dB]
theorem Ph{w:KX}{db:Nat}{o:ay}{d:Dsk}(h:cI w db o d)(name:Name)(K:name.size<=1000):K1 prog 145 #[ptrTo db,.string name] w λe w'=>e=(d.create name).2/\cS w db o (d.create name).1 w':=by
 have H:=ae h;clear h;unfold ptrTo;cases y:d.tick.dead with
 |true=>
   have a:d.create name=(d.tick,6):=by grind [Dsk.create]
   have i:d.tick.err=6:=by grind [Dsk.err]
   have u:=ae i;rw[a];clear y a i;go_enter func145,ntmps145;go_wp2_with fail;go_call(kH H.out) as e w1⟨rfl,qE,pF⟩;rw[u.out];go_wp2;go_ret;exact⟨rfl,.of qE pF⟩
 |false=>
   have i:d.tick.err=0:=by grind [Dsk.err]
   have u:=ae i;have M:=ae y;clear y i;go_enter func145,ntmps145;go_wp2_with fail;go_call(kH H.out) as e w1⟨rfl,⟨mf,ml,l,qE⟩,pF⟩;rw[u.out];have A:=ae qE;have L:=ae pF;have D:=lZ qE name Jd;rw[Dsk.dY]at D;clear qE pF;go_wp2_with fail;go_call(rA A.out name Jd K) as e w2⟨rfl,hb2⟩;have b:=ae (A.out.below hb2);have m:=ae (L.out.b7 hb2);clear hb2;rcases D with⟨g,c⟩|⟨g,c,n,j⟩|⟨pf,f,g,c,n,j⟩
   .have a:d.create name=(d.tick,1):=by grind [Dsk.create,Hid.out]
    rw[c];have k:=ae a;clear a c g;go_wp2;go_ret;rw[k.out];exact⟨rfl,.of ⟨_,_,_,b.out⟩ m.out⟩
   .have a:d.create name=({ d.tick with files:=aX d.files name ⟨[],[]⟩ },0):=by grind [Dsk.create,Hid.out]
    rw[j];have k:=ae a;have E:=pM (s:=name) (by grind [maxLen]);clear a j n c g;obtain⟨⟨F,t,r,z,J⟩,x,p,I⟩:=b.out.head.cells;clear t r z J x p I;have v:Lk (FileMap (w2.alloc (Mi #[.slice KK 0 0,.slice KK 0 0] 79)) mf l):=ae (b.out.files.kept ((MapKept.heap_alloc _ _).2 _ b.out.files.lt));go_wp2_with (at_mapUpdate;refine fL _ rfl _ _ _ _ rfl 80 kW oF Tryz.underlying81 mf l rfl v.out name (w2.heap.size,⟨[],[]⟩) rfl rfl E ?_;intro es q C;have G:=ae C;clear C);go_ret;rw[k.out];have B:=b.out.aaL name rfl G.out;rw[Dsk.dY]at B;exact⟨rfl,_,⟨_,_,_,B⟩,(m.out.alloc _).setBlock _ _ (.inl ⟨_,b.out.FA,by show 1<6;decide⟩),(cX.refl _ _).set m.out.size _⟩
   .have a:d.create name=(d.tick,4):=by grind [Dsk.create,Hid.out]
    rw[j];have k:=ae a;clear a j n c g;go_wp2;go_ret;rw[k.out];exact⟨rfl,.of ⟨_,_,_,b.out⟩ m.out⟩
namespace Dsk
def remove(d:Dsk)(name:Name):Dsk×Nat:=
 if d.tick.dead then (d.tick,6) else if b6 name=J0 then (d.tick,1) else match aI d.files name with
  |none=>(d.tick,3)
  |some _=>({ d.tick with files:=b9 d.files name,loose:=d.loose.filter (λp=>decide (p.1.1≠name)) },0)
def sync(d:Dsk)(name:Name):Dsk×Nat:=
 if d.tick.dead then (d.tick,6) else if b6 name=J0 then (d.tick,1) else match aI d.files name with
  |none=>(d.tick,3)
  |some f=>({ d.tick with files:=aX d.files name ⟨f.now,f.now⟩,loose:=d.loose.filter (λp=>decide (p.1.1≠name)) },0)
end Dsk
theorem cZ.Wl{w c:KX}{db a g:Nat}{o:ay}{l:List (Name×(Nat×bY))}{d:Dsk}(h:cZ w db o a g l d)(name:Name)(j:c=setBlock w a v)(k:FileMap c a (b9 l name)):cZ c db o a g (b9 l name) { d with files:=b9 d.files name }:=by
 have f:aN (·=a) w c:=by rw[j];exact(aN.refl (·=a) w).setBlock _ _ (.inl rfl)
 have i:b9 d.files name=(b9 l name).map (λp=>(p.1,p.2.2)):=by rw[<- h.strip];exact Hp.symm
 rw[i];refine h.Jh f (λx b=>.inl b) (λ_ _ h=>h) k (Pf h.apart) ?_ (λx t b=>eg (h.owned x t b) f.size) (by rw[<- i];exact cp (vM _ _) h.ok.used);intro p m;exact(h.each p (jk.1 m).1).kept f (λx t b n _=>ay.ne b h.FA (λe=>M2)) (λ_ _ h=>h)
theorem Pj{w:KX}{db:Nat}{o:ay}{d:Dsk}(h:cI w db o d)(name:Name)(P:name.size<=1000):K1 prog 47 #[ptrTo db,.string name] w λe w'=>e=(d.remove name).2/\cS w db o (d.remove name).1 w':=by
 have H:=ae h;clear h;unfold ptrTo;cases B:d.tick.dead with
 |true=>
   have a:d.remove name=(d.tick,6):=by grind [Dsk.remove]
   have i:d.tick.err=6:=by grind [Dsk.err]
   have z:=ae i;rw[a];clear B a i;go_enter func47,ntmps47;go_wp2_with fail;go_call(kH H.out) as e w1⟨rfl,qE,pF⟩;rw[z.out];go_wp2;go_ret;exact⟨rfl,.of qE pF⟩
 |false=>
   have i:d.tick.err=0:=by grind [Dsk.err]
   have z:=ae i;have R:=ae B;clear B i;go_enter func47,ntmps47;go_wp2_with fail;go_call(kH H.out) as e w1⟨rfl,⟨mf,ml,l,qE⟩,pF⟩;rw[z.out];have D:=ae qE;have Q:=ae pF;have G:=lZ qE name Jd;rw[Dsk.dY]at G;clear qE pF;go_wp2_with fail;go_call(rA D.out name Jd P) as e w2⟨rfl,hb2⟩;have b:=ae (D.out.below hb2);have n:=ae (Q.out.b7 hb2);clear hb2;rcases G with⟨g,c⟩|⟨g,c,t,j⟩|⟨pf,f,g,c,t,j⟩
   .have a:d.remove name=(d.tick,1):=by grind [Dsk.remove,Hid.out]
    rw[c];have k:=ae a;clear a c g;go_wp2;go_ret;rw[k.out];exact⟨rfl,.of ⟨_,_,_,b.out⟩ n.out⟩
   .have a:d.remove name=(d.tick,3):=by grind [Dsk.remove,Hid.out]
    rw[j];have k:=ae a;clear a j t c g;go_wp2;go_ret;rw[k.out];exact⟨rfl,.of ⟨_,_,_,b.out⟩ n.out⟩
   .have a:d.remove name=({ d.tick with files:=b9 d.files name,loose:=d.loose.filter (λp=>decide (p.1.1≠name)) },0):=by grind [Dsk.remove,Hid.out]
    rw[j];have k:=ae a;have K:=pM (s:=name) (by grind [maxLen]);clear a j t c g;obtain⟨⟨r,y,v,C,O⟩,A,u,L⟩:=b.out.head.cells;clear y v C O A u L;go_wp2_with (at_delete;refine xy _ rfl _ _ _ rfl 80 kW oF Tryz.underlying81 mf l rfl b.out.files name rfl K ?_;intro es q F;have I:=ae F;clear F);have E:=ae (b.out.Wl name rfl I.out);have M:=ae (n.out.setBlock mf (.map es q) (.inl ⟨_,b.out.FA,by show 1<6;decide⟩));clear I r;go_call(Dt E.out name) as e w4⟨rfl,Vv,yH⟩;have N:=ae Vv;have J:=ae (M.out.trans yH (λx _ e=>e▸E.out.adh));clear Vv yH;go_wp2;go_ret;rw[k.out];have m:=N.out;unfold Dsk.settle at m;dsimp only at m;rw[Dsk.dY,Dsk.oG]at m;exact⟨rfl,.of ⟨_,_,_,m⟩ J.out⟩
def oH(o:ay)(a x:Nat):Prop:=x=a\/o x=IT (4,a)\/o x=IT (5,a)
theorem oH.in{o:ay}{a x:Nat}(h:oH o a x)(b:o a=IT (3,0)):o.In sf x:=by
 rcases h with rfl | h | h
 .exact⟨_,b,by show 3<6;decide⟩
 .exact⟨_,h,by show 4<6;decide⟩
 .exact⟨_,h,by show 5<6;decide⟩
theorem cZ.Pk{w w':KX}{db i r:Nat}{o o':ay}{l:List (Name×(Nat×bY))}{d:Dsk}(h:cZ w db o i r l d){name:Name}{a:Nat}{f b:bY}(g:aI l name=IT (a,f))(j:aN (oH o a) w w')(s:∀x t,o x=IT t->o' x=IT t)(y:dR w' o' a b)(z:∀x t,o' x=IT t->x<w'.heap.size)(D:fq (aX d.files name b)<=1048576) :
 cZ w' db o' i r (aX l name (a,b)) { d with files:=aX d.files name b }:=by
 have u:=(h.each _ (fy g)).own;have A:aX d.files name b=(aX l name (a,b)).map (λp=>(p.1,p.2.2)):=by rw[<- h.strip];exact(Hq (x:=(a,b))).symm
 rw[A];have n:¬oH o a i:=by
  rintro(e | e | e)
  .grind [FA]
  .grind [FA]
  grind [FA]
 refine h.Jh j (λx c=>.inr ?_) s ?_ (aeS h.apart g b) ?_ z M2
 .rcases c with rfl | c | c
  .grind
  .grind
  grind
 .have v:FileMap w i (aX l name (a,f)):=h.files.perm (Ta h.files.keys g).symm;exact(v.aiu (m':=aX l name (a,b)) rfl).turn j n
 .intro p m;rcases qk.1 m with rfl | m
  .exact y
  .obtain⟨q,k⟩:=jk.1 m;have B:p.2.1≠a:=λe=>k (by rw[Wi h.apart q (fy g) e]);have C:=(h.each p q).own;refine(h.each p q).kept' j ?_ ?_ ?_ s
   .rintro(e | e | e)
    .omega
    .grind
    grind
   .rintro x c (e | e | e)
    .grind
    .grind
    grind
   .rintro x c (e | e | e)
    .grind
    .grind
    grind
theorem dR.cells{w:KX}{o:ay}{a:Nat}{f:bY}(h:dR w o a f):∃v u,(w.cell? a=IT v/\w.cell? ⟨a,1,KK⟩=IT u)/\(w.frozen? ⟨a,0,KK⟩=J0/\w.frozen? ⟨a,1,KK⟩=J0) /\
 w.ownsRow 0 5 1 v f.now.length (f.now.map bv)/\(∀b,v.ownBlock=IT b->o b=IT (4,a))/\w.ownsRow 0 5 1 u f.iY.length (f.iY.map bv)/\∀b,u.ownBlock=IT b->o b=IT (5,a):=by obtain⟨_,⟨t,v,u,c,d⟩,_⟩:=h;exact⟨v,u,⟨by rw[au c];rfl,by rw[au c];rfl⟩,⟨aO c _,aO c _⟩,d⟩
theorem aw{w:KX}{base:Nat}{e:TypeId}{size:Nat}{v:J3}{n:Nat}(h:w.ownsRow base e size v n xs):∃a cap,v=.slice a n cap:=by obtain⟨_,h⟩:=h;grind
theorem fN{o:ay}{n b:Nat}(c:∀x t,o x=IT t->x<n)(a:n<=b):o b=none:=by
 cases h:o b with
 |none=>rfl
 |some t=>grind
theorem aA{w:KX}{base:Nat}{e:TypeId}{size:Nat}{v:J3}{n:Nat}(h:w.ownsRow base e size v n xs):∀b,v.ownBlock=IT b->b<w.heap.size/\base<=b:=by
 rintro b a;obtain⟨_,h⟩:=h;rcases h with⟨rfl,_⟩|⟨g,cap,c,rfl,f,d,_⟩
 .cases a
 .cases a;grind
def ay.put(o:ay)(v:J3)(t:Tag):ay:=match v.ownBlock with | some b=>o.set b t | none=>o
theorem ay.Dx{o:ay}{v:J3}{t:Tag}{b:Nat}(h:v.ownBlock=IT b):(o.put v t) b=IT t:=by unfold ay.put;simp_all
theorem ay.yI{o:ay}{v:J3}{t:Tag}{n:Nat}(h:∀b,v.ownBlock=IT b->n<=b):cX n o (o.put v t):=by
 intro x a;unfold ay.put;cases c:v.ownBlock with
 |none=>rfl
 |some b=>grind [ay.dB]
theorem ay.yJ{o:ay}{v:J3}{s:Tag}(c:∀b,v.ownBlock=IT b->o b=KK):∀x r,o x=IT r->(o.put v s) x=IT r:=λx r a=>by
 unfold ay.put;cases e:v.ownBlock with
 |none=>exact a
 |some b=>grind [ay.dB]
theorem ay.Am{o:ay}{v:J3}{t:Tag}{n:Nat}(d:∀x t,o x=IT t->x<n)(h:∀b,v.ownBlock=IT b->b<n):∀x s,(o.put v t) x=IT s->x<n:=by
 intro x s a;unfold ay.put at a;cases c:v.ownBlock with
 |none=>rw[c]at a;grind
 |some b=>rw[c]at a;grind [ay.dB]
theorem dR.store{w:KX}{o:ay}{d:Nat}{f:bY}(h:dR w o d f){v:J3}{bs:List UInt8}{base:Nat}(A:w.ownsRow base 5 1 v bs.length (bs.map bv))(k:∀b,v.ownBlock=IT b->o b=KK)(y:bs.length<=16777216) :
 dR (w.setCell d v) (o.put v (4,d)) d { f with now:=bs }/\dR (w.setCell ⟨d,1,KK⟩ v) (o.put v (5,d)) d { f with iY:=bs }:=by
 obtain⟨q,⟨t,a,c,C,E,D,F,G⟩,B⟩:=h;have l:∀b,v.ownBlock=IT b->b≠d:=λb h e=>M2
 have j:∀(s:Tag)x r,o x=IT r->(o.put v s) x=IT r:=λs=>ay.yJ k;have g:∀(i:Nat)(u z:J3)(xs:List J3)(n base:Nat),w.ownsRow base 5 1 z n xs->(∀b,z.ownBlock=IT b->b≠d)->(w.setCell ⟨d,i,KK⟩ u).ownsRow 0 5 1 z n xs:=λi u z xs n base J H=>by have I:aN (·=d) w (w.setCell ⟨d,i,KK⟩ u):=(aN.refl (·=d) w).setCell _ _ (.inl rfl);grind [aQ,aN.ownsRow]
 have m:∀b,a.ownBlock=IT b->b≠d:=λb k e=>M2
 have p:∀b,c.ownBlock=IT b->b≠d:=λb k e=>M2
 refine⟨⟨j _ _ _ q,⟨t,v,c,?_,g _ _ _ _ _ _ A l,λb k=>ay.Dx k,g _ _ _ _ _ _ F p,λb k=>j _ _ _ (G b k)⟩,y,B.2⟩,
  ⟨j _ _ _ q,⟨t,a,v,?_,g _ _ _ _ _ _ E m,λb k=>j _ _ _ (D b k),g _ _ _ _ _ _ A l,λb k=>ay.Dx k⟩,B.1,y⟩⟩
 .rw[aS C];rfl
 .rw[aS C];rfl
theorem Wm{w:KX}{db:Nat}{o:ay}{d:Dsk}(h:cI w db o d)(name:Name)(Y:name.size<=1000):K1 prog 161 #[ptrTo db,.string name] w λe w'=>e=(d.sync name).2/\cS w db o (d.sync name).1 w':=by
 have H:=ae h;clear h;unfold ptrTo;cases K:d.tick.dead with
 |true=>
   have a:d.sync name=(d.tick,6):=by grind [Dsk.sync]
   have m:d.tick.err=6:=by grind [Dsk.err]
   have G:=ae m;rw[a];clear K a m;go_enter func161,ntmps161;go_wp2_with fail;go_call(kH H.out) as e w1⟨rfl,qE,pF⟩;rw[G.out];go_wp2;go_ret;exact⟨rfl,.of qE pF⟩
 |false=>
   have m:d.tick.err=0:=by grind [Dsk.err]
   have G:=ae m;have yw:=ae K;clear K m;go_enter func161,ntmps161;go_wp2_with fail;go_call(kH H.out) as e w1⟨rfl,⟨mf,ml,l,qE⟩,pF⟩;rw[G.out];have L:=ae qE;have RP:=ae pF;have M:=lZ qE name Jd;rw[Dsk.dY]at M;clear qE pF;go_wp2_with fail;go_call(rA L.out name Jd Y) as e w2⟨rfl,hb2⟩;have s:=ae (L.out.below hb2);have C:=ae (RP.out.b7 hb2);clear hb2;rcases M with⟨k,j⟩|⟨k,j,y,r⟩|⟨pf,f,k,j,y,r⟩
   .have a:d.sync name=(d.tick,1):=by grind [Dsk.sync,Hid.out]
    rw[j];have z:=ae a;clear a j k;go_wp2;go_ret;rw[z.out];exact⟨rfl,.of ⟨_,_,_,s.out⟩ C.out⟩
   .have a:d.sync name=(d.tick,3):=by grind [Dsk.sync,Hid.out]
    rw[r];have z:=ae a;clear a r y j k;go_wp2;go_ret;rw[z.out];exact⟨rfl,.of ⟨_,_,_,s.out⟩ C.out⟩
   .have a:d.sync name=({ d.tick with files:=aX d.files name ⟨f.now,f.now⟩,loose:=d.loose.filter (λp=>decide (p.1.1≠name)) },0):=by grind [Dsk.sync,Hid.out]
    rw[r];have z:=ae a;have I:=s.out.each _ (fy y);have F:=ae y;clear a r y j k;obtain⟨v,u,⟨LD,O⟩,⟨Z,S⟩,c,A,-,-⟩:=I.cells;have R:=ae c;have T:=ae I.most.1;clear c A I O;go_wp2_with fail;go_call(gZ v f.now _ (fp R.out) (by grind [Hid.out])) as e w3⟨v3,rfl,kF,hb3⟩;have g:=ae (s.out.below hb3);have V:=ae (C.out.b7 hb3);have i:=g.out.each _ (fy F.out);have q:=ae i;obtain⟨v4,u4,⟨-,O⟩,⟨-,mF⟩,-⟩:=i.cells;clear i;obtain⟨a3,c3,rfl⟩:=aw kF;have E:=ae kF;clear kF hb3;go_wp2_with fail;have N:∀b,(fz a3 f.now.length c3).ownBlock=IT b->o b=none:=λb B=>fN s.out.owned (aA E.out b B).2;have W:=ae (g.out.Pk F.out ((aN.refl (oH o pf) w3).setCell ⟨pf,1,KK⟩ (.slice a3 f.now.length c3) (.inl (.inl rfl))) (o':=o.put (.slice a3 f.now.length c3) (5,pf))
     (ay.yJ N)
     (q.out.store E.out N T.out).2 (λx t U=>by
       have:=ay.Am g.out.owned (λb B=>(aA E.out b B).1) x t U;simp_all) (by
       have h1:=xE g.out.LC (g.out.get F.out);rw[lY];have h2:=g.out.ok.used;grind))
    have P:=ae (V.out.setCell ⟨pf,1,KK⟩ (.slice a3 f.now.length c3) (.inl (oH.in (.inl rfl) q.out.own)));have Q:=ae (ay.yI (o:=o) (t:=(5,pf)) (n:=w.heap.size) (λb B=>cp C.out.size (aA E.out b B).2));go_call(Dt W.out name) as e w5⟨rfl,hd5,vG⟩;have J:=ae hd5;have X:=ae (P.out.trans vG (λx _ e=>e▸g.out.adh));clear hd5 vG;go_wp2;go_ret;rw[z.out];have D:=J.out;unfold Dsk.settle at D;dsimp only at D;rw[Dsk.dY,Dsk.oG]at D;exact⟨rfl,_,⟨_,_,_,D⟩,X.out,Q.out⟩
namespace Dsk
def sizeOf(d:Dsk)(name:Name):Nat×Nat:=
 if d.dead then (0,6) else if b6 name=J0 then (0,1) else match aI d.files name with
  |none=>(0,3)
  |some f=>(f.now.length,0)
def read(d:Dsk)(name:Name)(a n:Nat):List UInt8×Nat:=
 if d.dead then ([],6) else if b6 name=J0 then ([],1) else match aI d.files name with
  |none=>([],3)
  |some f=>((f.now.drop a).take n,0)
end Dsk
theorem LG{w:KX}{db:Nat}{o:ay}{d:Dsk}(h:cI w db o d)(name:Name)(C:name.size<=1000):K1 prog 208 #[ptrTo db,.string name] w λe w'=>e=Mk (Ly #[(d.sizeOf name).1,(d.sizeOf name).2])/\Lg w w w':=by
 have H:=ae h;obtain⟨mf,ml,l,r⟩:=h;have z:=ae r;have A:=lZ r name Jd;clear r;unfold ptrTo;cases k:d.dead with
 |true=>
   have i:d.sizeOf name=(0,6):=by unfold Dsk.sizeOf;rw[k];rfl
   have m:d.err=6:=by unfold Dsk.err;rw[k];rfl
   have t:=ae m;rw[i];clear k i m A;go_enter func208,ntmps208;go_wp2_with fail;go_call(yG H.out) as e w1⟨rfl,rfl⟩;rw[t.out];go_wp2;go_returns;exact⟨rfl,kp _ _⟩
 |false=>
   have m:d.err=0:=by unfold Dsk.err;rw[k];rfl
   have t:=ae m;have s:=ae k;clear k m;go_enter func208,ntmps208;go_wp2_with fail;go_call(yG H.out) as e w1⟨rfl,rfl⟩;rw[t.out];go_wp2_with fail;go_call(rA z.out name Jd C) as e w2⟨rfl,hb2⟩;have y:=ae hb2;have B:=ae (z.out.below hb2);clear hb2;rcases A with⟨b,j⟩|⟨b,j,q,n⟩|⟨pf,f,b,j,q,n⟩
   .have i:d.sizeOf name=(0,1):=by unfold Dsk.sizeOf;rw[s.out];rw[r6]at b;rw[b];rfl
    rw[j];have p:=ae i;clear i j b;go_wp2;go_returns;rw[p.out];exact⟨rfl,y.out⟩
   .have i:d.sizeOf name=(0,3):=by unfold Dsk.sizeOf;rw[s.out];rw[r6]at b;rw[b,j];rfl
    rw[n];have p:=ae i;clear i n q j b;go_wp2;go_returns;rw[p.out];exact⟨rfl,y.out⟩
   .have i:d.sizeOf name=(f.now.length,0):=by unfold Dsk.sizeOf;rw[s.out];rw[r6]at b;rw[b,j];rfl
    rw[n];have p:=ae i;have x:dR w2 o pf f:=B.out.each _ (fy q);clear i n q j b;obtain⟨v,u,⟨F,-⟩,-,g,-⟩:=x.cells;have E:=x.most.1;obtain⟨a,c,rfl⟩:=aw g;have D:=ae g;clear g x;go_wp2;go_returns;rw[p.out];exact⟨rfl,y.out⟩
def LH(w:KX)(r:List UInt8×Nat)(e:Lp)(w':KX):Prop:=
 ∃v,e=Mk (Ly #[v,r.2])/\w'.ownsRow w.heap.size 5 1 v r.1.length (r.1.map bv)/\Lg w w w'
theorem Wn{w:KX}{db:Nat}{o:ay}{d:Dsk}(h:cI w db o d)(name:Name)(V:name.size<=1000)(b n:Nat)(X:n<=1099511627776):K1 prog 233 #[ptrTo db,.string name,b,n] w (LH w (d.read name b n)):=by
 have H:=ae h;obtain⟨mf,ml,l,J⟩:=h;have P:=ae J;have Q:=lZ J name Jd;clear J;unfold ptrTo;cases A:d.dead with
 |true=>
   have m:d.read name b n=([],6):=by unfold Dsk.read;rw[A];rfl
   have C:d.err=6:=by unfold Dsk.err;rw[A];rfl
   have M:=ae C;rw[m];clear A m C Q;go_enter func233,ntmps233;go_wp2_with fail;go_call(yG H.out) as e w1⟨rfl,rfl⟩;rw[M.out];go_wp2;go_returns;exact⟨_,rfl,ownsRow_nil _ _ _,kp _ _⟩
 |false=>
   have C:d.err=0:=by unfold Dsk.err;rw[A];rfl
   have M:=ae C;have L:=ae A;clear A C;go_enter func233,ntmps233;go_wp2_with fail;go_call(yG H.out) as e w1⟨rfl,rfl⟩;rw[M.out];go_wp2_with fail;go_call(rA P.out name Jd V) as e w2⟨rfl,hb2⟩;have q:=ae hb2;have U:=ae (P.out.below hb2);clear hb2;rcases Q with⟨i,t⟩|⟨i,t,I,D⟩|⟨pf,f,i,t,I,D⟩
   .have m:d.read name b n=([],1):=by unfold Dsk.read;rw[L.out];rw[r6]at i;rw[i];rfl
    rw[t];have y:=ae m;clear m t i;go_wp2;go_returns;rw[y.out];exact⟨_,rfl,ownsRow_nil _ _ _,q.out⟩
   .have m:d.read name b n=([],3):=by unfold Dsk.read;rw[L.out];rw[r6]at i;rw[i,t];rfl
    rw[D];have y:=ae m;clear m D I t i;go_wp2;go_returns;rw[y.out];exact⟨_,rfl,ownsRow_nil _ _ _,q.out⟩
   .have m:d.read name b n=((f.now.drop b).take n,0):=by unfold Dsk.read;rw[L.out];rw[r6]at i;rw[i,t];rfl
    rw[D];have y:=ae m;have N:dR w2 o pf f:=U.out.each _ (fy I);clear m D I t i;obtain⟨v,u,⟨Z,-⟩,-,r,-⟩:=N.cells;have Y:=N.most.1;have K:=fp r;obtain⟨a,cap,rfl,S,O,T⟩:=id K;have B:=ae K;unfold maxLen at O;clear r N T K;by_cases W:b<=f.now.length
    .by_cases R:n<=f.now.length-b
     .skip
      have g:=ae (λp(e:cap=b)=>((((B.out.drewN p).from (k:=b) af).1 e).to (k:=n) (by rw[ie];omega)));have s:=ae (λp=>((((B.out.drewN p).from (k:=b) af).2).to (k:=n) (by rw[ie];omega)));go_wp2_with fail;go_quiet (fail)
      go_wp2_with fail;all_goals
       refine(gZ _ ((f.now.drop b).take n) _ (by first | exact s.out _ | exact g.out _ rfl | exact g.out _ Nd | (rw[Wo];first | exact s.out _ | exact g.out _ rfl | exact g.out _ Nd)) (by rw[et,ie];omega)).mono ?_;rintro e G⟨v3,rfl,x,c⟩;have F:=ae x;have E:Lk (Lg w2 w2 G):=ae ⟨c.os,c.tape,c.output,c.size,c.block⟩;clear x c;go_wp2_with fail;go_returns;rw[y.out];exact⟨_,rfl,aQ F.out q.out.size,q.out.trans (E.out.mono q.out.size)⟩
     .skip
      have j:(f.now.drop b).take n=(f.now.drop b).take (f.now.length-b):=by rw[ey (by rw[ie];omega),ey (by rw[ie];omega)]
      have z:=ae j;clear j;have g:=ae (λp(e:cap=b)=>((((B.out.drewN p).from (k:=b) af).1 e).to (k:=(f.now.length-b)) (by rw[ie];omega)));have s:=ae (λp=>((((B.out.drewN p).from (k:=b) af).2).to (k:=(f.now.length-b)) (by rw[ie];omega)));go_wp2_with fail;go_quiet (fail)
      go_wp2_with fail;all_goals
       refine(gZ _ ((f.now.drop b).take (f.now.length-b)) _ (by first | exact s.out _ | exact g.out _ rfl | exact g.out _ Nd | (rw[Wo];first | exact s.out _ | exact g.out _ rfl | exact g.out _ Nd)) (by rw[et,ie];omega)).mono ?_;rintro e G⟨v3,rfl,x,c⟩;have F:=ae x;have E:Lk (Lg w2 w2 G):=ae ⟨c.os,c.tape,c.output,c.size,c.block⟩;clear x c;go_wp2_with fail;go_returns;rw[y.out];rw[z.out];exact⟨_,rfl,aQ F.out q.out.size,q.out.trans (E.out.mono q.out.size)⟩
    .rcases qp n with Wo | Wo;all_goals
      have j:(f.now.drop b).take n=(f.now.drop f.now.length).take 0:=by rw[List.drop_of_length_le af];simp
      have z:=ae j;clear j;have g:=ae (λp(e:cap=f.now.length)=>((((B.out.drewN p).from (k:=f.now.length) af).1 e).to (k:=0) (by rw[ie];omega)));have s:=ae (λp=>((((B.out.drewN p).from (k:=f.now.length) af).2).to (k:=0) (by rw[ie];omega)));go_wp2_with fail;go_quiet (fail)
      go_wp2_with fail;all_goals
       refine(gZ _ ((f.now.drop f.now.length).take 0) _ (by first | exact s.out _ | exact g.out _ rfl | exact g.out _ Nd | (rw[Wo];first | exact s.out _ | exact g.out _ rfl | exact g.out _ Nd)) (by rw[et,ie];omega)).mono ?_;rintro e G⟨v3,rfl,x,c⟩;have F:=ae x;have E:Lk (Lg w2 w2 G):=ae ⟨c.os,c.tape,c.output,c.size,c.block⟩;clear x c;go_wp2_with fail;go_returns;rw[y.out];rw[z.out];exact⟨_,rfl,aQ F.out q.out.size,q.out.trans (E.out.mono q.out.size)⟩
def nc(l:List (Name×(Nat×bY))):Nat:=(l.map (λp=>jn p.2.2.now.length)).sum
theorem LI{a b:List (Name×(Nat×bY))}(h:a.Perm b):nc a=nc b:=(h.map _).sum_nat
theorem cZ.nc{w:KX}{db a b:Nat}{o:ay}{l:List (Name×(Nat×bY))}{d:Dsk}(h:cZ w db o a b l d):nc l=fq d.files:=by rw[<- h.strip];unfold fq Proofs.YtofigggbapdfhaaGreatDoor.nc;rw[rj];rfl
theorem Wp{w:KX}{db:Nat}{o:ay}{d:Dsk}(h:cI w db o d):K1 prog 248 #[ptrTo db] w λe w'=>e=fq d.files/\Lg w w w':=by
 obtain⟨mf,ml,l,h⟩:=h;have H:=ae h;have N:=h.nc;have i:=h.ok.used;rw[<- N]at i ⊢;have y:=ae i;clear N i;obtain⟨⟨T,B,A,F,je⟩,C,z,X⟩:=h.head.cells;clear h B A F je C z X;unfold ptrTo;go_enter func248,ntmps248;go_wp2_with (at_range;refine lU _ rfl _ _ rfl 80 Tryz.underlying81 mf l rfl H.out.files ?_;intro ob P);go_frame
 go_loopw [3] (λn wr=>∃(s:List (Name×(Nat×bY)))(k:Nat),n=k/\cL prog 9 ki (λx:Nat×bY=>ptrTo x.1) wr mf w.heap.size l s/\Lg w w wr/\Lk (k+nc s=nc l)) (λ_ wr=>wr.rangeLeft mf w.heap.size)
 case atStart=>exact⟨_,0,rfl,P,aq.alloc (cg _) _,ae af⟩
 case round=>
  obtain⟨s,k,rfl,hi,R,M⟩:=hrel;have O:=ae R;clear R;go_wp2_with (at_next;refine lV _ rfl _ rfl mf w.heap.size l s rfl hi ?_ ?_)
  .rintro rfl;go_wp2;go_ret;refine⟨?_,O.out⟩;have:=M.out;unfold nc at this ⊢;simp at this;rw[<- this];rfl
  .intro nm pf f rs q r E L G j;have g:Lg w w (setBlock q w.heap.size r):=by
    have:aN (λx=>w.heap.size<=x) w (setBlock q w.heap.size r):=by
     have I:aN (λx=>w.heap.size<=x) w wr:=aN.aZ O.out;rcases L with rfl | rfl
     .exact I.setBlock _ _ (.inl (cg _))
     .exact I.drew.setBlock _ _ (.inl (cg _))
    exact this.below (cg _) (λ_ h=>h)
   have J:=ae E;have V:=ae hi;have Q:(nm,pf,f)∈l:=hi.sub _ (E.mem_iff.2 ai);have K:=ae g;have D:dR (setBlock q w.heap.size r) o pf f:=(H.out.below g).each _ Q;obtain⟨v,u,⟨LD,-⟩,-,b,-⟩:=D.cells;have jT:=D.most.1;obtain⟨a,c,rfl⟩:=aw b;clear E hi g L D b Q;unfold ptrTo at j;have p:k+jn f.now.length+nc rs=nc l:=by have t:=M.out;rw[LI J.out]at t;unfold nc at t ⊢;simp only[oj,List.sum_cons]at t;omega
   have Y:=ae p;have m:k+jn f.now.length<=1048576:=Nm y.out;have ac:=ae m;have LJ:k<=1048576:=af;have S:jn f.now.length<=1048576:=af;clear p m;generalize hW:setBlock q w.heap.size r=W at j LD K G;clear hW P;go_wp2_with (go_at_call 247;go_call(Bz _ _ af) as e w2⟨rfl,rfl⟩);go_roundw
   case rel=>refine⟨rs,k+jn f.now.length,?_,G,K.out,Y⟩;unfold jn;congr 1
   case measure=>have Z:=G.left;have U:=J.out.length_eq;rw[it]at U;rw[Z,V.out.left];omega
def Dsk.new(a:Nat):Dsk:=⟨[],[],a,0,J0⟩
theorem LK(c:Nat)(k:c<=1048576)(w:KX):K1 prog 34 #[c] w λe w'=>∃db o,e=Mk (Ly #[ptrTo db,Kx Mm 0])/\cI w' db o (Dsk.new c)/\Lg w w w'/\∀x t,o x=IT t->w.heap.size<=x:=by
 have l:∀(t:TypeId)(W:KX),(Instr.makeMap t KK).run prog W=.ok (.map (IT W.heap.size)) (W.alloc (.map #[] 0)):=λ_ _=>rfl;go_enter func34,ntmps34;go_wp2;go_returns;let o:ay:=λx=>if x=w.heap.size then IT (1,0) else if x=w.heap.size+1 then IT (2,0) else if x=w.heap.size+1+1 then IT (0,0) else KK
 have g:∀x t,o x=IT t->w.heap.size<=x/\x<w.heap.size+3:=by
  intro x t a;simp only[o]at a;split at a
  .omega
  .split at a
   .omega
   .split at a
    .omega
    .cases a
 refine⟨w.heap.size+1+1,o,?_,⟨w.heap.size,w.heap.size+1,[],?_⟩,?_,λx t a=>(g x t a).1⟩
 .rfl
 .have s1:(w.alloc (.map #[] 0)).heap.size=w.heap.size+1:=ai;have s2:((w.alloc (.map #[] 0)).alloc (.map #[] 0)).heap.size=w.heap.size+1+1:=ai;have h:cj prog 9 ki (λx:Nat×bY=>ptrTo x.1) (w.alloc (.map #[] 0)) w.heap.size []:=cj.made w _ _ _ _;have i:cj prog 90 eZ (λ_:Unit=>.bool Jd) ((w.alloc (.map #[] 0)).alloc (.map #[] 0)) (w.heap.size+1) []:=by have:=cj.made (w.alloc (.map #[] 0)) prog 90 eZ (λ_:Unit=>Value.bool Jd);rw[s1]at this;exact this
  have d:∀(W:KX)(f:Obj)(b:Nat),b<W.heap.size->(W.alloc f).heap[b]? = W.heap[b]? := λW f b j=>(MapKept.heap_alloc W f).2 b j;refine { Ge:=?_,FA:=?_,Gf:=?_,head:=⟨84,?_⟩,files:=?_,strip:=rfl,apart:=ai,each:=ai,loose:=?_,owned:=?_,ok:=⟨k,by show 0<9223372036854775808;decide,by simp[fq,Dsk.new]⟩ }
  .simp[o];omega
  .simp[o]
  .simp[o]
  .have:=Lw ((w.alloc (.map #[] 0)).alloc (.map #[] 0)) (Mi #[.map (IT w.heap.size),.map (IT (w.heap.size+1)),c,Kx Mm 0,.bool J0] 84);rw[s2]at this;exact this
  .exact(h.kept (d _ _ _ ai)).kept (d _ _ _ (by simp;omega))
  .exact i.kept (d _ _ _ ai)
  .intro x t a;have:=(g x t a).2;simp;omega
 .exact(aj.alloc ai _).alloc (by simp;omega) _
def over(xs:List UInt8)(a:Nat)(bs:List UInt8):List UInt8:=xs.take a++(bs++xs.drop (a+bs.length))
theorem BB{xs:List UInt8}{bs:List UInt8}(h:e+bs.length<=xs.length):(over xs e bs).length=xs.length:=by grind [over]
theorem Ws(xs:List UInt8)(a:Nat):over xs a []=xs:=by simp[over]
theorem Tc(C B:List α)(n a:Nat)(h:a+B.length<=n)(b:n<=C.length) :
 (C.take a++(B++C.drop (a+B.length))).take n=(C.take n).take a++(B++(C.take n).drop (a+B.length)):=by rw[List.take_append,List.take_append,et,List.take_take,List.take_take,List.drop_take,tk (show a<=C.length by omega),Nat.min_eq_right (show a<=n by omega),tk (show a<=n by omega),ey (show B.length<=n-a by omega),show n-a-B.length=n-(a+B.length) by omega]
def oI(m:List ((Name×Nat)×Unit))(name:Name)(a:Nat):Nat->List ((Name×Nat)×Unit)
 |0=>m
 |n+1=>aX (oI m name a n) (name,(a+n)/64) ()
def bY.laid(f:bY)(a:Nat)(bs:List UInt8):bY:=
 ⟨over (f.now++ei (max f.now.length (a+bs.length)-f.now.length) 0) a bs,f.iY⟩
namespace Dsk
def write(d:Dsk)(name:Name)(a:Nat)(bs:List UInt8):Dsk×Nat:=
 if d.tick.dead then (d.tick,6) else if b6 name=J0 then (d.tick,1) else match aI d.files name with
  |none=>(d.tick,3)
  |some f=>
    if f.now.length<a then (d.tick,1)
    else if 16777216<bs.length+a then (d.tick,9)
    else if jn f.now.length<jn (max f.now.length (a+bs.length))/\d.bU<fq d.files+(jn (max f.now.length (a+bs.length))-jn f.now.length) then (d.tick,5)
    else ({ d.tick with files:=aX d.files name (f.laid a bs),loose:=oI d.loose name a bs.length },0)
end Dsk
theorem qF{P:Program}{w:KX}{ops:Array Oper}{rest:List Oper}{o:Oper}{a:Act}(c:o.guard=KK)(x y:Operand)(t d:TypeId)(f:o.op=.call { callee:=.builtin .max,args:=#[x,y],argTypes:=#[t,d] })(m n:Nat){p q:Int}(e:a.eval x=Kx Mm p)(g:a.eval y=Kx Mm q)(i:p=(m:Int))(j:q=(n:Int))(h:∀E,E=max m n->wpList P ops Q rest (a.put o.dst (Kx Mm ((E:Nat):Int))) w):wpList P ops Q (o::rest) a w:=by
 refine wpList_plain c λK hK=>?_;have b:=run_max_int2 (P:=P) (w:=w) #[t,d] o.type Mm Mm p q;unfold Oper.wp;simp[execOp,f,resolve,invoke,builtin,e,g,b,Result.andThen];refine hK _ _ ?_;have:(if q>p then q else p)=((max m n:Nat):Int):=af;grind
end
section
variable {P:Program}{ops:Array Oper}{md:Region.Mode}{C:KX->Prop}
def pO(md:Region.Mode)(ops:Array Oper)(n:Nat):Bool:=
 (kk ops.size).all λt=>decide (t<=n) || (kk t).any λs=>decide (n<=s) && Region.waitsFor md ops t s
theorem Hr{n:Nat}{a:Array Bool}(l:Region.sinkB md ops n=Jd)(k:pO md ops n=Jd)(r:n<ops.size)(f:HeadInv md ops n a) :
 ∀(d i:Nat),n-i=d->i<n->a.getD i Jd=J0->∀t,n<=t->t ∉ Region.ready md ops a:=by
 intro d;induction d using IF with
 |_ d q=>
   intro i m hi p t o h;obtain⟨_,s,b,e⟩:=mem_ready.1 h;have c:t<ops.size:=(ds.1 b).1;by_cases j:t=n
   .subst j;have g:=ms.1 l i (j3.2 hi);grind [Region.waitsFor_spec,HeadInv.closed]
   .have g:=ms.1 k t (j3.2 c);grind [Region.waitsFor_spec,HeadInv.tail]
theorem Jk{n i:Nat}{v:J3}{L:Array Bool->Act->Prop}(hi:ops[i]? = IT p)(B:∀(j:Nat)(o:Oper)q b,ops[j]? = IT o->o.op≠.select q b)(G:Region.sinkB md ops n=Jd)(z:pO md ops n=Jd)(D:n<ops.size)(F:i<n)(l:∀c a,L c a->∀j∈Region.ready md ops c,n<=j)(f:Nat) :
 ∀(c:Array Bool)(a:Act),HeadInv md ops n c ->
  (∀j d,ops[j]? = IT d->j≠i->c.getD j Jd=J0->(∀e∈d.after,Region.binds md e=Jd->e.on≠i)->p.apart ops d=Jd) ->
  i∈Region.ready md ops c->YieldsIn P ops C p v a ->
  kU P md ops C n L f (c.setIfInBounds i Jd) (a.put p.dst v)->kU P md ops C n L (f+1) c a:=by
 induction f with
 |zero=>
   intro c a g _ u A H;have s:=(mem_ready.1 u).1;refine⟨λh=>(M2),λj m=>?_⟩;have w:j<n:=by
    rcases lb j n with h | h
    .exact h
    .exact absurd m (Hr G z D g _ i rfl F s j h)
   refine⟨w,?_⟩;by_cases r:j=i
   .grind [YieldsIn.qOp]
   .have:=l _ _ H j (ready_mono m r);omega
 |succ f ih=>
   intro c a g E u A H;have s:=(mem_ready.1 u).1;refine⟨λh=>(M2),λj m=>?_⟩;have w:j<n:=by
    rcases lb j n with h | h
    .exact h
    .exact absurd m (Hr G z D g _ i rfl F s j h)
   refine⟨w,?_⟩;by_cases r:j=i
   .grind [YieldsIn.qOp]
   .have I:=(H.2 j (ready_mono m r)).2;obtain⟨M,d,t,y⟩:=mem_ready.1 m;have N:∀e∈d.after,Region.binds md e=Jd->e.on≠i:=λe T U Q=>M2
    have S:=qOp_put t (E j d t r M N) (λq b=>B i p q b hi) (λq b=>B j d q b t) A I;have R:∀k ok,ops[k]? = IT ok->k≠i->(c.setIfInBounds j Jd).getD k Jd=J0 ->
     (∀e∈ok.after,Region.binds md e=Jd->e.on≠i)->p.apart ops ok=true:=λk ok K O s x=>by
     refine E k ok K O ?_ x;by_cases J:j=k
     .grind
     simp_all
    grind [qOp_mono,HeadInv.set,ready_mono,FF]
def Dy(md:Region.Mode)(ops:Array Oper)(g:Nat):Nat->Nat->Array Bool->Bool
 |0,k,listed=>decide (Region.ready md ops listed=[k]) && Region.lexFrom md ops g (k+1) (listed.setIfInBounds k Jd)
 |f+1,k,listed=>(Region.ready md ops listed).contains k && Region.free md ops listed k && Dy md ops g f (k+1) (listed.setIfInBounds k Jd)
def aix(md:Region.Mode)(ops:Array Oper)(n:Nat):Bool:=
 Region.noSelect ops && decide (n<ops.size) && Region.sinkB md ops n && pO md ops n && Dy md ops (ops.size-(n+1)) n 0 (xj ops.size J0)
def aaN(md:Region.Mode)(ops:Array Oper)(g n:Nat)(a:Array Bool):Prop:=Region.ready md ops a=[n]/\Region.lexFrom md ops g (n+1) (a.setIfInBounds n Jd)=Jd
theorem Pn{n g:Nat}(y:Region.noSelect ops=Jd)(F:Region.sinkB md ops n=Jd)(w:pO md ops n=Jd)(z:n<ops.size)(l:List Oper) :
 ∀(k:Nat)(b:Array Bool)(a:Act),(∀j,j<l.length->l[j]? = ops[k+j]?)->k+l.length=n->HeadInv md ops n b ->
 Dy md ops g l.length k b=Jd->wpQuiet P ops C t l a ->
 kU P md ops C n (λc s=>aaN md ops g n c/\t s) l.length b a:=by
 induction l with
 |nil=>
   intro k b a _ B _ e h;have:k=n:=af;subst this;simp only[Hl,Dy,j4,decide_eq_true_eq]at e;exact⟨e,h⟩
 |cons o l D=>
   intro k b a p B d e h;have f:ops[k]? = IT o:=by simpa using (p 0 ai).symm
   simp only[it,Dy,j4]at e;obtain⟨⟨H,u⟩,i⟩:=e;have r:k<n:=M2;have q:k∈Region.ready md ops b:=M2;have m:qOp P ops C k (wpQuiet P ops C t l) a:=by unfold qOp;simp only[f];exact h
   obtain⟨v,x,hK⟩:=yieldsIn_of_qOp f m;exact Jk f (Region.noSelect_spec y) F w z r (λc s E j A=>by
    have G:=E.1.1;grind) l.length b a d (Region.free_spec f u) q x
    (D (k+1) _ _ (λj A=>by have:=p (j+1) M2;grind) M2 (d.set q r) i hK)
def aaO(P:Program)(ops:Array Oper)(Q:Exit->Act->KX->Prop)(o:Oper)(rest:List Oper)(a:Act)(w:KX):Prop:=
 ∃f args,Region.wanted o (yielded ops a.tmps)=Jd/\(execOp a.eval o).run P w=.ok (.enter f args) w /\
  Calls P f args w λe w'=>∃v,e=Mk v/\wpQuiet P ops (·=w') (λb=>Q .normal b w') rest (a.put o.dst v)
theorem cW(C:KX->Prop){u:Nat}{a:Act}{w:KX}{l:List Oper}(n:Nat){o:Oper}{rest:List Oper}(k:l.drop n=o::rest)(A:P.follows .mixedOrders=Jd)(r:aix .any l.toArray n=Jd)(O:C w.drew)(h:wpQuiet P l.toArray C (λd=>∀w',C w'->aaO P l.toArray Q o rest d w') (l.take n) a):(Code.region u l.toArray Jd).wp P Q a w:=by
 simp only[aix,j4,decide_eq_true_eq]at r;obtain⟨⟨⟨⟨E,F⟩,N⟩,y⟩,D⟩:=r;have L:n<l.length:=af;have G:(l.take n).length=n:=M2;have W:l[n]? = IT o:=by have:=congrArg (λx:List Oper=>x[0]?) k;grind
 have B:l.drop (n+1)=rest:=by have:=congrArg List.tail k;simpa using this
 have K:rest.length=l.toArray.size-(n+1):=M2;have s:HeadInv .any l.toArray n (xj l.toArray.size J0):=
  ⟨ai,λj R _ k=>(by grind [getD_replicate_false]),λt _ T=>getD_in M2 (getD_replicate_false _ _)⟩
 have H:=Pn (md:=.any) (C:=C) (g:=l.toArray.size-(n+1)) E N y F (l.take n) 0 _ a (λj U=>M2) af s M2 h
 refine wp_region_any A ?_;have:=tS (Q':=Q) (g:=rest.length+1) (λc d w' m J=>by
  obtain⟨⟨I,V⟩,hK⟩:=J;refine⟨λq=>(M2),λi hi=>?_⟩;rw[I]at hi;have:i=n:=M2;subst this;obtain⟨f,args,p,b,z⟩:=hK w' m;have q:(l.toArray)[i]? = IT o:=M2;unfold wpOp;simp only[q];rw[if_pos p];left;unfold Oper.wp;rw[b,Oper.upon_enter];go_call z as e w2⟨v,rfl,hq⟩;refine wpAny_of_quiet (Q:=λd=>Q .normal d w2) (C:=(·=w2)) (λa3 X M S=>M2) _ _ _ _ rfl ?_;grind [wpAnyQ_lex]) _ _ _ _ O H
 rw[G,K,show n+(l.toArray.size-(n+1)+1)=l.toArray.size by omega]at this;exact this
end
section
variable {P:Program}{ops:Array Oper}{md:Region.Mode}{C:KX->Prop}
def NoP(Q:Exit->Act->KX->Prop):Exit->Act->KX->Prop
 | .panic _,_,_=>False
 |e,a,w=>Q e a w
theorem NoP.weaken:∀e a w,NoP Q e a w->Q e a w:=by intro e a w h;cases e<;>first | exact h | exact h.elim
def Ap(P:Program)(ops:Array Oper)(b:Act->Prop):List Oper->Act->Prop
 | [],a=>b a
 |o::rest,a=>∃v,Yields P ops o v a/\Ap P ops b rest (a.put o.dst v)
theorem p_op{a:Act}{o:Oper}{rest:List Oper}{v:J3}(c:Region.wanted o (yielded ops a.tmps)=Jd)(h:∀w,(execOp a.eval o).run P w=.ok (.value v) w)(b:∀K:Act->Prop,(∀a,Ap P ops x rest a->K a)->K (a.put o.dst v)):Ap P ops x (o::rest) a:=
 ⟨v,.inl ⟨c,h⟩,b _ λ_ h=>h⟩
theorem adk{a:Act}(h:x a):Ap P ops x [] a:=h
structure k7(md:Region.Mode)(ops:Array Oper)(lo n:Nat)(listed:Array Bool):Prop where
 head:HeadInv md ops n listed
 low:∀i,i<lo->listed.getD i Jd=Jd
theorem k7.set{lo n i:Nat}{a:Array Bool}(b:k7 md ops lo n a)(hi:i∈Region.ready md ops a)(f:i<n):k7 md ops lo n (a.setIfInBounds i Jd):=by
 refine⟨b.head.set hi f,λj c=>?_⟩;by_cases e:i=j
 .subst e;have:=b.low i c;have d:=(mem_ready.1 hi).1;rw[this]at d;cases d
 .rw[getD_set_ne Jd e];exact b.low j c
def uR(md:Region.Mode)(ops:Array Oper)(lo n:Nat):Bool:=
 (kk n).all λi=>decide (i<lo) || (kk (n+1)).any λj=>decide (i<j) && Region.waitsFor md ops j i
theorem BD{lo n:Nat}{a:Array Bool}(J:uR md ops lo n=Jd)(D:pO md ops n=Jd)(K:n<ops.size)(c:k7 md ops lo n a) :
 ∀(d i:Nat),n-i=d->i<n->a.getD i Jd=J0->∀t,n<=t->t ∉ Region.ready md ops a:=by
 intro d;induction d using IF with
 |_ d G=>
   intro i M hi m t L A;obtain⟨_,B,k,f⟩:=mem_ready.1 A;have v:t<ops.size:=(ds.1 k).1;by_cases I:t=n
   .subst I;have b:=ms.1 J i (j3.2 hi);simp only[Bool.or_eq_true,decide_eq_true_eq]at b;rcases b with b | b
    .rw[c.low i b]at m;cases m
    obtain⟨j,E,l⟩:=List.any_eq_true.1 b;simp only[j4,decide_eq_true_eq]at l;obtain⟨x,z,e,p,q,o⟩:=Region.waitsFor_spec l.2;have C:j<=t:=Nm (j3.1 E);by_cases r:j=t
    .subst r;have:x=B:=Option.some.inj (z.symm.trans k);subst this;have g:=f e p q;rw[o,getD_both m]at g;cases g
    .cases y:a.getD j J0 with
     |true=>have g:=c.head.closed j x z y e p q;rw[o,getD_both m]at g;cases g
     |false=>
       have w:j<a.size:=by rw[c.head.size];omega
       exact G (t-j) af j rfl af (getD_in w y) t (cg _) A
   .have b:=ms.1 D t (j3.2 v);simp only[Bool.or_eq_true,decide_eq_true_eq]at b;rcases b with b | b
    .omega
    .obtain⟨s,u,h⟩:=List.any_eq_true.1 b;simp only[j4,decide_eq_true_eq]at h;have F:=j3.1 u;obtain⟨o',H,e,p,q,o⟩:=Region.waitsFor_spec h.2;have:o'=B:=Option.some.inj (H.symm.trans k);subst this;have g:=f e p q;rw[o,getD_both (c.head.tail s h.1 af)]at g;cases g
theorem Dz{lo n i:Nat}{v:J3}{L:Array Bool->Act->Prop}(hi:ops[i]? = IT p)(G:∀(j:Nat)(o:Oper)u b,ops[j]? = IT o->o.op≠.select u b)(N:uR md ops lo n=Jd)(E:pO md ops n=Jd)(I:n<ops.size)(M:i<n)(s:∀c a,L c a->∀j∈Region.ready md ops c,n<=j)(f:Nat) :
 ∀(c:Array Bool)(a:Act),k7 md ops lo n c ->
  (∀j m,ops[j]? = IT m->j≠i->c.getD j Jd=J0->(∀e∈m.after,Region.binds md e=Jd->e.on≠i)->p.apart ops m=Jd) ->
  i∈Region.ready md ops c->YieldsIn P ops C p v a ->
  kU P md ops C n L f (c.setIfInBounds i Jd) (a.put p.dst v)->kU P md ops C n L (f+1) c a:=by
 induction f with
 |zero=>
   intro c a d _ l y H;have q:=(mem_ready.1 l).1;refine⟨λh=>(by rw[h]at l;cases l),λj r=>?_⟩;have z:j<n:=by
    rcases lb j n with h | h
    .exact h
    .exact absurd r (BD N E I d _ i rfl M q j h)
   refine⟨z,?_⟩;by_cases g:j=i
   .subst g;exact y.qOp hi H
   .have:=s _ _ H j (ready_mono r g);omega
 |succ f ih=>
   intro c a d J l y H;have q:=(mem_ready.1 l).1;refine⟨λh=>(by rw[h]at l;cases l),λj r=>?_⟩;have z:j<n:=by
    rcases lb j n with h | h
    .exact h
    .exact absurd r (BD N E I d _ i rfl M q j h)
   refine⟨z,?_⟩;by_cases g:j=i
   .subst g;exact y.qOp hi H
   .have x:=(H.2 j (ready_mono r g)).2;obtain⟨K,m,A,t⟩:=mem_ready.1 r;have S:∀e∈m.after,Region.binds md e=Jd->e.on≠i:=λe U V D=>by have x:=t e U V;rw[D,getD_both q]at x;cases x
    have Q:=qOp_put A (J j m A g K S) (λu b=>G i p u b hi) (λu b=>G j m u b A) y x;have O:∀k ok,ops[k]? = IT ok->k≠i->(c.setIfInBounds j Jd).getD k Jd=J0 ->
     (∀e∈ok.after,Region.binds md e=Jd->e.on≠i)->p.apart ops ok=true:=λk ok R T q B=>by
     refine J k ok R T ?_ B;by_cases w:j=k
     .subst w;exact K
     .rw[getD_set_ne Jd w]at q;exact q
    refine qOp_mono (λW F=>ih (c.setIfInBounds j Jd) W (d.set r z) O (ready_mono l (Ne.symm g)) F.1 ?_) Q;rw[FF _ _ g];exact F.2
theorem Jl{lo n g:Nat}(z:Region.noSelect ops=Jd)(E:uR md ops lo n=Jd)(x:pO md ops n=Jd)(A:n<ops.size)(l:List Oper) :
 ∀(k:Nat)(b:Array Bool)(a:Act),(∀j,j<l.length->l[j]? = ops[k+j]?)->k+l.length=n->k7 md ops lo n b ->
 Region.lexHead md ops g l.length k b=Jd->wpQuiet P ops C t l a ->
 kU P md ops C n (λc u=>Region.seqB md ops g n c=Jd/\t u) l.length b a:=by
 induction l with
 |nil=>
   intro k b a _ i _ f h;have:k=n:=by simpa using i
   subst this;exact⟨by simpa[Region.lexHead]using f,h⟩
 |cons o l ih=>
   intro k b a q i d f h;have e:ops[k]? = IT o:=by simpa using (q 0 ai).symm
   simp only[it,Region.lexHead,j4]at f;obtain⟨⟨B,w⟩,m⟩:=f;have s:k<n:=by simp only[it]at i;omega
   have r:k∈Region.ready md ops b:=by simpa using B
   have p:qOp P ops C k (wpQuiet P ops C t l) a:=by unfold qOp;simp only[e];exact h
   obtain⟨v,y,hK⟩:=yieldsIn_of_qOp e p;exact Dz e (Region.noSelect_spec z) E x A s (λc u D=>seqB_ready D.1) l.length b a d (Region.free_spec e w) r y
    (ih (k+1) _ _ (λj F=>by have:=q (j+1) (by simp;omega);simpa[Nat.add_assoc,Nat.add_comm 1 j]using this) (by simp only[it]at i;omega) (d.set r s) m hK)
def yK(md:Region.Mode)(ops:Array Oper)(g h:Nat):Nat->Nat->Array Bool->Bool
 |0,k,listed=>Region.lexHead md ops g h k listed
 |f+1,k,listed=>(Region.ready md ops listed).contains k && Region.free md ops listed k && yK md ops g h f (k+1) (listed.setIfInBounds k Jd)
def Wt(md:Region.Mode)(ops:Array Oper)(lo n:Nat):Bool:=
 Region.noSelect ops && decide (lo<=n) && decide (n<ops.size) && uR md ops lo n && pO md ops n && yK md ops (ops.size-n) (n-lo) lo 0 (xj ops.size J0)
theorem Po{lo n g h gf:Nat}{u:Act->Prop}(C:Region.noSelect ops=Jd)(D:∀c a w,¬Q (.panic c) a w)(E:lo<=n)(G:n<ops.size)(l:List Oper) :
 ∀(k:Nat)(b:Array Bool)(a:Act)(w:KX),(∀j,j<l.length->l[j]? = ops[k+j]?)->k+l.length=lo->k7 md ops k n b ->
 yK md ops g h l.length k b=Jd->Ap P ops u l a ->
 (∀d x,k7 md ops lo n d->Region.lexHead md ops g h lo d=Jd->u x->wpAny P md ops Q gf d x w) ->
 wpAny P md ops Q (l.length+gf) b a w:=by
 induction l with
 |nil=>
   intro k b a w _ p f m h q;have:k=lo:=by simpa using p
   subst this;rw[Hl,j0];exact q b a f (by simpa[yK]using m) h
 |cons o l ih=>
   intro k b a w s p f m h q;have z:ops[k]? = IT o:=by simpa using (s 0 ai).symm
   simp only[it,yK,j4]at m;obtain⟨⟨t,y⟩,r⟩:=m;obtain⟨v,A,hK⟩:=h;have I:k<lo:=by simp only[it]at p;omega
   have B:k∈Region.ready md ops b:=by simpa using t
   rw[it,show l.length+1+gf=(l.length+gf)+1 by omega];refine wpAny_take z C y t (λc a w F=>absurd F (D _ _ _)) A ?_;refine ih (k+1) _ _ w (λj H=>by have:=s (j+1) (by simp;omega);simpa[Nat.add_assoc,Nat.add_comm 1 j]using this) (by simp only[it]at p;omega) ?_ r hK q;refine⟨f.head.set B af,λi hi=>?_⟩;by_cases e:k=i
   .subst e;exact DA (Nm f.head.size)
   .rw[getD_set_ne Jd e];exact f.low i af
where
 DA {listed:Array Bool} {i:Nat} (h:i<listed.size):(listed.setIfInBounds i Jd).getD i Jd=true:=by rw[Array.getD_eq_getD_getElem?,Array.getElem?_setIfInBounds_self_of_lt h];rfl
theorem nh(C:KX->Prop){D:Nat}{a:Act}{w:KX}{l:List Oper}(lo n:Nat)(F:P.follows .mixedOrders=Jd)(y:Wt .any l.toArray lo n=Jd)(M:C w.drew)(h:Ap P l.toArray (wpQuiet P l.toArray C (λk=>∀w',C w'->wpList P l.toArray (NoP Q) (l.drop n) k w') ((l.drop lo).take (n-lo))) (l.take lo) a):(Code.region D l.toArray Jd).wp P Q a w:=by
 refine Code.wp_mono NoP.weaken ?_;simp only[Wt,j4,decide_eq_true_eq]at y;obtain⟨⟨⟨⟨⟨x,u⟩,s⟩,L⟩,E⟩,r⟩:=y;have K:n<l.length:=by simpa using s
 have o:(l.take lo).length=lo:=by simp;omega
 have m:((l.drop lo).take (n-lo)).length=n-lo:=by simp;omega
 have A:(l.drop n).length=l.toArray.size-n:=ai;have B:k7 .any l.toArray 0 n (xj l.toArray.size J0):=
  ⟨⟨ai,λj N _ v=>(by rw[getD_replicate_false]at v;cases v),λt _ G=>getD_in (by simpa using G) (getD_replicate_false _ _)⟩,λi hi=>absurd hi (Dc i)⟩
 refine wp_region_any F ?_;have:=Po (P:=P) (md:=.any) (ops:=l.toArray) (lo:=lo) (n:=n) (g:=l.toArray.size-n) (h:=n-lo) (gf:=l.toArray.size-lo) (Q:=NoP Q) x (λc a w h=>h) u s (l.take lo) 0 _ a w.drew (λj f=>by
  have e:j<lo:=by rw[o]at f;exact f
  simp[e]) (by simpa using o) B (by rw[o];exact r) h (λb k p J I=>by
   have H:=Jl (md:=.any) (C:=C) (g:=l.toArray.size-n) x L E s ((l.drop lo).take (n-lo)) lo b k (λj f=>by
    have e:j<n-lo:=by rw[m]at f;exact f
    simp[e,F1]) (by rw[m];omega) p (by rw[m];exact J) I
   have:=tS (Q':=NoP Q) (g:=l.toArray.size-n) (λd k w' q z=>by have:=wpAny_of_seq (md:=.any) (Q':=NoP Q) (l.drop n) n d k w' (λj=>by simp[F1]) (by rw[A];exact z.1) (z.2 w' q);rwa [A]at this) _ _ _ _ M H
   rw[m,show n-lo+(l.toArray.size-n)=l.toArray.size-lo by omega]at this;exact this)
 rw[o,show lo+(l.toArray.size-lo)=l.toArray.size by omega]at this;exact this
end
open Go.ChangeMaps (setBlock heap_setBlock_same heap_setBlock_other)
theorem dR.extend{w m:KX}{o:ay}{d:Nat}{f:bY}(h:dR w o d f){v v':J3}(J:w.cell? d=IT v)(j:∀b,v.ownBlock=IT b->o b=IT (4,d)){bs:List UInt8}(K:m.ownsRow 0 5 1 v' bs.length (bs.map bv))(q:w.grownBy m v.ownBlock)(R:v'.ownBlock=v.ownBlock\/v'.ownBlock=IT w.heap.size)(u:∀x t,o x=IT t->x<w.heap.size)(N:bs.length<=16777216) :
 dR (m.setCell d v') (o.put v' (4,d)) d { f with now:=bs }/\(∀x r,o x=IT r->(o.put v' (4,d)) x=IT r)/\aN (oH o d) w (m.setCell d v')/\cX w.heap.size o (o.put v' (4,d)) /\
  (∀x t,(o.put v' (4,d)) x=IT t->x<(m.setCell d v').heap.size)/\(m.setCell d v').cell? d=IT v':=by
 have n:∀b,v'.ownBlock=IT b->o b=IT (4,d)\/b=w.heap.size:=λb g=>by
  rcases R with e | e
  .exact .inl (j b (by rw[<- e];exact g))
  .rw[e]at g;exact .inr (Option.some.inj g).symm
 have y:∀x r,o x=IT r->(o.put v' (4,d)) x=IT r:=λx r i=>by
  unfold ay.put;cases e:v'.ownBlock with
  |none=>exact i
  |some b=>
    dsimp only;by_cases s:x=b
    .subst s;rcases n x e with l | l
     .rw[l]at i;cases i;simp
     .have:=u x r i;omega
    .rw[ay.dB _ _ s];exact i
 have p:cX w.heap.size o (o.put v' (4,d)):=λx i=>by
  cases e:o x with
  |some r=>exact y x r e
  |none=>
    unfold ay.put;cases O:v'.ownBlock with
    |none=>exact e
    |some b=>
      dsimp only;have F:x≠b:=by
       rintro rfl;rcases n x O with l | l
       .rw[e]at l;cases l
       .omega
      rw[ay.dB _ _ F];exact e
 have B:aN (oH o d) w m:=(aN.refl (oH o d) w).grown q (λk H=>.inl (.inr (.inl (j k H))));have z:=B.setCell d v' (.inl (.inl rfl));have D:(m.setCell d v').heap.size=m.heap.size:=ai;have C:∀b,v'.ownBlock=IT b->b<m.heap.size:=λb g=>(aA K b g).1;obtain⟨l,⟨t,a,c,G,T,S,Q,M⟩,P⟩:=h;have I:a=v:=by rw[au G]at J;simpa using J
 subst I;have E:∀b,v'.ownBlock=IT b->b≠d:=λb g e=>by
  rcases n b g with h | h
  .rw[e,l]at h;cases h
  .have:=u d _ l;omega
 have L:m.heap[d]? = w.heap[d]? := q.block d (u _ _ l) (λe=>by have:=j d e.symm;rw[l]at this;cases this);refine⟨⟨y _ _ l,⟨t,v',c,?_,?_,λb g=>ay.Dx g,?_,λb g=>y _ _ (M b g)⟩,N,P.2⟩,y,z,p,?_,by rw[au (aS (L.trans G) 0 v')];rfl⟩
 .rw[aS (L.trans G)];rfl
 .exact((aN.refl (·=d) m).setCell d v' (.inl rfl)).ownsRow K (λb g e=>E b g e)
 .refine((aN.refl (λx=>x=d\/a.ownBlock=IT x) w).grown q (λk H=>.inl (.inr H))).setCell d v' (.inl (.inl rfl)) |>.ownsRow Q (λb g e=>?_);have A:=M b g;rcases e with e | e
  .rw[e,l]at A;cases A
  .have:=j b e;rw[A]at this;cases this
 .intro x r i;rw[D];unfold ay.put at i;cases e:v'.ownBlock with
  |none=>rw[e]at i;exact eg (u x r i) q.size
  |some b=>
    rw[e]at i;dsimp only at i;by_cases s:x=b
    .rw[s];exact C b e
    .rw[ay.dB _ _ s]at i;exact eg (u x r i) q.size
theorem dR.aeY{w w':KX}{o:ay}{g:Nat}{f:bY}(h:dR w o g f){v:J3}(m:w.cell? g=IT v)(d:∀b,v.ownBlock=IT b->o b=IT (4,g)){bs:List UInt8}(u:w'.ownsRow 0 5 1 v bs.length (bs.map bv))(n:aN (λx=>v.ownBlock=IT x) w w')(q:bs.length<=16777216):dR w' o g { f with now:=bs }:=by
 obtain⟨k,⟨t,a,c,l,y,z,p,j⟩,r⟩:=h;have i:a=v:=by rw[au l]at m;simpa using m
 subst i;refine⟨k,⟨t,a,c,?_,u,d,?_,j⟩,q,r.2⟩
 .exact n.heap l (λe=>by have:=d g e;rw[k]at this;cases this)
 .exact n.ownsRow p (λb s e=>by have:=d b e;rw[j b s]at this;cases this)
theorem aeZ{n:Int}(b:-9223372036854775808<=n)(a:n<=9223372036854775807):cf Mm n=n:=by simp[cf,IntKind.bits,IntKind.signed];omega
theorem DB{n:Nat}(h:n<=E):n+(E-n)=E:=af
theorem DC{xs:List UInt8}(h:xs.length<=E):(xs++ei (E-xs.length) (0:UInt8)).length=E:=by simp;omega
theorem Wu{w:KX}{v:J3}{xs:List UInt8}(h:w.ownsRow 0 5 1 v (xs.length+(E-xs.length)) (xs.map bv++(ei (E-xs.length) (0:UInt8)).map bv))(a:xs.length<=E) :
 w.ownsRow 0 5 1 v (xs++ei (E-xs.length) (0:UInt8)).length ((xs++ei (E-xs.length) (0:UInt8)).map bv):=by rw[DC a,k8];rw[DB a]at h;exact h
theorem Pp{w w':KX}{row:Option Nat}(h:w.grownBy w' row){b i:Nat}(a:IT b≠row)(c:b<w.heap.size):w'.cell? ⟨b,i,KK⟩=w.cell? ⟨b,i,KK⟩:=World.cell?_of_block (h.block b c a)
theorem Jm{w w':KX}{row:Option Nat}(h:w.grownBy w' row){b i:Nat}(a:IT b≠row)(c:b<w.heap.size):w'.frozen? ⟨b,i,KK⟩=w.frozen? ⟨b,i,KK⟩:=World.frozen?_of_block (h.block b c a)
theorem dR.apart{w:KX}{o:ay}{c:Nat}{f:bY}(h:dR w o c f){v:J3}(a:∀b,v.ownBlock=IT b->o b=IT (4,c)):IT c≠v.ownBlock:=λe=>by have:=a c e.symm;rw[h.own]at this;cases this
theorem Te{w:KX}{base:Nat}{e:TypeId}{a:Option Addr}{n:Nat}{m:Nat}(h:w.ownsRow base e 1 (.slice a m c) n xs):n<=c:=by
 obtain⟨_,h⟩:=h;rcases h with⟨d,b⟩|⟨g,cap,f,d,_,_,b,_⟩
 .omega
 .cases d;exact b
theorem Wv{w:KX}{base:Nat}{e:TypeId}{a:Option Addr}{n:Nat}{m g:Nat}(h:w.ownsRow base e 1 (.slice a m c) n xs)(f:(fz a m c).ownBlock=IT g)(b:Nat):a.map (λx=>x.add b)=IT ⟨g,b,KK⟩:=by
 obtain⟨_,h⟩:=h;rcases h with⟨d,k⟩|⟨j,cap,i,d,_⟩
 .cases d;cases f
 .cases d;cases f;rw[ql,br,j0]
theorem kI{c:Type}[DecidableEq c](m:List (c×υ))(k:c)(a b:υ):aX (aX m k a) k b=aX m k b:=by unfold aX b9;rw[List.filter_cons_of_neg ai,Iv];simp
theorem Gh{P:Program}{w:KX}(r y ty a:TypeId)(F:P.underlying r=IT (.slice a))(n:(P.info? a).map (·.size)=IT 1)(base:Nat)(v:J3)(xs bs:List UInt8)(i:w.ownsRow base a 1 v xs.length (xs.map bv))(c:Nat)(C:c+bs.length<=xs.length)(d:Nat)(R:d=xs.length-c)(G:J3)(M:Rd w G bs) :
 ∃w',(∀(o:Option Addr)(l:Nat),(0<bs.length->∀g,v.ownBlock=IT g->o=IT ⟨g,c,KK⟩)->(Builtin.copy_ #[r,y] ty #[.slice o d l,G]).run P w=.ok (goInt bs.length) w')/\w'.ownsRow base a 1 v xs.length ((over xs c bs).map bv)/\aN (λx=>v.ownBlock=IT x) w w':=by
 obtain⟨K,p,rfl,U,J,N⟩:=M;by_cases B:bs.length=0
 .obtain rfl:bs=[]:=jJ B;refine⟨w,λo l _=>run_copy_none (P:=P) w r y ty a o K d l 0 p F n ai,?_,aN.refl _ _⟩;rw[Ws];exact i
 .rcases N with s |⟨b,Q,rfl,s⟩
  .exact absurd s B
  obtain⟨S,⟨rfl,V⟩|⟨g,cap,f,rfl,H,D,L,I,q,E⟩⟩:=i
  .omega
  have T:f.toList.length=cap*1:=by rw[Array.length_toList,q]
  have t:f.toList.take xs.length=xs.map bv:=by rw[sE]at E;exact E
  have h:=λl=>run_copy_row (P:=P) w r y ty a g c d l ⟨b,Q,KK⟩ bs.length p f a (bs.map bv) F n D (by
   rw[dj,R];exact(tk af).symm) (by
   intro j x m;rw[j1]at m;by_cases A:j<bs.length
   .rw[List.getElem?_eq_getElem A]at m;simp only[ql,Option.some.injEq]at m;subst m;rw[br];exact s j A
   .rw[List.getElem?_eq_none af]at m;simp at m) (by
   rw[dj,q];omega) (by simp[jl])
  simp only[dj]at h;refine⟨_,λo l u=>(by rw[u af g rfl];exact h l),⟨?_,.inr ⟨g,cap,_,rfl,H,setRow_heap w g _ _ a _ D,L,I,?_,?_⟩⟩,?_⟩
  .rw[dj,BB C,sE]
  .simp only[List.size_toArray,eh,et,ie,dj];omega
  .rw[sE];unfold over;have z:=Tc f.toList (bs.map bv) xs.length c (by rw[dj];exact C) af;rw[dj]at z;rw[List.append_assoc,z,t,k8,k8,List.map_take,List.map_drop]
  .exact⟨rfl,rfl,rfl,by simp[World.setRow],λk _ O=>setRow_other w g k _ (λe=>O (by rw[e];rfl))⟩
theorem dR.lt{w:KX}{o:ay}{a:Nat}{f:bY}(h:dR w o a f):a<w.heap.size:=by obtain⟨_,⟨t,v,u,b,_⟩,_⟩:=h;exact(ds.1 b).1
theorem Hd{w:KX}{db:Nat}{o:ay}{d:Dsk}(h:cI w db o d)(name:Name)(hs:name.size<=1000)(a:Nat)(ks:a<=1099511627776)(sv:J3)(bs:List UInt8)(Ww:Rd w sv bs)(ld:bs.length<=1099511627776)(Tf:∀b,sv.ownBlock=IT b->o b=KK):K1 prog 210 #[ptrTo db,.string name,a,sv] w λe w'=>e=(d.write name a bs).2/\cS w db o (d.write name a bs).1 w':=by
 have H:=ae h;have en:=ae Ww;have Vz:=ae Tf;obtain⟨sa,gx,rfl,-⟩:=Ww;clear h Tf;unfold ptrTo;cases hd:d.tick.dead with
 |true=>
   have D:d.write name a bs=(d.tick,6):=by unfold Dsk.write;rw[hd];rfl
   have e2:d.tick.err=6:=by unfold Dsk.err;rw[hd];rfl
   have E2:=ae e2;rw[D];clear hd D e2;go_enter func210,ntmps210;go_wp2_with fail;go_call(kH H.out) as e w1⟨rfl,qE,pF⟩;rw[E2.out];go_wp2;go_ret;exact⟨rfl,.of qE pF⟩
 |false=>
   have e2:d.tick.err=0:=by unfold Dsk.err;rw[hd];rfl
   have E2:=ae e2;have yw:=ae hd;clear hd e2;go_enter func210,ntmps210;go_wp2_with fail;go_call(kH H.out) as e w1⟨rfl,⟨mf,ml,l,qE⟩,pF⟩;rw[E2.out];have vO:=ae qE;have RP:=ae pF;have Di:=lZ qE name Jd;rw[Dsk.dY]at Di;clear qE pF;go_wp2_with fail;go_call(rA vO.out name Jd hs) as e w2⟨rfl,hb2⟩;have s:=ae (vO.out.below hb2);have mE:=ae (RP.out.b7 hb2);clear hb2;rcases Di with⟨y,R⟩|⟨y,R,q3,q4⟩|⟨pf,f,y,R,q3,q4⟩
   .have D:d.write name a bs=(d.tick,1):=by unfold Dsk.write;rw[yw.out];rw[r6]at y;rw[y];rfl
    rw[R];have T:=ae D;clear D R y;go_wp2;go_ret;rw[T.out];exact⟨rfl,.of ⟨_,_,_,s.out⟩ mE.out⟩
   .have D:d.write name a bs=(d.tick,3):=by unfold Dsk.write;rw[yw.out];rw[r6]at y;rw[y,R];rfl
    rw[q4];have T:=ae D;clear D q4 q3 R y;go_wp2;go_ret;rw[T.out];exact⟨rfl,.of ⟨_,_,_,s.out⟩ mE.out⟩
   .have D:d.write name a bs=if f.now.length<a then (d.tick,1)
     else if 16777216<bs.length+a then (d.tick,9)
     else if jn f.now.length<jn (max f.now.length (a+bs.length))/\d.bU<fq d.files+(jn (max f.now.length (a+bs.length))-jn f.now.length) then (d.tick,5)
     else ({ d.tick with files:=aX d.files name (f.laid a bs),loose:=oI d.loose name a bs.length },0):=by
     unfold Dsk.write;rw[yw.out];rw[r6]at y;rw[y,R];rfl
    rw[q4];have T:=ae D;have CO:dR w2 o pf f:=s.out.each _ (fy q3);have A:=ae CO;have HQ:=ae q3;clear D q4 q3 R y;obtain⟨v,u,⟨LD,-⟩,⟨am,-⟩,z,V,-,-⟩:=CO.cells;have jT:=CO.most.1;obtain⟨va,vc,rfl⟩:=aw z;have LF:=ae z;have Aq:=ae V;clear z V CO;by_cases CP:f.now.length<a
    .go_wp2;go_ret;rw[T.out,if_pos CP];exact⟨rfl,.of ⟨_,_,_,s.out⟩ mE.out⟩
    .by_cases Wy:16777216<bs.length+a
     .go_wp2;go_ret;rw[T.out,if_neg CP,if_pos Wy];exact⟨rfl,.of ⟨_,_,_,s.out⟩ mE.out⟩
     .go_wp2_with (refine qF rfl _ _ _ _ rfl f.now.length (a+bs.length) rfl rfl rfl af ?_;intro E hE;have HE:=ae hE;have C:f.now.length<=E:=(af);have co:a+bs.length<=E:=(af);have al:E<=16777216:=(af);clear hE);go_quiet ((go_at_call 247;exact Calls.quiet_of_same ((Bz _ _ af).mono (λe w' h=>⟨h.1,h.2.symm⟩))))
      go_wp2_with fail;obtain⟨M,hM⟩:∃M:Nat,M=jn E-jn f.now.length:=⟨_,rfl⟩;have de:((E:Int)+63)/64-((f.now.length:Int)+63)/64=(M:Int):=by unfold jn at hM;omega
      rw[de];have i7:M<=1048576:=by unfold jn at hM;omega
      have HM:=ae hM;clear hM de;rcases lb 0 M with lP | io;case' inl=>
       have kl:(0:Int)<M:=af;have hu:=s.out.ok.used;obtain⟨U,hU⟩:∃U:Nat,U=fq d.tick.files:=⟨_,rfl⟩;rw[<- hU]at hu;have HU:=ae hU;clear hU;obtain⟨Q,hQ⟩:∃Q:Nat,Q=d.tick.bU:=⟨_,rfl⟩;have gE:=s.out.ok.bU;rw[<- hQ]at gE;have W:=ae hQ;clear hQ;have lE:cf Mm ((U:Int)+M)=U+M:=by simp[cf,IntKind.bits,IntKind.signed];omega
       refine dx (Lg w2 w2) ah ah ((below_drewN aq _).drew) ?_;refine q_op rfl (λw' c=>(by go_simp;rfl)) (λK hK=>?_);go_simp;refine hK _ ?_;clear hK K;refine q_op rfl (λw' c=>(by go_simp;rfl)) (λK hK=>?_);go_simp;refine hK _ ?_;clear hK K;refine q_op rfl (λw' c=>(by go_simp;rfl)) (λK hK=>?_);go_simp;refine hK _ ?_;clear hK K;refine q_op rfl (λw' c=>(by go_simp;rfl)) (λK hK=>?_);go_simp;refine hK _ ?_;clear hK K;refine xA rfl (λw' c=>(by go_simp;rfl)) (λw' c=>((Wp (db:=db) (o:=o) (d:=d.tick) ⟨mf,ml,l,s.out.below c⟩).mono (λe j h=>⟨h.1,c.trans (h.2.mono c.size)⟩))) (λK hK=>?_);go_simp;refine hK _ ?_;clear hK K;rw[<- HU.out];iterate 5 (refine q_op rfl (λw' c=>(by go_simp;rfl)) (λK hK=>?_);go_simp;refine hK _ ?_;clear hK K)
       refine q_op (v:=Q) rfl (λw' c=>(by have iS:=(s.out.below c).head.cells.1.2.2.1;rw[<- W.out]at iS;go_simp)) (λK hK=>?_);go_simp;refine hK _ ?_;clear hK K;iterate 2 (refine q_op rfl (λw' c=>(by go_simp;rfl)) (λK hK=>?_);go_simp;refine hK _ ?_;clear hK K)
       refine wpQuiet_nil ?_;intro w3 O;have Dw:=ae (s.out.below O);have uQ:=ae (mE.out.b7 O);have gU:=ae O;clear O;by_cases gS:Q<U+M
       .go_wp2;go_ret;rw[T.out,if_neg CP,if_neg Wy,if_pos ⟨by have:=HM.out;rw[<- HE.out];omega,by
         have m:=HM.out;have J:=HE.out;have n:=HU.out;have h4:=W.out
         rw[Dsk.dY]at n;rw[Dsk.xF]at h4;rw[<- J,<- n,<- h4,<- m];exact gS⟩]
        exact⟨rfl,.of ⟨_,_,_,Dw.out⟩ uQ.out⟩
       have RQ:Lk (¬(jn f.now.length<jn (max f.now.length (a+bs.length))/\d.bU<fq d.files+(jn (max f.now.length (a+bs.length))-jn f.now.length))):=ae (by
        have m:=HM.out;have J:=HE.out;have n:=HU.out;have h4:=W.out
        rw[Dsk.dY]at n;rw[Dsk.xF]at h4;rw[<- J,<- n,<- h4,<- m];exact λh=>gS h.2)
       have G:Lk (fq d.files+M<=1048576):=ae (by have n:=HU.out;rw[Dsk.dY]at n;rw[<- n];omega)
       go_wp2;refine nh (Lg w2 w2) 1 12 ah ah ((gU.out.drew)) ?_
      case' inr=>
       have RQ:Lk (¬(jn f.now.length<jn (max f.now.length (a+bs.length))/\d.bU<fq d.files+(jn (max f.now.length (a+bs.length))-jn f.now.length))):=ae (by
        have m:=HM.out;have J:=HE.out
        rw[<- J];exact λh=>af)
       have G:Lk (fq d.files+M<=1048576):=ae (by have n:=s.out.ok.used;rw[Dsk.dY]at n;omega)
       have jj:decide ((0:Int)<M)=false:=by
        have:M=0:=af;simp[this]
       have kw:decide (0<M)=false:=by
        have:M=0:=af;simp[this]
       have lw:¬0<M:=af;clear io i7;go_quiet (fail)
       go_wp2;refine nh (Lg w2 w2) 1 12 ah ah (((below_drewN (below_drewN aq _) _).drew)) ?_
      all_goals
       simp only[ii,j2,ot,qd];refine p_op rfl (λw'=>(by go_simp<;>rfl)) (λK hK=>?_);go_simp;refine hK _ ?_;clear hK K;refine adk ?_;iterate 3 (refine qz ?_)
       refine qz ?_ (λw' c=>by have hc:=c.cell (p:=⟨pf,0,KK⟩) (A.out.lt);rw[LD]at hc;go_simp<;>rfl);iterate 4 (refine qz ?_)
       refine qz ?_ (λw' c=>by have hc:=c.cell (p:=⟨pf,0,KK⟩) (A.out.lt);rw[LD]at hc;go_simp<;>rfl);have i8:cf Mm ((E:Int)-f.now.length)=E-f.now.length:=aeZ af af;iterate 2 (refine qz ?_)
       refine wpQuiet_nil ?_;intro w4 r;have OP:=ae (s.out.below r);have zX:=ae (mE.out.b7 r);have Gi:=ae (aB LF.out r);have r7:w4.cell? pf=IT (.slice va f.now.length vc):=by rw[r.cell (p:=⟨pf,0,KK⟩) A.out.lt];exact LD
       have BF:=ae r7;have zW:w4.frozen? ⟨pf,0,KK⟩=false:=by rw[r.frozen (p:=⟨pf,0,KK⟩) A.out.lt];exact am
       have Tg:Lk (dR w4 o pf f):=ae (OP.out.each _ (fy HQ.out));clear r LD am A;refine nC rfl _ _ 46 3 Mm rfl 0 5 Tryz.underlying46 Tryz.underlying3 jZ _ f.now.length _ rfl Gi.out (E-f.now.length) (by show tb Mm _=tb Mm _;congr 1;omega) af (em _) ?_;intro v5 w5 B Pr dl;rw[DB C]at B;obtain⟨a5,c5,rfl⟩:=aw B;have I:=ae (Tg.out.extend BF.out Aq.out (Wu (by rw[DB C];exact B) C) Pr dl OP.out.owned (by rw[DC C];exact al));have K8:w5.cell? pf=IT (.slice va f.now.length vc):=by rw[Pp Pr (Tg.out.apart Aq.out) Tg.out.lt];exact BF.out
       have S8:w5.frozen? ⟨pf,0,KK⟩=false:=by rw[Jm Pr (Tg.out.apart Aq.out) Tg.out.lt];exact zW
       have aE:=ae B;clear B Pr dl zW r7;go_wp2;simp only[NoP];have ke:E<=c5:=Te aE.out;have xG:(f.now++ei (E-f.now.length) (0:UInt8)).length=E:=DC C;have X:=ae (OP.out.Pk HQ.out I.out.2.2.1 I.out.2.1 I.out.1 I.out.2.2.2.2.1 (by have m:=xE OP.out.LC (OP.out.get HQ.out);rw[lY];dsimp only at m ⊢;rw[xG];have J:=G.out;have n:=HM.out;rw[Dsk.dY]at m ⊢;omega))
       have Wz:=ae (zX.out.trans I.out.2.2.1 (λx _ S=>oH.in S Tg.out.own));have Y:=ae I.out.1;have L:=ae I.out.2.2.2.2.2;have me:=ae I.out.2.1;have du:=ae I.out.2.2.2.1;have Z:=ae xG;have kd:=L.out;clear I aE K8 S8 xG i8;generalize w5.setCell pf (.slice a5 E c5)=w6 at *;generalize bd:f.now++ei (E-f.now.length) (0:UInt8)=xs at *;have eS:Lk (f.laid a bs=⟨over xs a bs,f.iY⟩):=ae (by unfold bY.laid;rw[<- HE.out,bd]);clear bd;have iF:=ae (Wz.out.rd en.out (λb hb=>ay.eB (Vz.out b hb)));have ce:w6.ownsRow 0 5 1 (.slice a5 E c5) xs.length (xs.map bv)/\∀b,(fz a5 E c5).ownBlock=IT b->(o.put (.slice a5 E c5) (4,pf)) b=IT (4,pf):=by obtain⟨v,u,⟨h0,-⟩,-,m,J,-⟩:=Y.out.cells;obtain rfl:v=.slice a5 E c5:=Option.some.inj (h0.symm.trans L.out);exact⟨m,J⟩
       have Hs:=ae ce;clear ce;obtain⟨w7,WA,ac,VA⟩:=Gh (P:=prog) (w:=w6) 46 46 3 5 Tryz.underlying46 ah 0 (.slice a5 E c5) xs bs Hs.out.1 a (by rw[Z.out];exact co) (E-a) (by rw[Z.out]) (.slice sa bs.length gx) iF.out;have gt:=WA (a5.map (λx=>x.add a)) (c5-a) (λ_ g hg=>Wv Hs.out.1 hg a);have ee:c5=a->_:=λhc=>WA a5 0 (λh=>absurd h af);clear WA;have dq:=ae ac;have F:=ae VA;clear ac VA;have N:(over xs a bs).length=E:=by rw[BB (by rw[Z.out];exact co),Z.out]
       have WB:=ae (X.out.Pk (f:={ f with now:=xs }) (by rw[aC,if_pos rfl]) (F.out.mono (S':=oH (o.put (.slice a5 E c5) (4,pf)) pf) (λx _ S=>.inr (.inl (Hs.out.2 x S)))) (λ_ _ h=>h) (Y.out.aeY L.out Hs.out.2 (by rw[N];have h:=dq.out;rw[Z.out]at h;exact h) F.out (by rw[N];exact al)) (λx t S=>eg (X.out.owned x t S) F.out.size) (by have m:=X.out.ok.used;rw[kI];dsimp only at m ⊢;rw[lY]at m ⊢;dsimp only at m ⊢;rw[N];rw[Z.out]at m;exact m))
       have ff:=ae (Wz.out.trans F.out (S':=λx=>(fz a5 E c5).ownBlock=IT x) (λx S e=>by
        rcases lb x w4.heap.size with m | m
        .have J:=du.out x m;have n:=Hs.out.2 x e;rw[J]at n;exact⟨_,n,by show 4<6;decide⟩
        .have:=zX.out.size;omega))
       clear N Y L dq F iF;obtain⟨⟨-,Ti,-⟩,-⟩:=WB.out.head.cells;have xH:bs.length<=16777216:=af;by_cases LL:c5=a;case' pos=>have li:=ee LL;clear gt
       clear ee;all_goals
        go_wp2;go_loopw [103] (λi wr=>∃k:Nat,k<=bs.length/\i=k/\aN (·=ml) w7 wr/\Dr wr ml (oI d.loose name a k)) (λi _=>bs.length-(Lo i).toNat)
        case atStart=>exact⟨0,em _,rfl,aN.refl _ _,by have:=WB.out.loose;dsimp only at this;rw[Dsk.oG]at this;exact this⟩
        case round=>
         obtain⟨k,hk,rfl,ht,hm⟩:=hrel;by_cases ci:k<bs.length/\c5≠a
         .first
          |exact absurd LL ci.2
          | (obtain⟨mh,-⟩:=ci
             have LM:wr.cell? ⟨db,1,KK⟩=IT (.map (IT ml)):=ht.cell Ti (ay.ne WB.out.Ge WB.out.Gf ag);have WC:Lk (Good prog 90 (eZ (name,(a+k)/64))):=ae (S6 (by unfold maxLen;omega) af);have vR:=ae hm;have fI:=ae ht;clear hm ht;go_wp2_with (at_mapUpdate;refine fL _ rfl _ _ _ _ rfl 4 Dp iz Tryz.underlying82 ml (oI d.loose name a k) rfl vR.out (name,(a+k)/64) () (by show DS #[ki name,tb Mm (((a:Int)+k)/64)]=eZ (name,(a+k)/64);unfold eZ;rw[show(((a+k)/64:Nat):Int)=((a:Int)+k)/64 by omega]) rfl WC.out ?_;intro es q fm);go_roundw
             case rel=>exact⟨k+1,af,by go_num,fI.out.setBlock ml _ (.inl rfl),fm⟩
             case measure=>simp[Lo];omega)
         .obtain rfl:k=bs.length:=af;have el:=ae (WB.out.RO ht hm);have i6:=ae (ff.out.trans ht (S':=λx=>x=ml) (λx _ e=>⟨_,e▸s.out.Gf,by show 2<6;decide⟩));clear hm ht;go_wp2;go_ret;rw[T.out,if_neg CP,if_neg Wy,if_neg RQ.out];have hN:=el.out;simp only[kI,Dsk.dY]at hN;rw[eS.out];exact⟨rfl,_,⟨_,_,_,hN⟩,i6.out,λx S=>du.out x (eg S zX.out.size)⟩
abbrev Pg:=List UInt8
def fO(n:Name):Nat:=gX n.data.toList
theorem LO(n:Name):fO n<4294967296:=ry _
def bC(tag:Nat):Nat->List Pg->List UInt8
 |_,[]=>[]
 |k,b::r=>cP tag k b++bC tag (k+1) r
def kJ(ps:List Pg):Prop:=∀b∈ps,b.length<=240
theorem kJ.cons{b:Pg}{r:List Pg}(h:kJ (b::r)):b.length<=240/\kJ r:=⟨h b ai,λx a=>h x M2⟩
theorem dM{tag:Nat}(ps:List Pg)(h:kJ ps):∀k,(bC tag k ps).length=256*ps.length:=by
 induction ps with
 |nil=>intro k;rfl
 |cons b r a=>grind [bC,dW,kJ.cons]
theorem jD{tag:Nat}(a b:List Pg):∀k,bC tag k (a++b)=bC tag k a++bC tag (k+a.length) b:=by
 induction a with
 |nil=>intro k;rfl
 |cons x a c=>grind [bC]
theorem yN{l:List α}{j:Nat}(h:j<l.length):l=l.take j++l[j]::l.drop (j+1):=ai
theorem kJ.take{ps:List Pg}(h:kJ ps)(n:Nat):kJ (ps.take n):=λb a=>h b (tt a)
theorem Gj{tag k j:Nat}{ps:List Pg}(h:kJ ps)(a:j<ps.length):((bC tag k ps).drop (256*j)).take 256=cP tag (k+j) ps[j]:=by
 have e:bC tag k ps=bC tag k (ps.take j)++(cP tag (k+j) ps[j]++bC tag (k+j+1) (ps.drop (j+1))):=by
  conv=>lhs;rw[yN a,jD,et,tk af]
  rfl
 have b:(bC tag k (ps.take j)).length=256*j:=by grind [dM,kJ.take]
 rw[e,mL _ _ _ b,tV _ _ _ (dW _ _ _ (h _ (rM a)))]
theorem DF{tag k j:Nat}{ps:List Pg}{b:Pg}(h:kJ ps)(d:b.length<=240)(a:j<ps.length):over (bC tag k ps) (256*j) (cP tag (k+j) b)=bC tag k (ps.set j b):=by
 have e:∀x:Pg,bC tag k (ps.take j++x::ps.drop (j+1))=bC tag k (ps.take j)++(cP tag (k+j) x++bC tag (k+j+1) (ps.drop (j+1))):=λx=>by rw[jD,et,tk af];rfl
 have c:(bC tag k (ps.take j)).length=256*j:=by grind [dM,kJ.take]
 have f:ps.set j b=ps.take j++b::ps.drop (j+1):=List.set_eq_take_append_cons_drop.trans M2;rw[f,e b];unfold over;rw[dW _ _ _ d];conv=>lhs;rw[yN a,e ps[j]]
 rw[tV _ _ _ c,show 256*j+256=256*j+256 from rfl,<- List.drop_drop,mL _ _ _ c,mL _ _ _ (dW _ _ _ (h _ (rM a)))]
def dO(ps:List Pg)(j:Nat)(b:Pg):List Pg:=if j<ps.length then ps.set j b else ps++[b]
theorem ig(ps:List Pg)(j:Nat)(b:Pg)(h:j<=ps.length):(dO ps j b).length=max ps.length (j+1):=by grind [dO]
theorem vS{ps:List Pg}{j:Nat}{b:Pg}(h:kJ ps)(c:b.length<=240):kJ (dO ps j b):=by
 unfold dO;split
 .intro x a;rcases EL a with a | rfl
  .exact h x a
  omega
 .intro x a;rcases hS.1 a with a | a
  .exact h x a
  grind
theorem mM(ps:List Pg)(j:Nat)(b:Pg)(h:j<=ps.length)(i:Nat):(dO ps j b)[i]? = if i=j then IT b else ps[i]? := by grind [dO]
theorem Ht{tag j:Nat}{ps:List Pg}{b:Pg}(h:kJ ps)(a:b.length<=240)(g:j<=ps.length){f:bY}(d:f.now=bC tag 0 ps):f.laid (256*j) (cP tag j b)=⟨bC tag 0 (dO ps j b),f.iY⟩:=by
 have i:f.now.length=256*ps.length:=by grind [dM]
 unfold bY.laid;rw[dW _ _ _ a];congr 1;by_cases c:j<ps.length
 .have e:max f.now.length (256*j+256)-f.now.length=0:=af;rw[e,List.replicate_zero,nw,d];have:=DF (tag:=tag) (k:=0) h a c;grind [dO]
 .obtain rfl:j=ps.length:=af;have e:max f.now.length (256*ps.length+256)-f.now.length=256:=af;rw[e];unfold dO over;rw[if_neg af,jD,d,dW _ _ _ a];grind [bC]
abbrev jV:=(List Pg×Bool) ⊕ (bY×(Nat->Prop))
abbrev aL:=List (Name×jV)
structure cB where
 full:Bool
 name:Name
 k:Nat
 bytes:Pg
 cu:Bool
 used:Bool
def cB.none:cB:=⟨J0,ByteArray.empty,0,[],J0,J0⟩
def jV.need:jV->Nat
 | .inl x=>4*x.1.length
 | .inr x=>jn x.1.now.length
def need(L:aL):Nat:=(L.map (λp=>p.2.need)).sum
def fU(fs:List cB)(n:Name)(k:Nat):Prop:=∃(j:Nat)(a:cB),fs[j]? = IT a/\a.full=Jd/\a.cu=Jd/\a.name=n/\a.k=k
structure dZ(d:Dsk)(fs:List cB)(n:Name)(ps:List Pg)(fl:Bool)(f:bY)(dp:List Pg):Prop where
 get:aI d.files n=IT f
 now:f.now=bC (fO n) 0 dp
 le:dp.length<=ps.length
 most:ps.length<=65536
 short:kJ ps
 Gk:kJ dp
 each:∀k,k<ps.length->(k<dp.length/\dp[k]? = ps[k]?)\/fU fs n k
 iY:fl=Jd->dp=ps/\f.iY=f.now/\(∀s,((n,s),()) ∉ d.loose)/\∀k,¬fU fs n k
 jE:∀s,((n,s),())∈d.loose->s<4*dp.length
structure Sound(d:Dsk)(fs:List cB)(L:aL):Prop where
 keys:(L.map (·.1)).Nodup
 ij:(d.files.map (·.1)).Nodup
 names:∀n,(aI d.files n).isSome=(aI L n).isSome
 ok:∀n,(aI L n).isSome=Jd->b6 n=Jd
 ej:∀n ps fl,aI L n=IT (.inl (ps,fl))->∃f dp,dZ d fs n ps fl f dp
 oJ:∀n f ls,aI L n=IT (.inr (f,ls))->aI d.files n=IT f/\∀s,((n,s),())∈d.loose↔ls s
 frames:∀fr∈fs,fr.full=Jd->∃ps fl,aI L fr.name=IT (.inl (ps,fl))/\ps[fr.k]? = IT fr.bytes
 blank:∀fr∈fs,fr.full=J0->fr=cB.none
 once:∀(i j:Nat)(fi fj:cB),fs[i]? = IT fi->fs[j]? = IT fj->fi.full=Jd->fj.full=Jd->fi.name=fj.name->fi.k=fj.k->i=j
 dI:∀n s,((n,s),())∈d.loose->(aI L n).isSome=Jd
structure cd(d d':Dsk):Prop where
 bU:d'.bU=d.bU
 calm:d.dS=0->d'.dS=0/\(d.dead=J0->d'.dead=J0)
 dead:d.dead=Jd->d'.dead=Jd
theorem cd.refl(d:Dsk):cd d d:=⟨rfl,λh=>⟨h,id⟩,id⟩
theorem cd.trans{d d' c:Dsk}(h:cd d d')(k:cd d' c):cd d c:=
 ⟨k.bU.trans h.bU,λa=>⟨(k.calm (h.calm a).1).1,λb=>(k.calm (h.calm a).1).2 ((h.calm a).2 b)⟩,λb=>k.dead (h.dead b)⟩
theorem cd.tick(d:Dsk):cd d d.tick:=by
 refine⟨Dsk.xF d,λh=>?_,λh=>?_⟩
 .grind [Dsk.tick]
 grind [Dsk.tick]
theorem cd.of{d d' e:Dsk}(h:cd d d')(g:e.bU=d'.bU)(f:e.dS=d'.dS)(b:e.dead=d'.dead):cd d e:=
 ⟨g.trans h.bU,λc=>⟨f.trans (h.calm c).1,λa=>b.trans ((h.calm c).2 a)⟩,λa=>b.trans (h.dead a)⟩
theorem Sound.l6{d d':Dsk}{fs:List cB}{L:aL}(h:Sound d fs L)(c:d'.files=d.files)(g:d'.loose=d.loose):Sound d' fs L where
 keys:=h.keys
 ij:=by grind [ij]
 names:=by grind [names]
 ok:=h.ok
 ej:=λn ps fl b=>by obtain⟨f,a,k⟩:=h.ej n ps fl b;exact⟨f,a,by rw[c];exact k.get,k.now,k.le,k.most,k.short,k.Gk,k.each,λe=>by grind [dZ.iY],by rw[g];exact k.jE⟩
 oJ:=by grind [oJ]
 frames:=h.frames
 blank:=h.blank
 once:=h.once
 dI:=by grind [dI]
theorem Sound.tick{d:Dsk}{fs:List cB}{L:aL}(h:Sound d fs L):Sound d.tick fs L:=h.l6 (Dsk.dY d) (Dsk.oG d)
theorem LP{a:Type}[DecidableEq a]{m:List (a×υ)}{k:a}{v:υ}{p:a×υ}:p∈aX m k v↔p=(k,v)\/p∈m/\p.1≠k:=by grind [aX,jk]
theorem si{m:List ((Name×Nat)×Unit)}{name:Name}{n:Name}{s:Nat}(a:n≠name):((n,s),())∈oI m name e c↔((n,s),())∈m:=by
 induction c with
 |zero=>rfl
 |succ c b=>grind [oI,LP]
theorem LQ{m:List ((Name×Nat)×Unit)}{name:Name}{s:Nat}:((name,s),())∈oI m name e c->((name,s),())∈m\/s<=(e+c-1)/64:=by
 induction c with
 |zero=>exact λh=>.inl h
 |succ c a=>grind [oI,LP]
theorem cY{a:Type}[DecidableEq a](m:List (a×υ))(k:a)(v:υ)(b:a):(aI (aX m k v) b).isSome=(decide (b=k) || (aI m b).isSome):=by grind [aC]
theorem tY{a:Type}[DecidableEq a](m:List (a×υ))(k:a)(b:a):(aI (b9 m k) b).isSome=(decide (b≠k) && (aI m b).isSome):=by grind [cV]
theorem yO{c:Type}[DecidableEq c]{a b:List c}(e:a.Nodup)(d:b.Nodup)(h:∀k,k∈a↔k∈b):a.Perm b:=(Ft e d).2 h
theorem mem_keys{a:Type}[DecidableEq a]{m:List (a×υ)}{k:a}:k∈m.map (·.1)↔(aI m k).isSome=true:=by grind [aI]
theorem yP{a:Type}[DecidableEq a]{m:List (a×υ)}(b:(m.map (·.1)).Nodup)(g:υ->Nat):(m.map (λp=>g p.2)).sum=((m.map (·.1)).map (λk=>((aI m k).map g).getD 0)).sum:=by rw[rj];congr 1;apply List.map_congr_left;intro p c;have:aI m p.1=IT p.2:=kD b c;grind
theorem ae3(l:List α)(f g:α->Nat)(h:∀x∈l,f x<=g x):(l.map f).sum<=(l.map g).sum:=by
 induction l with
 |nil=>simp
 |cons x l a=>grind
theorem Sound.WD{d:Dsk}{fs:List cB}{L:aL}(h:Sound d fs L):(d.files.map (·.1)).Perm (L.map (·.1)):=
 yO h.ij h.keys λn=>by grind [mem_keys,names]
theorem Sound.aaU{d:Dsk}{fs:List cB}{L:aL}(h:Sound d fs L):fq d.files<=need L:=by
 have g:fq d.files=((d.files.map (·.1)).map (λk=>((aI d.files k).map (λf:bY=>jn f.now.length)).getD 0)).sum:=yP h.ij (λf=>jn f.now.length);have c:need L=((L.map (·.1)).map (λk=>((aI L k).map jV.need).getD 0)).sum:=yP h.keys jV.need;have a:((L.map (·.1)).map (λk=>((aI L k).map jV.need).getD 0)).sum=((d.files.map (·.1)).map (λk=>((aI L k).map jV.need).getD 0)).sum:=((h.WD.map _).sum_nat).symm;rw[g,c,a];refine ae3 _ _ _ λn i=>?_;rw[mem_keys,h.names]at i;cases e:aI L n with
 |none=>grind
 |some x=>
   rcases x with⟨ps,fl⟩|⟨f,b⟩
   .obtain⟨f,j,k⟩:=h.ej n ps fl e;rw[k.get];show jn f.now.length<=4*ps.length;rw[k.now,dM _ k.Gk];have:=k.le;grind [jn]
   .rw[(h.oJ n f b e).1];exact cg _
theorem gF{fs:List α}{j:Nat}{x:α}(a:j<fs.length)(i:Nat):(fs.set j x)[i]? = if i=j then IT x else fs[i]? := M2
theorem aK{fs:List α}{j:Nat}{x:α}(h:fs[j]? = IT x):j<fs.length:=(List.getElem?_eq_some_iff.1 h).1
theorem mN{fs:List cB}{j:Nat}{a x:cB}(l:fs[j]? = IT a){n:Name}{k:Nat}(h:fU fs n k)(d:¬(a.full=Jd/\a.cu=Jd/\a.name=n/\a.k=k)):fU (fs.set j x) n k:=by obtain⟨i,g,hi,e,f,b,c⟩:=h;refine⟨i,g,?_,e,f,b,c⟩;grind
theorem lg{fs:List cB}{j:Nat}{l x:cB}(c:fs[j]? = IT l){n:Name}{k:Nat}(h:fU (fs.set j x) n k):fU fs n k\/(x.full=Jd/\x.cu=Jd/\x.name=n/\x.k=k):=by
 obtain⟨i,g,hi,d,f,a,b⟩:=h;rw[gF (aK c)]at hi;by_cases e:i=j
 .grind
 .rw[if_neg e]at hi;exact .inl ⟨i,g,hi,d,f,a,b⟩
theorem Gl{fs:List cB}{j:Nat}{x a:cB}(h:a∈fs.set j x):a∈fs\/a=x:=EL h
theorem DG{fs:List cB}(h:∀(i j:Nat)(a b:cB),fs[i]? = IT a->fs[j]? = IT b->a.full=Jd->b.full=Jd->a.name=b.name->a.k=b.k->i=j){j:Nat}{x:cB}(d:j<fs.length)(e:x.full=Jd->∀(i:Nat)(a:cB),i≠j->fs[i]? = IT a->a.full=Jd->a.name=x.name->a.k=x.k->False) :
 ∀(i c:Nat)(a b:cB),(fs.set j x)[i]? = IT a->(fs.set j x)[c]? = IT b->a.full=Jd->b.full=Jd->a.name=b.name->a.k=b.k->i=c:=M2
theorem Sound.alone{d:Dsk}{fs:List cB}{L:aL}(h:Sound d fs L){j:Nat}{b:cB}(f:fs[j]? = IT b)(l:b.full=Jd):∀(i:Nat)(a:cB),i≠j->fs[i]? = IT a->a.full=Jd->a.name=b.name->a.k=b.k->False:=
 λi a c hi g k e=>c (h.once i j a b hi f g l k e)
theorem Sound.reset{d:Dsk}{fs:List cB}{L:aL}(h:Sound d fs L){j:Nat}{m x:cB}(l:fs[j]? = IT m)(w:m.cu=J0)(p:x.cu=J0)(c:x=cB.none\/(x.full=Jd/\(∃ps fl,aI L x.name=IT (.inl (ps,fl))/\ps[x.k]? = IT x.bytes)/\∀(i:Nat)(a:cB),i≠j->fs[i]? = IT a->a.full=Jd->a.name=x.name->a.k=x.k->False)) :
 Sound d (fs.set j x) L where
 keys:=h.keys
 ij:=h.ij
 names:=h.names
 ok:=h.ok
 ej:=λn ps fl s=>by
  obtain⟨f,u,k⟩:=h.ej n ps fl s;refine⟨f,u,k.get,k.now,k.le,k.most,k.short,k.Gk,λi hi=>?_,λe=>?_,k.jE⟩
  .grind [dZ.each,mN]
  .obtain⟨r,t,o,v⟩:=k.iY e;refine⟨r,t,o,λi hi=>?_⟩;rcases lg l hi with q | q
   .grind
   grind
 oJ:=h.oJ
 frames:=λy g b=>by
  rcases Gl g with g | rfl
  .grind [frames]
  .rcases c with rfl | c
   .cases b
   grind
 blank:=λy g b=>by grind [blank]
 once:=DG h.once (aK l) (λb=>by
  rcases c with rfl | c
  .cases b
  grind)
 dI:=h.dI
theorem Sound.used{d:Dsk}{fs m:List cB}{L:aL}(h:Sound d fs L)(J:m.length=fs.length)(I:∀(i:Nat)(f g:cB),fs[i]? = IT f->m[i]? = IT g->(g.full,g.name,g.k,g.bytes,g.cu)=(f.full,f.name,f.k,f.bytes,f.cu)/\(f.full=J0->g=f)):Sound d m L:=by
 have l:∀(i:Nat)(g:cB),m[i]? = IT g->∃f,fs[i]? = IT f/\g.full=f.full/\g.name=f.name/\g.k=f.k/\g.bytes=f.bytes/\g.cu=f.cu/\(f.full=J0->g=f):=λi g hi=>M2
 have w:∀(i:Nat)(f:cB),fs[i]? = IT f->∃g,m[i]? = IT g/\g.full=f.full/\g.name=f.name/\g.k=f.k/\g.bytes=f.bytes/\g.cu=f.cu:=λi f hi=>M2
 have G:∀n k,fU m n k↔fU fs n k:=λn k=>by
  constructor
  .rintro⟨i,g,hi,a,b,c,e⟩;obtain⟨f,p,t,s,r,q,v,_⟩:=l i g hi;exact⟨i,f,p,M2,M2,M2,af⟩
  .rintro⟨i,f,hi,a,b,c,e⟩;obtain⟨g,p,t,s,r,q,v⟩:=w i f hi;exact⟨i,g,p,M2,M2,M2,af⟩
 exact {
  keys:=h.keys
  ij:=h.ij
  names:=h.names
  ok:=h.ok
  ej:=λn ps fl o=>by obtain⟨f,x,k⟩:=h.ej n ps fl o;exact⟨f,x,k.get,k.now,k.le,k.most,k.short,k.Gk,λi hi=>by grind [dZ.each],λe=>by grind [dZ.iY],k.jE⟩
  oJ:=h.oJ
  frames:=λy u p=>by obtain⟨i,hi⟩:=hY.1 u;obtain⟨f,o,t,s,r,q,v,_⟩:=l i y hi;rw[s,r,q];exact h.frames f (cx o) M2
  blank:=λy u p=>by obtain⟨i,hi⟩:=hY.1 u;obtain⟨f,o,t,s,r,q,v,z⟩:=l i y hi;rw[z M2];exact h.blank f (cx o) M2
  once:=λi j D H hi E B F C A=>by grind [once]
  dI:=h.dI }
theorem Sound.write{d:Dsk}{fs:List cB}{L:aL}(h:Sound d fs L){j:Nat}{g:cB}(m:fs[j]? = IT g){name:Name}{ps:List Pg}{fl:Bool}(E:aI L name=IT (.inl (ps,fl))){k:Nat}{b:Pg}{u:Bool}(K:k<=ps.length)(J:k<65536)(G:b.length<=240)(M:g.full=Jd/\g.name=name/\g.k=k\/g.cu=J0/\∀(i:Nat)(a:cB),i≠j->fs[i]? = IT a->a.full=Jd->a.name=name->a.k=k->False) :
 Sound d (fs.set j ⟨Jd,name,k,b,Jd,u⟩) (aX L name (.inl (dO ps k b,J0))):=by
 have o:∀(i:Nat)(a:cB),i≠j->fs[i]? = IT a->a.full=Jd->a.name=name->a.k=k->False:=by grind [alone]
 exact {
  keys:=cK h.keys
  ij:=h.ij
  names:=λn=>by grind [cY,names]
  ok:=λn I=>by grind [cY,ok]
  ej:=λn F A c=>by
   rw[aC]at c;by_cases e:n=name
   .rw[if_pos e]at c;subst e;simp only[Option.some.injEq,Sum.inl.injEq,Prod.mk.injEq]at c;obtain⟨rfl,rfl⟩:=c;obtain⟨f,l,q⟩:=h.ej n ps fl E;have x:=q.le;have z:=q.most;refine⟨f,l,q.get,q.now,by grind [ig],by grind [ig],vS q.short G,q.Gk,λi hi=>?_,λe=>(by cases e),q.jE⟩;by_cases w:i=k
    .exact .inr ⟨j,⟨Jd,n,k,b,Jd,u⟩,M2,rfl,rfl,rfl,w.symm⟩
    grind [mM,dZ.each,mN]
   .rw[if_neg e]at c;obtain⟨f,l,q⟩:=h.ej n F A c;refine⟨f,l,q.get,q.now,q.le,q.most,q.short,q.Gk,λi hi=>?_,λD=>?_,q.jE⟩
    .grind [dZ.each,mN]
    .obtain⟨r,C,v,H⟩:=q.iY D;refine⟨r,C,v,λi hi=>?_⟩;rcases lg m hi with B | B
     .grind
     grind
  oJ:=λn f N c=>by grind [aC,oJ]
  frames:=λy p t=>by obtain⟨i,hi⟩:=hY.1 p;rw[gF (aK m)]at hi;grind [aC,mM,frames]
  blank:=λy p t=>by grind [blank]
  once:=DG h.once (aK m) (λ_=>o)
  dI:=λn s O=>by grind [cY,dI] }
theorem Sound.create{d d':Dsk}{fs:List cB}{L:aL}(h:Sound d fs L){name:Name}(x:b6 name=Jd)(z:aI L name=KK)(v:d'.files=aX d.files name ⟨[],[]⟩)(g:d'.loose=d.loose):Sound d' fs (aX L name (.inl ([],Jd))) where
 keys:=cK h.keys
 ij:=by grind [cK,ij]
 names:=λn=>by grind [cY,names]
 ok:=λn c=>by grind [cY,ok]
 ej:=λn ps fl a=>by
  rw[aC]at a;by_cases e:n=name
  .subst e;rw[if_pos rfl]at a;simp only[Option.some.injEq,Sum.inl.injEq,Prod.mk.injEq]at a;obtain⟨rfl,rfl⟩:=a;refine⟨⟨[],[]⟩,[],by grind [aC],rfl,cg _,em _,(λ_ h=>nomatch h),(λ_ h=>nomatch h),(λk b=>absurd b (Dc k)),λ_=>⟨rfl,rfl,λs c=>?_,λk b=>?_⟩,λs c=>?_⟩
   .grind [dI]
   .obtain⟨i,m,hi,j,w,p,r⟩:=b;obtain⟨ps,fl,t,_⟩:=h.frames m (cx hi) j;grind
   grind [dI]
  .rw[if_neg e]at a;obtain⟨f,o,q⟩:=h.ej n ps fl a;exact⟨f,o,by grind [aC,dZ.get],q.now,q.le,q.most,q.short,q.Gk,q.each,by rw[g];exact q.iY,by rw[g];exact q.jE⟩
 oJ:=λn f u a=>by grind [aC,oJ]
 frames:=λy A l=>by grind [frames,aC]
 blank:=h.blank
 once:=h.once
 dI:=λn s c=>by grind [cY,dI]
theorem Sound.drop{d d':Dsk}{fs:List cB}{L:aL}(h:Sound d fs L){name:Name}(k:∀g∈fs,g.full=Jd->g.name≠name)(m:d'.files=b9 d.files name)(o:d'.loose=d.loose.filter (λp=>decide (p.1.1≠name))):Sound d' fs (b9 L name):=by
 have b:∀n s,((n,s),())∈d'.loose↔((n,s),())∈d.loose/\n≠name:=λn s=>M2
 exact {
  keys:=Ad h.keys
  ij:=by grind [Ad,ij]
  names:=λn=>by grind [tY,names]
  ok:=λn c=>by grind [tY,ok]
  ej:=λn ps fl a=>by
   rw[cV]at a;by_cases e:n=name
   .grind
   .rw[if_neg e]at a;obtain⟨f,j,q⟩:=h.ej n ps fl a;refine⟨f,j,by grind [cV,dZ.get],q.now,q.le,q.most,q.short,q.Gk,q.each,λt=>?_,λs c=>q.jE s ((b n s).1 c).1⟩;grind [dZ.iY]
  oJ:=λn f l a=>by grind [cV,oJ]
  frames:=λy r i=>by grind [frames,cV]
  blank:=h.blank
  once:=h.once
  dI:=λn s c=>by grind [tY,dI] }
theorem Sound.sync{d d':Dsk}{fs:List cB}{L:aL}(h:Sound d fs L){name:Name}{ps:List Pg}{fl:Bool}(u:aI L name=IT (.inl (ps,fl)))(m:∀k,¬fU fs name k){f:bY}(x:aI d.files name=IT f)(z:d'.files=aX d.files name ⟨f.now,f.now⟩)(A:d'.loose=d.loose.filter (λp=>decide (p.1.1≠name))):Sound d' fs (aX L name (.inl (ps,Jd))):=by
 have a:∀n s,((n,s),())∈d'.loose↔((n,s),())∈d.loose/\n≠name:=λn s=>M2
 exact {
  keys:=cK h.keys
  ij:=by grind [cK,ij]
  names:=λn=>by grind [cY,names]
  ok:=λn c=>by grind [cY,ok]
  ej:=λn t v b=>by
   rw[aC]at b;by_cases e:n=name
   .subst e;rw[if_pos rfl]at b;simp only[Option.some.injEq,Sum.inl.injEq,Prod.mk.injEq]at b;obtain⟨rfl,rfl⟩:=b;obtain⟨g,j,q⟩:=h.ej n ps fl u;have:g=f:=by have:=q.get;grind
    subst this;have l:j=ps:=by
     apply p5;intro i;by_cases hi:i<ps.length
     .rcases q.each i hi with o | o
      .grind
      grind
     .have:=q.le;grind
    refine⟨⟨g.now,g.now⟩,j,by grind [aC],q.now,q.le,q.most,q.short,q.Gk,q.each,λ_=>⟨l,rfl,λs c=>((a n s).1 c).2 rfl,m⟩,λs c=>absurd rfl ((a n s).1 c).2⟩
   .rw[if_neg e]at b;obtain⟨g,j,q⟩:=h.ej n t v b;refine⟨g,j,by grind [aC,dZ.get],q.now,q.le,q.most,q.short,q.Gk,q.each,λC=>?_,λs c=>q.jE s ((a n s).1 c).1⟩;grind [dZ.iY]
  oJ:=λn g w b=>by grind [aC,oJ]
  frames:=λy B r=>by grind [frames,aC]
  blank:=h.blank
  once:=h.once
  dI:=λn s c=>by grind [cY,dI] }
theorem Sound.back{d d':Dsk}{fs:List cB}{L:aL}(h:Sound d fs L){j:Nat}{a:cB}(k:fs[j]? = IT a)(u:a.full=Jd)(P:a.cu=Jd){ps:List Pg}{fl:Bool}(O:aI L a.name=IT (.inl (ps,fl))){f:bY}{g:List Pg}(q:dZ d fs a.name ps fl f g)(D:a.k<=g.length)(G:d'.files=aX d.files a.name (f.laid (256*a.k) (cP (fO a.name) a.k a.bytes)))(H:d'.loose=oI d.loose a.name (256*a.k) 256) :
 Sound d' (fs.set j { a with cu:=J0 }) L/\∃m,dZ d' (fs.set j { a with cu:=J0 }) a.name ps fl m (dO g a.k a.bytes):=by
 have R:fl=false:=by
  cases e:fl with
  |false=>rfl
  |true=>exact absurd ⟨j,a,k,u,P,rfl,rfl⟩ ((q.iY e).2.2.2 a.k)
 obtain⟨E,C,w,B⟩:=h.frames a (cx k) u;rw[O]at w;simp only[Option.some.injEq,Sum.inl.injEq,Prod.mk.injEq]at w;obtain⟨rfl,rfl⟩:=w;have S:a.k<ps.length:=aK B;have F:a.bytes.length<=240:=q.short _ (cx B);have o:=Ht q.Gk F D q.now;rw[o]at G;have J:=q.le;have v:dZ d' (fs.set j { a with cu:=J0 }) a.name ps fl ⟨bC (fO a.name) 0 (dO g a.k a.bytes),f.iY⟩ (dO g a.k a.bytes):=by
  refine⟨by grind [aC],rfl,by grind [ig],q.most,q.short,vS q.Gk F,λi hi=>?_,λe=>(M2),λs l=>?_⟩;rotate_left
  .rw[H]at l;rw[ig _ _ _ D];rcases LQ l with c | c
   .have:=q.jE s c;omega
   .omega
  grind [mM,dZ.each,mN]
 refine⟨?_,_,v⟩;exact {
  keys:=h.keys
  ij:=by grind [cK,ij]
  names:=λn=>by grind [cY,names]
  ok:=h.ok
  ej:=λn E C z=>by
   by_cases e:n=a.name
   .grind
   .obtain⟨m,p,b⟩:=h.ej n E C z;refine⟨m,p,by grind [aC,dZ.get],b.now,b.le,b.most,b.short,b.Gk,λi hi=>?_,λN=>?_,λs l=>b.jE s (by grind [si])⟩
    .grind [dZ.each,mN]
    .obtain⟨c,t,A,Q⟩:=b.iY N;refine⟨c,t,λs l=>?_,λi hi=>?_⟩
     .grind [si]
     .rcases lg k hi with M | M
      .grind
      grind
  oJ:=λn m T z=>by grind [oJ,aC,si]
  frames:=λy I x=>by grind [frames]
  blank:=λy I x=>by grind [blank]
  once:=DG h.once (aK k) (λ_ i K r hi c t A=>h.alone k u i K r hi c t A)
  dI:=λn s l=>by grind [si,dI] }
def ep(d:Dsk)(name:Name)(k:Nat)(b:Pg):Dsk×Nat:=
 if (d.sizeOf name).2≠0 then (d,(d.sizeOf name).2)
 else if (d.sizeOf name).1/256<k then (d,1)
 else d.write name (256*k) (cP (fO name) k b)
def om(d d':Dsk)(L:aL)(e:Nat):Prop:=e=5/\d.bU<need L\/e=6/\d'.dead=Jd
theorem om.ne{d d':Dsk}{L:aL}{e:Nat}(h:om d d' L e):e≠0:=by rcases h with h | h<;>omega
theorem Dsk.Hu{d:Dsk}{n:Name}{f:bY}(b:b6 n=Jd)(a:aI d.files n=IT f):d.sizeOf n=if d.dead=Jd then (0,6) else (f.now.length,0):=by grind [Dsk.sizeOf]
theorem Sound.aiN{d:Dsk}{fs:List cB}{L:aL}(h:Sound d fs L){j:Nat}{a:cB}(k:fs[j]? = IT a)(l:a.full=Jd)(u:a.cu=Jd){ps:List Pg}{fl:Bool}(m:aI L a.name=IT (.inl (ps,fl))){f:bY}{b:List Pg}(q:dZ d fs a.name ps fl f b)(s:a.k<=b.length) :
 cd d (ep d a.name a.k a.bytes).1 /\
 ((ep d a.name a.k a.bytes).2=0/\Sound (ep d a.name a.k a.bytes).1 (fs.set j { a with cu:=J0 }) L/\(∃o,dZ (ep d a.name a.k a.bytes).1 (fs.set j { a with cu:=J0 }) a.name ps fl o (dO b a.k a.bytes)) \/
   om d (ep d a.name a.k a.bytes).1 L (ep d a.name a.k a.bytes).2/\Sound (ep d a.name a.k a.bytes).1 fs L):=by
 have p:b6 a.name=true:=h.ok _ M2;obtain⟨B,y,g,i⟩:=h.frames a (cx k) l;rw[m]at g;simp only[Option.some.injEq,Sum.inl.injEq,Prod.mk.injEq]at g;obtain⟨rfl,rfl⟩:=g;have z:a.k<ps.length:=aK i;have A:=q.most;have w:a.bytes.length<=240:=q.short _ (cx i);have t:f.now.length=256*b.length:=by rw[q.now,dM _ q.Gk]
 have r:(cP (fO a.name) a.k a.bytes).length=256:=dW _ _ _ w;unfold ep;rw[Dsk.Hu p q.get];cases v:d.dead with
 |true=>simp only[if_true];exact⟨cd.refl d,.inr ⟨.inr ⟨rfl,v⟩,h⟩⟩
 |false=>
   simp only[Bool.false_eq_true,if_false,ne_eq,not_true_eq_false];rw[if_neg (show ¬f.now.length/256<a.k by omega)];unfold Dsk.write;by_cases e:d.tick.dead=Jd
   .rw[if_pos e];exact⟨cd.tick d,.inr ⟨.inr ⟨rfl,e⟩,h.tick⟩⟩
   .rw[if_neg e,if_neg M2,q.get];dsimp only;rw[if_neg (show ¬f.now.length<256*a.k by omega),r,if_neg (show ¬16777216<256+256*a.k by omega)];have c:=Sound.back (d':={ d.tick with files:=aX d.files a.name (f.laid (256*a.k) (cP (fO a.name) a.k a.bytes)),loose:=oI d.loose a.name (256*a.k) 256 }) h k l u m q s rfl rfl;split
    .rename_i n
     refine⟨cd.tick d,.inr ⟨.inl ⟨rfl,?_⟩,h.tick⟩⟩;have x:=c.1.aaU;grind [xE,ij,dZ.get,lY,Ht,dZ.Gk,dZ.now,dM,ig]
    .refine⟨(cd.tick d).of rfl rfl rfl,.inl ⟨rfl,c.1,c.2⟩⟩
def oK(name:Name):List Nat->Dsk->List cB->(Dsk×List cB)×Nat
 | [],d,fs=>((d,fs),0)
 |i::l,d,fs=>
   if (ep d name (fs.getD i cB.none).k (fs.getD i cB.none).bytes).2≠0 then (((ep d name (fs.getD i cB.none).k (fs.getD i cB.none).bytes).1,fs),(ep d name (fs.getD i cB.none).k (fs.getD i cB.none).bytes).2)
   else oK name l (ep d name (fs.getD i cB.none).k (fs.getD i cB.none).bytes).1 (fs.set i { fs.getD i cB.none with cu:=J0 })
def BG(fs:List cB)(i:Nat):Nat:=(fs.getD i cB.none).k
structure WE(fs:List cB)(name:Name)(n:Nat)(l:List Nat):Prop where
 each:∀i∈l,∃fr,fs[i]? = IT fr/\fr.full=Jd/\fr.cu=Jd/\fr.name=name
 il:l.Pairwise (λa b=>BG fs a<BG fs b)
 all:∀p,fU fs name p->p<n\/(∃i∈l,BG fs i=p)\/∀i∈l,BG fs i<p
theorem sj{fs:List cB}{i:Nat}{a:cB}(h:fs[i]? = IT a):fs.getD i cB.none=a:=M2
theorem Jn{fs:List cB}{i:Nat}{a x:cB}(h:fs[i]? = IT a)(b:x.k=a.k)(j:Nat):BG (fs.set i x) j=BG fs j:=by grind [BG]
theorem Sound.aaV{L:aL}{name:Name}{ps:List Pg}{fl:Bool}(M:aI L name=IT (.inl (ps,fl)))(l:List Nat) :
 ∀(d:Dsk)(fs:List cB)(f:bY)(b:List Pg),Sound d fs L->dZ d fs name ps fl f b->WE fs name b.length l ->
 ∃d' o e,oK name l d fs=((d',o),e)/\Sound d' o L/\cd d d'/\o.length=fs.length/\(∀i a,fs[i]? = IT a->∃n,o[i]? = IT { a with cu:=n }/\(n=Jd->a.cu=Jd)/\(a.cu=J0\/i ∉ l->n=a.cu)/\(e=0->i∈l->n=J0))/\(e=0\/om d d' L e):=by
 induction l with
 |nil=>intro d fs f b h q k;exact⟨d,fs,0,rfl,h,cd.refl d,rfl,λi a hi=>⟨a.cu,hi,id,λ_=>rfl,λ_ v=>by cases v⟩,.inl rfl⟩
 |cons i l K=>
   intro d fs f b h q k;obtain⟨a,hi,y,H,E⟩:=k.each i ai;have I:=FC.1 k.il;have Z:BG fs i=a.k:=by grind [BG]
   have z:ps[a.k]? = IT a.bytes:=by obtain⟨LR,T,FJ,z⟩:=h.frames a (cx hi) y;grind
   have A:a.k<=b.length:=by
    rcases lb b.length a.k with Q | V
    .exfalso
     have Y:=aK z;rcases q.each b.length af with g | g
     .omega
     .rcases k.all _ g with g |⟨i',v,g⟩| g
      .omega
      .grind
      grind
    omega
   rw[oK,sj hi];subst E;obtain⟨B,⟨r,u,C,R⟩|⟨r,u⟩⟩:=h.aiN hi y H M q A
   .rw[if_neg af];have O:WE (fs.set i { a with cu:=J0 }) a.name (dO b a.k a.bytes).length l:=by
     refine⟨λj w=>?_,?_,λp m=>?_⟩
     .grind [WE.each]
     .grind [Jn]
     .rw[ig _ _ _ A];have s:fU fs a.name p:=by
       rcases lg hi m with m | m
       .exact m
       grind
      have F:p≠a.k:=by rintro rfl;obtain⟨j,x,U,X,W,g4,g5⟩:=m;grind [alone]
      rcases k.all p s with g |⟨i',v,g⟩| g
      .omega
      .grind [Jn]
      grind [Jn]
    obtain⟨J,t,D,N,P,G,r4,S,c⟩:=K _ _ C _ u R O;refine⟨J,t,D,N,P,B.trans G,M2,λj x w=>?_,?_⟩
    .grind [aK]
    .rcases c with c | c | c
     .omega
     .exact .inr (.inl ⟨c.1,by grind [cd.bU]⟩)
     .exact .inr (.inr c)
   .rw[if_pos r.ne];exact⟨_,fs,_,rfl,u,B,rfl,λj x w=>⟨x.cu,w,id,λ_=>rfl,λe=>absurd e r.ne⟩,.inr r⟩
def j6(name:Name)(lo hi:Nat)(a:cB):Bool:=a.full && a.cu && decide (a.name=name) && decide (lo<=a.k) && decide (a.k<hi)
structure Told(fs:List cB)(name:Name)(lo hi:Nat)(l:List Nat):Prop where
 mem:∀i,i∈l ↔ ∃fr,fs[i]? = IT fr/\j6 name lo hi fr=Jd
 il:l.Pairwise (λa b=>BG fs a<=BG fs b)
 nodup:l.Nodup
theorem jo{name:Name}{lo hi:Nat}{a:cB}:j6 name lo hi a=Jd↔a.full=Jd/\a.cu=Jd/\a.name=name/\lo<=a.k/\a.k<hi:=by grind [j6]
theorem Told.strict{d:Dsk}{fs:List cB}{L:aL}(h:Sound d fs L){name:Name}{lo hi:Nat}{l:List Nat}(t:Told fs name lo hi l):l.Pairwise (λa b=>BG fs a<BG fs b):=by have c:=t.il.and (show l.Pairwise (λa b=>a≠b) from t.nodup);grind [List.Pairwise.imp_of_mem,BG,mem,jo,Sound.once]
theorem Told.aaV{d:Dsk}{fs:List cB}{L:aL}(h:Sound d fs L){name:Name}{hi n:Nat}{l:List Nat}(t:Told fs name 0 hi l)(a:∀p,fU fs name p->p<hi):WE fs name n l:=by
 refine⟨λi q=>?_,t.strict h,λp k=>.inr (.inl ?_)⟩
 .grind [mem,jo]
 .obtain⟨j,e,g,c,b,f,m⟩:=k;have o:p<hi:=a p ⟨j,e,g,c,b,f,m⟩;refine⟨j,(t.mem j).2 ⟨e,g,jo.2 ⟨c,b,f,em _,af⟩⟩,?_⟩;grind [BG]
theorem Told.WG{d:Dsk}{fs:List cB}{L:aL}(h:Sound d fs L){j:Nat}{a:cB}(f:fs[j]? = IT a)(r:a.full=Jd)(e:a.cu=Jd){n:Nat}{l:List Nat}(t:Told fs a.name n a.k l):WE fs a.name n (l++[j]):=by
 have b:BG fs j=a.k:=by grind [BG]
 refine⟨λi w=>?_,?_,λp c=>?_⟩
 .grind [mem,jo]
 .grind [strict,mem,jo,BG]
 .obtain⟨i,o,g,k,m,q,v⟩:=id c;by_cases u:p<n
  .omega
  .right;have s:BG fs i=p:=by grind [BG]
   grind [mem,jo,BG]
abbrev Rec:=List UInt8
def iA(sz:Nat)(rs:List Rec):Prop:=∀r∈rs,r.length=sz
theorem iA.cons{r:Rec}{rs:List Rec}(h:iA sz (r::rs)):r.length=sz/\iA sz rs:=⟨h r ai,λx a=>h x M2⟩
theorem iA.take{rs:List Rec}(h:iA sz rs)(n:Nat):iA sz (rs.take n):=λb a=>h b (tt a)
theorem iA.drop{rs:List Rec}(h:iA sz rs)(n:Nat):iA sz (rs.drop n):=λb a=>h b (List.mem_of_mem_drop a)
theorem pP{rs:List Rec}(h:iA sz rs):rs.flatten.length=sz*rs.length:=by
 induction rs with
 |nil=>simp
 |cons r rs a=>grind [iA.cons]
theorem WH{rs:List Rec}(h:iA sz rs){j:Nat}(a:j<rs.length):(rs.flatten.drop (sz*j)).take sz=rs[j]:=by
 have e:rs.flatten=(rs.take j).flatten++(rs[j]++(rs.drop (j+1)).flatten):=by grind [yN]
 have b:(rs.take j).flatten.length=sz*j:=by rw[pP (h.take j),et,tk af]
 rw[e,mL _ _ _ b,tV _ _ _ (h _ (rM a))]
def fw(sz:Nat):Nat:=240/sz
theorem sq(b:1<=sz)(a:sz<=240):1<=fw sz:=by unfold fw;exact(Nat.one_le_div_iff af).2 a
theorem sr(sz:Nat):sz*fw sz<=240:=Nat.mul_div_le 240 sz
theorem WI(a:1<=sz):240<sz*(fw sz+1):=by unfold fw;have:=Nat.lt_mul_div_succ 240 (show 0<sz by omega);omega
def cN(p n:Nat):Nat:=(n+p-1)/p
theorem eR{p n k:Nat}(a:1<=p):k<cN p n↔p*k<n:=by grind [cN,Nat.le_div_iff_mul_le]
def bf(p:Nat)(rs:List Rec):List Pg:=(kk (cN p rs.length)).map λk=>((rs.drop (p*k)).take p).flatten
theorem dG(p:Nat)(rs:List Rec):(bf p rs).length=cN p rs.length:=by simp[bf]
theorem jq{p:Nat}{rs:List Rec}(a:1<=p)(k:Nat):(bf p rs)[k]? = if p*k<rs.length then IT ((rs.drop (p*k)).take p).flatten else none:=by grind [bf,eR]
theorem pQ{p:Nat}{rs:List Rec}(a:iA sz rs)(k:Nat):((rs.drop (p*k)).take p).flatten.length=sz*min p (rs.length-p*k):=by rw[pP ((a.drop _).take _),et,ie]
theorem Gm{rs:List Rec}(c:iA sz rs):kJ (bf (fw sz) rs):=by intro b a;unfold bf at a;obtain⟨k,_,rfl⟩:=gl.1 a;rw[pQ c];have e:sz*min (fw sz) (rs.length-fw sz*k)<=sz*fw sz:=pc _ (Nat.min_le_left _ _);have d:=sr sz;omega
theorem Jo{p:Nat}{rs:List Rec}(a:1<=p)(r:Rec){k:Nat}(c:p*k<rs.length)(g:rs.length<p*k+p):bf p (rs++[r])=dO (bf p rs) k (((rs.drop (p*k)).take p).flatten++r):=by
 apply p5;intro i;have f:k<=(bf p rs).length:=by rw[dG];exact Nat.le_of_lt ((eR a).2 c)
 rw[mM _ _ _ f,jq a,jq a,eh,lr];by_cases e:i=k
 .grind [ey]
 .rw[if_neg e];rcases Nat.lt_or_gt_of_ne e with b | d
  .have:p*i+p<=p*k:=by rw[<- xi];exact pc _ b
   grind
  .have:p*k+p<=p*i:=by rw[<- xi];exact pc _ d
   grind
theorem BH{p:Nat}{rs:List Rec}(c:1<=p)(r:Rec){k:Nat}(h:rs.length=p*k):bf p (rs++[r])=dO (bf p rs) k r/\(bf p rs).length=k:=by
 have f:(bf p rs).length=k:=by
  rw[dG,h];have a:¬k<cN p (p*k):=λe=>by grind [eR]
  rcases qp k with rfl | f
  .omega
  .have b:k-1<cN p (p*k):=(eR c).2 (by
    have:p*(k-1)+p=p*k:=by rw[<- xi,show(k-1).succ=k by omega]
    omega)
   omega
 refine⟨?_,f⟩;apply p5;intro i;rw[mM _ _ _ af,jq c,jq c,eh,lr];by_cases e:i=k
 .grind [ey]
 .rw[if_neg e];rcases Nat.lt_or_gt_of_ne e with d | g
  .have:p*i+p<=p*k:=by rw[<- xi];exact pc _ d
   grind
  .have:p*k+p<=p*i:=by rw[<- xi];exact pc _ g
   grind
theorem Tj{p n:Nat}(a:1<=p)(h:0<n):p*(cN p n-1)<n/\n<=p*(cN p n-1)+p/\1<=cN p n:=by
 have d:0<cN p n:=(eR a).2 af;have c:cN p n-1<cN p n:=af;have b:¬cN p n<cN p n:=Nat.lt_irrefl _;refine⟨(eR a).1 c,?_,d⟩;rw[eR a]at b;have:p*(cN p n-1)+p=p*cN p n:=by rw[<- xi,show(cN p n-1).succ=cN p n by omega]
 omega
theorem WJ{p:Nat}{rs:List Rec}(b:iA sz rs)(e:1<=p){i:Nat}(hi:i<rs.length) :
 p*(i/p)<rs.length/\((((rs.drop (p*(i/p))).take p).flatten).drop (sz*(i%p))).take sz=rs[i]/\sz*(i%p)+sz<=(((rs.drop (p*(i/p))).take p).flatten).length:=by
 have c:=Nat.div_add_mod i p;have d:=Nat.mod_lt i (show 0<p by omega);have a:i%p<((rs.drop (p*(i/p))).take p).length:=M2;refine⟨af,?_,?_⟩
 .rw[WH ((b.drop _).take _) a];grind
 .rw[pP ((b.drop _).take _)];have:=pc sz (show i%p+1<=_ from a);omega
structure aJ where
 t:UInt32
 h:UInt32
 x:UInt64
 m:UInt32
theorem aJ.ext'{a b:aJ}(f:a.t=b.t)(e:a.h=b.h)(c:a.x=b.x)(d:a.m=b.m):a=b:=by cases a;simp_all
def pk(by':Bool)(e:aJ):Nat:=if by' then e.h.toNat*4294967296+e.t.toNat else e.t.toNat*4294967296+e.h.toNat
def rk(e:aJ):Nat:=e.x.toNat*4294967296+(e.m.toNat+1)%4294967296
def same(a b:aJ):Prop:=a.t=b.t/\a.h=b.h
theorem j7{b:Bool}{x y:aJ}:pk b x=pk b y↔same x y:=by have e:=x.t.toNat_lt;have d:=x.h.toNat_lt;have a:=y.t.toNat_lt;have c:=y.h.toNat_lt;grind [pk,same,Cx]
theorem WK{x y:aJ}(h:rk x=rk y):x.x=y.x/\x.m=y.m:=by have b:=x.m.toNat_lt;have a:=y.m.toNat_lt;grind [rk,UInt64.toNat_inj,Cx]
def er(b:Bool)(x y:aJ):Prop:=pk b x<pk b y\/pk b x=pk b y/\rk x<=rk y
theorem er.refl(b:Bool)(x:aJ):er b x x:=.inr ⟨rfl,cg _⟩
theorem er.trans{b:Bool}{x y z:aJ}(h:er b x y)(k:er b y z):er b x z:=by grind [er]
structure eG(b:Bool)(l out:List aJ):Prop where
 il:out.Pairwise (λx y=>pk b x<pk b y)
 mem:∀e∈out,e∈l/\e.t≠e.h/\∀x∈l,same x e->rk e<=rk x
 all:∀x∈l,x.t≠x.h->∃e∈out,same e x
theorem DI{f:α->Nat}{a c:List α}(d:a.Pairwise (λx y=>f x<f y))(b:c.Pairwise (λx y=>f x<f y))(h:∀x,x∈a↔x∈c):a=c:=by
 induction a generalizing c with
 |nil=>
   cases c with
   |nil=>rfl
   |cons y c=>have:=(h y).2 ai;grind
 |cons x a e=>
   cases c with
   |nil=>grind
   |cons y c=>grind [FC]
theorem same.symm{x y:aJ}(h:same x y):same y x:=⟨h.1.symm,h.2.symm⟩
theorem same.trans{x y z:aJ}(h:same x y)(k:same y z):same x z:=⟨h.1.trans k.1,h.2.trans k.2⟩
theorem same.loop{x y:aJ}(h:same x y)(a:x.t≠x.h):y.t≠y.h:=by rw[<- h.1,<- h.2];exact a
theorem eG.sub{b:Bool}{l a c:List aJ}(q:eG b l a)(h:eG b l c):∀x∈a,x∈c:=λx p=>by obtain⟨g,o,j⟩:=q.mem x p;obtain⟨e,i,d⟩:=h.all x g o;obtain⟨r,s,m⟩:=h.mem e i;have k:=j e r d;have n:=m x g d.symm;have f:=WK (Nat.le_antisymm k n);rw[aJ.ext' d.symm.1 d.symm.2 f.1 f.2];exact i
theorem eG.unique{b:Bool}{l a c:List aJ}(e:eG b l a)(d:eG b l c):a=c:=DI e.il d.il λx=>⟨e.sub d x,d.sub e x⟩
theorem eG.congr{b:Bool}{l g a:List aJ}(h:eG b l a)(f:∀x,x∈l↔x∈g):eG b g a:=
 ⟨h.il,λe d=>⟨(f e).1 (h.mem e d).1,(h.mem e d).2.1,λx c=>(h.mem e d).2.2 x ((f x).2 c)⟩,λx c=>h.all x ((f x).2 c)⟩
theorem eG.nil(b:Bool):eG b [] []:=⟨List.Pairwise.nil,(λ_ h=>nomatch h),(λ_ h=>nomatch h)⟩
theorem eG.trans{b f:Bool}{l m a:List aJ}(h:eG f l m)(k:eG b m a):eG b l a:=
 ⟨k.il,λe c=>by
  grind [mem],λx i d=>by
  obtain⟨e,c,j⟩:=h.all x i d;obtain⟨o,n,g⟩:=k.all e c (j.symm.loop d);grind [same.trans]⟩
theorem eG.both{b:Bool}{p o n q g:List aJ}(h:eG b p n)(i:eG b o q)(k:eG b (n++q) g):eG b (p++o) g:=by
 refine⟨k.il,λe j=>?_,λx a d=>?_⟩
 .obtain⟨s,m,r⟩:=k.mem e j;refine⟨?_,m,λx a l=>?_⟩
  .grind [mem]
  .have d:x.t≠x.h:=l.symm.loop m;rcases hS.1 a with a | a
   .obtain⟨y,f,c⟩:=h.all x a d;have:=(h.mem y f).2.2 x a c.symm;grind [same.trans]
   .obtain⟨y,f,c⟩:=i.all x a d;have:=(i.mem y f).2.2 x a c.symm;grind [same.trans]
 .rcases hS.1 a with a | a
  .obtain⟨y,f,c⟩:=h.all x a d;obtain⟨e,j,l⟩:=k.all y (Ds _ f) (c.symm.loop d);grind [same.trans]
  .obtain⟨y,f,c⟩:=i.all x a d;obtain⟨e,j,l⟩:=k.all y (List.mem_append_right _ f) (c.symm.loop d);grind [same.trans]
def LU(a:List aJ)(e:aJ):Prop:=e.t=e.h\/∃y,a.getLast? = IT y/\same y e
open Classical in
noncomputable def xI(a:List aJ)(e:aJ):List aJ:=if LU a e then a else a++[e]
noncomputable def iy(xs:List aJ):List aJ:=xs.foldl xI []
theorem Ar(xs:List aJ)(e:aJ):iy (xs++[e])=xI (iy xs) e:=by grind [iy]
theorem Au{a:List aJ}{e:aJ}(h:LU a e):xI a e=a:=by grind [xI]
theorem DJ{a:List aJ}{e:aJ}(h:¬LU a e):xI a e=a++[e]:=by grind [xI]
theorem LW(a:List aJ)(e:aJ):(xI a e).length<=a.length+1:=by grind [LU,Au,DJ]
theorem pR(xs:List aJ):(iy xs).length<=xs.length:=by
 suffices h:∀(xs a:List aJ),(xs.foldl xI a).length<=a.length+xs.length by grind [iy]
 intro xs;induction xs with
 |nil=>simp
 |cons x xs b=>grind [LW]
theorem eG.put{b:Bool}{xs d:List aJ}{e:aJ}(h:eG b xs d)(k:∀x∈xs,er b x e):eG b (xs++[e]) (xI d e):=by
 by_cases f:LU d e
 .rw[Au f];refine⟨h.il,λo c=>⟨Ds _ (h.mem o c).1,(h.mem o c).2.1,λx a j=>?_⟩,λx a i=>?_⟩
  .rcases hS.1 a with a | a
   .exact(h.mem o c).2.2 x a j
   .rw[kj.1 a]at j ⊢;have p:=k o (h.mem o c).1;grind [j7,er]
  .rcases hS.1 a with a | a
   .grind [all]
   .rw[kj.1 a]at i ⊢;rcases f with A |⟨y,m,t⟩
    .grind
    grind
 .rw[DJ f];have i:e.t≠e.h:=λh=>f (.inl h);have z:∀o∈d,pk b o<pk b e:=λo c=>by
   have p:=k o (h.mem o c).1;rcases lb (pk b o) (pk b e) with w | C
   .omega
   .exfalso
    have u:pk b o=pk b e:=by grind [er]
    rcases List.eq_nil_or_concat d with rfl |⟨r,y,n⟩
    .cases c
    .have m:d.getLast? = IT y:=M2;have s:pk b y<=pk b e:=by have B:=k y (h.mem y M2).1;grind [er]
     have g:o=y\/pk b o<pk b y:=by
      have l:=h.il;rw[n,GS,List.pairwise_append]at l;rw[n,GS]at c;rcases hS.1 c with c | c
      .exact .inr (l.2.2 o c y ai)
      grind
     rcases g with rfl | g
     .exact f (.inr ⟨o,m,j7.1 u⟩)
     .omega
  refine⟨?_,λo c=>?_,λx a v=>?_⟩
  .grind [il]
  .rcases hS.1 c with c | c
   .grind [mem,j7]
   .rw[kj.1 c];refine⟨ai,i,λx a j=>?_⟩;rcases hS.1 a with a | a
    .obtain⟨o',D,q⟩:=h.all x a (j.symm.loop i);grind [j7,same.trans]
    grind
  .rcases hS.1 a with a | a
   .grind [all]
   .rw[kj.1 a];exact⟨e,ai,rfl,rfl⟩
theorem Av{b:Bool}{xs:List aJ}(h:xs.Pairwise (er b)):eG b xs (iy xs):=by
 suffices g:∀(n:Nat)(xs:List aJ),xs.length=n->xs.Pairwise (er b)->eG b xs (iy xs) from g _ xs rfl h
 intro n;induction n with
 |zero=>intro xs d _;obtain rfl:=jJ d;exact eG.nil b
 |succ n f=>
   intro xs d a;rcases List.eq_nil_or_concat xs with rfl |⟨r,y,c⟩
   .grind
   .rw[GS]at c;subst c;rw[Ar];rw[List.pairwise_append]at a;exact(f r M2 a.1).put λx e=>a.2.2 x e y ai
noncomputable def aH(b:Bool)(l:List aJ):List aJ:=open Classical in iy (l.mergeSort (λx y=>decide (er b x y)))
theorem bM(b:Bool)(l:List aJ):eG b l (aH b l):=by unfold aH;refine(Av ?_).congr λx=>List.mem_mergeSort;grind [List.pairwise_mergeSort,er]
theorem eG.eq{b:Bool}{l a:List aJ}(h:eG b l a):a=aH b l:=h.unique (bM b l)
open Go.ChangeMaps (setBlock heap_setBlock_same heap_setBlock_other)
abbrev j8:=J3×cB
def bW(v:J3)(f:cB):List Value:=[.bool f.full,.string f.name,f.k,v,Kx Mm 0,.bool f.cu,.bool f.used]
def rowOf:List j8->List J3
 | []=>[]
 |p::l=>bW p.1 p.2++rowOf l
theorem yQ(l:List j8):(rowOf l).length=7*l.length:=by
 induction l with
 |nil=>rfl
 |cons p l a=>grind [rowOf,it,bW]
theorem Hv{l:List j8}{i:Nat}{p:j8}(h:l[i]? = IT p){j:Nat}(b:j<7):(rowOf l)[7*i+j]? = (bW p.1 p.2)[j]? := by
 induction l generalizing i with
 |nil=>cases h
 |cons q l a=>
   rw[rowOf];cases i with
   |zero=>grind [bW]
   |succ i=>rw[List.getElem?_append_right (by simp[bW];omega),<- a (i:=i) M2];congr 1;simp[bW];omega
theorem Tk{l:List j8}{i:Nat}{p q:j8}(h:l[i]? = IT p){j:Nat}(c:j<7){v:J3}(b:(bW p.1 p.2).set j v=bW q.1 q.2):(rowOf l).set (7*i+j) v=rowOf (l.set i q):=by
 induction l generalizing i with
 |nil=>cases h
 |cons r l a=>
   cases i with
   |zero=>cases h;rw[rowOf,List.set_cons_zero,rowOf,List.set_append_left _ _ (by grind [bW])];grind
   |succ i=>rw[rowOf,List.set_cons_succ,rowOf,<- a (i:=i) M2,List.set_append_right _ _ (by simp[bW];omega)];congr 2;simp[bW];omega
theorem DK{b:Nat}{t:TypeId}(vs:List J3):∀{w:KX}{o:Nat}{a:List J3},w.heap[b]? = IT (Mi a.toArray t)->o+vs.length<=a.length ->
 (w.setCells b o vs).heap[b]? = IT (Mi (a.take o++(vs++a.drop (o+vs.length))).toArray t):=by
 induction vs with
 |nil=>intro w o a h _;simp[World.setCells,h]
 |cons v vs e=>
   intro w o a h d;rw[it]at d;have c:=aS h o v;rw[List.setIfInBounds_toArray]at c;rw[World.setCells,e c M2];congr 3;have g:a.set o v=a.take o++v::a.drop (o+1):=List.set_eq_take_append_cons_drop.trans M2;have i:(a.set o v).take (o+1)=a.take o++[v]:=M2;have f:(a.set o v).drop (o+1+vs.length)=a.drop (o+(vs.length+1)):=by grind [List.drop_set_of_lt]
   simp_all
theorem LX{l:List j8}{i:Nat}(h:i<l.length)(q:j8):(rowOf l).take (7*i)++(bW q.1 q.2++(rowOf l).drop (7*i+7))=rowOf (l.set i q):=by
 induction l generalizing i with
 |nil=>grind
 |cons r l b=>
   cases i with
   |zero=>rfl
   |succ i=>
     have a:(bW r.1 r.2++rowOf l).take (7*(i+1))=bW r.1 r.2++(rowOf l).take (7*i):=by rfl
     have t2:(bW r.1 r.2++rowOf l).drop (7*(i+1)+7)=(rowOf l).drop (7*i+7):=by rfl
     grind [rowOf]
section
variable {w w':KX}{fb:Nat}{l:List j8}
def eC(w:KX)(a:Nat)(l:List j8):Prop:=∃t,w.heap[a]? = IT (Mi (rowOf l).toArray t)
theorem eC.range(h:eC w fb l){i:Nat}{p:j8}(hi:l[i]? = IT p):w.rangeAt fb (7*i) (bW p.1 p.2):=λj v a=>by obtain⟨t,h⟩:=h;have b:j<7:=aK a;rw[au h,List.getElem?_toArray,Hv hi b];exact a
theorem eC.cell(h:eC w fb l){i:Nat}{p:j8}(hi:l[i]? = IT p){j:Nat}{v:J3}(a:(bW p.1 p.2)[j]? = IT v):w.cell? ⟨fb,7*i+j,KK⟩=IT v:=h.range hi j v a
theorem eC.free(h:eC w fb l)(i:Nat):w.frozen? ⟨fb,i,KK⟩=false:=by obtain⟨t,h⟩:=h;exact aO h i
theorem eC.lt(h:eC w fb l):fb<w.heap.size:=by obtain⟨t,h⟩:=h;grind
theorem eC.set(h:eC w fb l){i:Nat}{p q:j8}(hi:l[i]? = IT p){j:Nat}(b:j<7){v:J3}(a:(bW p.1 p.2).set j v=bW q.1 q.2):eC (w.setCell ⟨fb,7*i+j,KK⟩ v) fb (l.set i q):=by obtain⟨t,h⟩:=h;refine⟨t,?_⟩;rw[aS h,List.setIfInBounds_toArray,Tk hi b a]
theorem eC.ae5(h:eC w fb l){i:Nat}(hi:i<l.length)(q:j8):eC (w.setCells fb (7*i) (bW q.1 q.2)) fb (l.set i q):=by obtain⟨t,h⟩:=h;refine⟨t,?_⟩;rw[DK _ h (by rw[yQ];show 7*i+7<=_;omega)];congr 3;exact LX hi q
theorem eC.kept{S:Nat->Prop}(h:eC w fb l)(a:aN S w w')(b:¬S fb):eC w' fb l:=by obtain⟨t,h⟩:=h;exact⟨t,a.heap h b⟩
end
theorem aN.setCells{S:Nat->Prop}{w w':KX}(h:aN S w w')(b o:Nat)(vs:List J3)(a:S b\/w.heap.size<=b):aN S w (w'.setCells b o vs):=by
 induction vs generalizing w' o with
 |nil=>exact h
 |cons v vs c=>exact c (h.setCell ⟨b,o,KK⟩ v a) (o+1)
abbrev lh:=cj prog 116 eZ (λi:Nat=>i)
def iZ(fs:List cB)(m:List ((Name×Nat)×Nat)):Prop:=∀n k i,aI m (n,k)=IT i ↔ ∃a,fs[i]? = IT a/\a.full=Jd/\a.name=n/\a.k=k
theorem WM:(116:TypeId)<prog.types.size:=of_decide_eq_true ah
theorem Tl:(match prog.underlying 116 with | some (.array _ _) | some (.struct _)=>Jd | _=>J0)=true:=by rw[Tryz.underlying116]
theorem l9:Keyed prog 116:=Keyed.of_law (deep_law_laid Tryz.Lv (m:=2) af WM ah Tl)
theorem uS{s:ByteArray}{n:Nat}(h:s.size<=maxLen)(j:n<9223372036854775808):Good prog 116 (eZ (s,n)):=by
 have f:prog.keyType 116=true:=ah;have a:prog.cellsOf 116=2:=by rfl
 have c:prog.cellsOf 9=1:=by rfl
 have b:prog.cellsOf 3=1:=by rfl
 have e:(Lit.int Mm (n:Int)).wf=true:=by
  have:(Lit.int Mm (n:Int)).wf=(decide (-9223372036854775808<=(n:Int)) && decide ((n:Int)<=9223372036854775807)):=by rfl
  grind
 have g:∀d,prog.keyLits (d+2) 116 [.string s,.int Mm (n:Int)]=IT [.string s.data.toList,.int Mm (n:Int)]:=by intro d;simp[Program.keyLits,Tryz.underlying116,Tryz.underlying9,Tryz.underlying3,a,c,b,h,e]
 unfold Good eZ keyOf;rw[Tryz.underlying116];simp only[f,Value.formed,Tryz.underlying116,a];have i:prog.keyLits (prog.types.size+1) 116 (DS #[.string s,.int Mm (n:Int)]).cells.toList=IT [.string s.data.toList,.int Mm (n:Int)]:=g (prog.types.size-1);simp_all
def dt(c:Nat):Prop:=c<10
theorem LY{o:ay}{x:Nat}(h:o.In sf x):o.In dt x:=by obtain⟨t,b,a⟩:=h;have a:t.1<6:=a;exact⟨t,b,show t.1<10 by omega⟩
def eH(w:KX)(d db b c n hand a:Nat):Prop:=
 ∃t,w.heap[d]? = IT (Mi #[ptrTo db,.slice b n n,.map (IT c),hand,a,Kx Mm 0] t)
structure bJ(w:KX)(pb db fb mb:Nat)(o:ay)(l:List j8)(hand mf:Nat)(d:Dsk):Prop where
 l6:cI w db o d
 Cn:o pb=IT (6,0)
 vT:o fb=IT (7,0)
 rC:o mb=IT (8,0)
 head:eH w pb db fb mb l.length hand mf
 row:eC w fb l
 yR:∃m,lh w mb m/\iZ (l.map (·.2)) m
 each:∀p∈l,w.ownsRow 0 5 1 p.1 p.2.bytes.length (p.2.bytes.map bv)/\∀b,p.1.ownBlock=IT b->o b=IT (9,0)
 hand:hand<l.length
 most:l.length<=4096
 full:mf<=l.length
def aU(w:KX)(a db n:Nat)(o:ay)(d:Dsk)(L:aL):Prop:=
 ∃fb mb l hand mf,bJ w a db fb mb o l hand mf d/\l.length=n/\Sound d (l.map (·.2)) L
section
variable {S:Nat->Prop}{w w':KX}{o o':ay}{pb db fb mb:Nat}{l:List j8}{hand mf:Nat}{d d':Dsk}{L:aL}
theorem eH.kept{n:Nat}(h:eH w pb db fb mb n hand mf)(a:aN S w w')(b:¬S pb):eH w' pb db fb mb n hand mf:=by obtain⟨t,h⟩:=h;exact⟨t,a.heap h b⟩
theorem eH.cells{n:Nat}(h:eH w pb db fb mb n hand mf) :
 (w.cell? pb=IT (ptrTo db)/\w.cell? ⟨pb,1,KK⟩=IT (.slice fb n n)/\w.cell? ⟨pb,2,KK⟩=IT (.map (IT mb))/\w.cell? ⟨pb,3,KK⟩=hand/\w.cell? ⟨pb,4,KK⟩=mf/\w.cell? ⟨pb,5,KK⟩=IT (Kx Mm 0)) /\
   w.frozen? ⟨pb,3,KK⟩=J0/\w.frozen? ⟨pb,4,KK⟩=J0/\w.frozen? ⟨pb,5,KK⟩=false:=by obtain⟨t,h⟩:=h;refine⟨⟨?_,?_,?_,?_,?_,?_⟩,aO h _,aO h _,aO h _⟩<;>rw[au h]<;>rfl
theorem eH.Jp{n:Nat}(h:eH w pb db fb mb n hand mf)(a:Nat):eH (w.setCell ⟨pb,3,KK⟩ a) pb db fb mb n a mf:=by obtain⟨t,h⟩:=h;exact⟨t,by rw[aS h];rfl⟩
theorem eH.aaW{n:Nat}(h:eH w pb db fb mb n hand mf)(a:Nat):eH (w.setCell ⟨pb,4,KK⟩ a) pb db fb mb n hand a:=by obtain⟨t,h⟩:=h;exact⟨t,by rw[aS h];rfl⟩
theorem eH.aaX{n:Nat}(h:eH w pb db fb mb n hand mf):eH (w.setCell ⟨pb,5,KK⟩ (Kx Mm 0)) pb db fb mb n hand mf:=by obtain⟨t,h⟩:=h;exact⟨t,by rw[aS h];rfl⟩
theorem eH.lt{n:Nat}(h:eH w pb db fb mb n hand mf):pb<w.heap.size:=by obtain⟨t,h⟩:=h;grind
theorem bJ.owned(h:bJ w pb db fb mb o l hand mf d):∀x t,o x=IT t->x<w.heap.size:=by obtain⟨_,_,_,a⟩:=h.l6;exact a.owned
theorem bJ.kept(h:bJ w pb db fb mb o l hand mf d)(f:aN S w w')(c:∀x,o.In dt x->¬S x)(a:∀x t,o x=IT t->o' x=IT t)(e:∀x t,o' x=IT t->x<w'.heap.size):bJ w' pb db fb mb o' l hand mf d where
 l6:=h.l6.kept f (λx t k n=>c x ⟨t,k,show t.1<10 by omega⟩) a e
 Cn:=a _ _ h.Cn
 vT:=a _ _ h.vT
 rC:=a _ _ h.rC
 head:=h.head.kept f (c _ ⟨_,h.Cn,show 6<10 by decide⟩)
 row:=h.row.kept f (c _ ⟨_,h.vT,show 7<10 by decide⟩)
 yR:=by obtain⟨m,i,j⟩:=h.yR;exact⟨m,i.turn f (c _ ⟨_,h.rC,show 8<10 by decide⟩),j⟩
 each:=λp g=>⟨f.ownsRow (h.each p g).1 (λb e=>c b ⟨_,(h.each p g).2 b e,show 9<10 by decide⟩),λb e=>a _ _ ((h.each p g).2 b e)⟩
 hand:=h.hand
 most:=h.most
 full:=h.full
theorem aU.kept{n:Nat}(h:aU w pb db n o d L)(f:aN S w w')(c:∀x,o.In dt x->¬S x)(b:∀x t,o x=IT t->o' x=IT t)(e:∀x t,o' x=IT t->x<w'.heap.size):aU w' pb db n o' d L:=by obtain⟨fb,mb,l,hand,mf,h,a,g⟩:=h;exact⟨fb,mb,l,hand,mf,h.kept f c b e,a,g⟩
theorem bJ.below(h:bJ w pb db fb mb o l hand mf d)(a:Lg w w w'):bJ w' pb db fb mb o l hand mf d:=
 h.kept (S:=λ_=>False) (aN.aZ a) (λ_ _ h=>h) (λ_ _ h=>h) (λx t b=>eg (h.owned x t b) a.size)
theorem aU.below{n:Nat}(h:aU w pb db n o d L)(a:Lg w w w'):aU w' pb db n o d L:=by obtain⟨fb,mb,l,hand,mf,h,b,g⟩:=h;exact⟨fb,mb,l,hand,mf,h.below a,b,g⟩
theorem cX.keep{n:Nat}(c:cX n o o')(b:∀x t,o x=IT t->x<n):∀x t,o x=IT t->o' x=IT t:=λx t a=>by rw[c x (b x t a)];exact a
theorem bJ.DL(h:bJ w pb db fb mb o l hand mf d)(i:cI w' db o' d')(c:aN (o.In sf) w w')(a:cX w.heap.size o o'):bJ w' pb db fb mb o' l hand mf d' where
 l6:=i
 Cn:=a.keep h.owned _ _ h.Cn
 vT:=a.keep h.owned _ _ h.vT
 rC:=a.keep h.owned _ _ h.rC
 head:=h.head.kept c (ay.Jf h.Cn (show ¬6<6 by decide))
 row:=h.row.kept c (ay.Jf h.vT (show ¬7<6 by decide))
 yR:=by obtain⟨m,g,j⟩:=h.yR;exact⟨m,g.turn c (ay.Jf h.rC (show ¬8<6 by decide)),j⟩
 each:=λp f=>⟨c.ownsRow (h.each p f).1 (λb e=>ay.Jf ((h.each p f).2 b e) (show ¬9<6 by decide)),λb e=>a.keep h.owned _ _ ((h.each p f).2 b e)⟩
 hand:=h.hand
 most:=h.most
 full:=h.full
theorem bJ.Al(h:bJ w pb db fb mb o l hand mf d)(f:aN (·=pb) w w'){a:Nat}(j:eH w' pb db fb mb l.length a c)(n:a<l.length)(k:c<=l.length):bJ w' pb db fb mb o l a c d where
 l6:=h.l6.kept f (λx t g u=>ay.ne g h.Cn (λe=>M2)) (λ_ _ h=>h) (λx t g=>eg (h.owned x t g) f.size)
 Cn:=h.Cn
 vT:=h.vT
 rC:=h.rC
 head:=j
 row:=h.row.kept f (ay.ne h.vT h.Cn ag)
 yR:=by obtain⟨m,r,s⟩:=h.yR;grind [cj.turn,rC,Cn]
 each:=λp i=>⟨f.ownsRow (h.each p i).1 (λb q=>ay.ne ((h.each p i).2 b q) h.Cn ag),(h.each p i).2⟩
 hand:=n
 most:=h.most
 full:=k
theorem bJ.aiO(h:bJ w pb db fb mb o l hand mf d)(g:aN (λx=>x=fb\/x=mb) w w'){a:List j8}(c:a.length=l.length)(i:eC w' fb a)(f:∀x t,o x=IT t->o' x=IT t)(j:∀x t,o' x=IT t->x<w'.heap.size)(k:∃m,lh w' mb m/\iZ (a.map (·.2)) m)(r:∀p∈a,p∈l\/(w'.ownsRow 0 5 1 p.1 p.2.bytes.length (p.2.bytes.map bv)/\∀b,p.1.ownBlock=IT b->o' b=IT (9,0))):bJ w' pb db fb mb o' a hand mf d where
 l6:=h.l6.kept g (λx t q c e=>by grind [vT,rC]) f j
 Cn:=f _ _ h.Cn
 vT:=f _ _ h.vT
 rC:=f _ _ h.rC
 head:=by rw[c];exact h.head.kept g (λe=>by grind [Cn,vT,rC])
 row:=i
 yR:=k
 each:=λp n=>by grind [aN.ownsRow,each,vT,rC]
 hand:=by rw[c];exact h.hand
 most:=by grind [most]
 full:=by rw[c];exact h.full
theorem aN.bh(h:aN (o.In sf) w w'):aN (o.In dt) w w':=h.mono λ_ _ a=>LY a
end
end Go.Proofs.YtofigggbapdfhaaGreatDoor
