/-
  Joined.
-/
import Derived.Test.YthkkgdpomhhjjaaGreatDoorK00
import Derived.Test.YthkkgdpomhhjjaaGreatDoorCards
import Derived.Test.YthkkgdpomhhjjaaGreatDoorTie
import Derived.WalkKit
import Derived.ProofKit
import Derived.OpenShut
import Derived.Deep.DeepHandedRow
import Derived.Lib.LaidTab
import Derived.Lib.SmallJoins
import Derived.Maps.OwnSet
import Derived.Maps.RangeWalk
import Derived.StillTail
import Derived.Deep.Quiet
import Derived.Deep.QuietTactic
import Derived.BigQuiet
import Derived.Test.YthkkgdpomhhjjaaGreatDoorRows
import Derived.WalkSpells
import Derived.WalkLawsBesides
import Derived.Lib.Hide
import Derived.Handy
import Derived.IntWalk
import Derived.Deep.LoopGhost
import Derived.Deep.RegionHeld3
import Derived.Deep.DeepCutAuto
import Derived.Laws.Tables
import Derived.Deep.WholeRow
import Derived.Lib.AppendZerosOnto
import Derived.Maps.AppendAt
import Derived.Deep.MidRow
import Derived.Lib.ConvBytes
import Derived.DeepKeys4
set_option maxRecDepth 100000
set_option maxHeartbeats 4000000
namespace Go.Proofs.YthkkgdpomhhjjaaGreatDoor
open Go.Proofs.Tryz
section
open Go.ChangeShapes Go.WideShapes Go.ChangeAt Go.RowKit Go.Joins
theorem own:ownKnob prog.godebug=none:=by kernel_rfl
section
variable {H:Type} {enc:TypeId×Value->H} {P:Program}
theorem B5{f:Func}{s:ChangeSpec}{apart fresh handsOn again:Bool}{W W':World}{args:Array Value}{v:Value}{ds gs:List (DataW H)}{before pa pv:List MemPlace}(hW:DataW.Whole enc P f.params.toList s.vars apart W args.toList ds gs before)(hres:∀(b:Nat)(sp:Nat->Bool)(hd:Bool),DataW.TrodAll enc P W' b sp hd f.resultTypes.toList (v.resultList f.resultTypes.size) (s.fn H (ds++gs)).results [])(Qu:∀sp:Nat->Bool,(∀p∈before,sp p.block=true)->DataW.TrodAll enc P W' 0 sp true f.params.toList args.toList (s.fn H (ds++gs)).args pa)(XI:∀sp:Nat->Bool,(∀p∈before,sp p.block=true)->DataW.TrodVars enc P W' sp s.vars (s.fn H (ds++gs)).vars pv)(hps:before=pa++pv)(hb:Below W.heap.size W W')(fe:∀(j:Nat)(t:TypeId)(r:Value),f.resultTypes[j]? = some t->(v.resultList f.resultTypes.size)[j]? = some r->Value.okWide P W' .any 0 t r) :
 s.post enc P f apart fresh handsOn again W args v W':=by
 have hlt:∀p∈before,p.block<W.heap.size:=fun p hp=>hW.lt p hp;have hold:∀p∈before,(fun b=>decide (b<W.heap.size)) p.block=true:=fun p hp=>by simpa using hlt p hp
 refine⟨ds,gs,before,[],pa,pv,hW,hres _ _ _,Qu _ hold,XI _ hold,World.keptBut_mono (fun p hp=>⟨hp,?_⟩) (hb.frame (·∈before)),fun _=>?_⟩
 ·rw[hps,List.mem_append]at hp;exact Or.inr hp
 ·obtain⟨_,_,_,_,_,hz,hn⟩:=hW;refine⟨fe,_,_,([]++pa)++pv,⟨[]++pa,pv,trodAll_append (Qu _ (fun _ _=>rfl)) (hres _ _ _),XI _ (fun _ _=>rfl),rfl,?_,?_⟩,?_⟩
  ·intro b off hp;have oC:MemPlace.cell b off∈before:=by rw[hps];simpa using hp
   rw[hb.frozen (hlt _ oC)];exact hz b off oC
  ·intro ha;have:=hn ha;rw[hps]at this;simpa using this
  ·intro p hp _;rw[hps];simpa using hp
end
def Y7:List Int:=[1,10,100,1000,10000,100000,1000000,10000000,100000000,1000000000,10000000000,100000000000,1000000000000,10000000000000,100000000000000,1000000000000000,10000000000000000,100000000000000000,1000000000000000000,10000000000000000000]
def acU:List Int:=[0,1,28,2,29,14,24,3,30,22,20,15,25,17,4,8,31,27,13,23,21,19,16,7,26,12,18,6,11,5,10,9]
def acV:List Int:=[0,1,56,2,57,49,28,3,61,58,42,50,38,29,17,4,62,47,59,36,45,43,51,22,53,39,33,30,24,18,12,5,63,55,48,27,60,41,37,16,46,35,44,21,52,32,23,11,54,26,40,15,34,20,31,10,25,14,19,9,13,8,7,6]
def Kc(k:IntKind)(l:List Int):Obj->Obj
 | .cells _ t frozen=>.cells (l.map (Value.int k)).toArray t frozen
 |o=>o
noncomputable def iU(os:Os):World:=
 { World.holding prog os ⟨#[],#[],[]⟩ with heap:=(((World.holding prog os ⟨#[],#[],[]⟩).heap.modify 0 (Kc .u64 Y7)).modify 1 (Kc .u8 acU)).modify 2 (Kc .u8 acV) }
theorem Qw(os:Os)(args:Array Value):laidMet prog Rows.storeMakesRow.laid ((iU os).forCall (fun _ _=>0) ⟨#[],args,[]⟩).memory:=
 laidMet_of_run' 8 ah ah
theorem ahG{a b:Bool}(h:a=true)(k:b=true):(a && b)=true:=by rw[h,k];rfl
end
section
open Go.RowKit Go.Maps Go.MapKept
open Go.ChangeMaps (setBlock map_eraseIdx modify_eq_set heap_setBlock_same heap_setBlock_other)
section
variable {κ υ:Type} [DecidableEq κ]
def aB(m:List (κ×υ))(k:κ):Option υ:=(m.find? (fun p=>p.1=k)).map (·.2)
def qh(m:List (κ×υ))(k:κ):Bool:=(aB m k).isSome
def bX(m:List (κ×υ))(k:κ):List (κ×υ):=m.filter fun p=>p.1≠k
def aS(m:List (κ×υ))(k:κ)(v:υ):List (κ×υ):=(k,v)::bX m k
theorem lH{m:List (κ×υ)}{k:κ}:aB m k=none ↔ ∀p∈m,p.1≠k:=by
 grind [aB,Option.map_eq_none_iff]
theorem eK{m:List (κ×υ)}{k:κ}{v:υ}(h:aB m k=some v):(k,v)∈m:=by
 grind [aB,Option.map_eq_some_iff]
theorem iV{m:List (κ×υ)}(hn:(m.map (·.1)).Nodup){k:κ}{v:υ}(hp:(k,v)∈m):aB m k=some v:=by
 induction m with
 |nil=>cases hp
 |cons q m ih=>
   grind [aB]
theorem NT{m m':List (κ×υ)}(hn:(m.map (·.1)).Nodup)(hp:m.Perm m')(k:κ):aB m k=aB m' k:=by
 grind [lH,iV,eK]
theorem vO{m m':List (κ×υ)}(hp:m.Perm m')(k:κ):(bX m k).Perm (bX m' k):=hp.filter _
theorem Db{m m':List (κ×υ)}(hp:m.Perm m')(k:κ)(v:υ):(aS m k v).Perm (aS m' k v):=(vO hp k).cons _
theorem oD{m:List (κ×υ)}{k:κ}(h:∀p∈m,p.1≠k):bX m k=m:=List.filter_eq_self.2 (by grind)
theorem Dc{m:List (κ×υ)}{k:κ}(hn:(m.map (·.1)).Nodup):((bX m k).map (·.1)).Nodup:=(List.filter_sublist.map _).nodup hn
theorem ct{m:List (κ×υ)}{k:κ}{v:υ}(hn:(m.map (·.1)).Nodup):((aS m k v).map (·.1)).Nodup:=by
 grind [aS,bX]
theorem cD(m:List (κ×υ))(k k':κ):aB (bX m k) k'=if k'=k then none else aB m k':=by
 grind [aB,bX]
theorem ay(m:List (κ×υ))(k:κ)(v:υ)(k':κ):aB (aS m k v) k'=if k'=k then some v else aB m k':=by
 by_cases h:k'=k
 ·grind [aS,aB]
 ·rw[if_neg h];have:=cD m k k';grind [aB,aS]
theorem gF{m:List (κ×υ)}{k:κ}{p:κ×υ}:p∈bX m k↔p∈m/\p.1≠k:=by simp[bX]
theorem set_perm{m:List (κ×υ)}(hn:(m.map (·.1)).Nodup){j:Nat}{p:κ×υ}(hp:m[j]? = some p)(v:υ):(m.set j (p.1,v)).Perm (aS m p.1 v):=by
 induction m generalizing j with
 |nil=>grind
 |cons q m ih=>
   simp only[List.map_cons,List.nodup_cons]at hn;cases j with
   |zero=>
     grind [bX,oD,aS,List.Perm.refl]
   |succ j=>
     simp only[List.getElem?_cons_succ]at hp;have hne:q.1≠p.1:=(by grind);have:=ih hn.2 hp;unfold aS bX at this ⊢;rw[List.filter_cons_of_pos (by grind),List.set_cons_succ];exact(this.cons q).trans (List.Perm.swap _ _ _)
omit [DecidableEq κ] in
theorem B6{α:Type}{l:List α}{j:Nat}{x:α}(h:l[j]? = some x):l.Perm (x::l.eraseIdx j):=by
 induction l generalizing j with
 |nil=>grind
 |cons q m ih=>
   cases j with
   |zero=>
     simp_all
   |succ j=>
     simp only[List.getElem?_cons_succ]at h;rw[List.eraseIdx_cons_succ];exact((ih h).cons q).trans (List.Perm.swap _ _ _)
theorem vP{α β:Type}(f:α->β)(p:α->Bool){l:List α}(hn:(l.map f).Nodup){j:Nat}{x:α}(hx:l[j]? = some x)(hp:∀y∈l,p y=true↔f y≠f x):l.eraseIdx j=l.filter p:=by
 induction l generalizing j with
 |nil=>rfl
 |cons q m ih=>
   simp only[List.map_cons,List.nodup_cons]at hn;cases j with
   |zero=>
     grind [List.filter_eq_self]
   |succ j=>
     grind
theorem erase_eq{m:List (κ×υ)}(hn:(m.map (·.1)).Nodup){j:Nat}{p:κ×υ}(hp:m[j]? = some p):m.eraseIdx j=bX m p.1:=
 vP (·.1) _ hn hp (by grind)
end
section
variable {κ υ:Type} (P:Program) (kt:TypeId) (ek:κ->Value) (ev:υ->Value)
def Good(P:Program)(k:TypeId)(v:Value):Prop:=∃l,keyOf P k v=some l
def NU(es:Array MapEntry)(clock:Nat)(m:List (κ×υ)):Prop:=
 Stamped es clock/\es.toList.map (fun e=>(e.key,e.val))=m.map (fun p=>(ek p.1,ev p.2))/\∀p∈m,Good P kt (ek p.1)
def bS(w:World)(b:Nat)(m:List (κ×υ)):Prop:=
 ∃es clock l,w.heap[b]? = some (.map es clock)/\l.Perm m/\NU P kt ek ev es clock l
def cw(w:World)(b r:Nat)(m todo:List (κ×υ)):Prop:=
 ∃(es:Array MapEntry)(clock:Nat)(l:List (κ×υ))(since:Nat)(seen:Array Nat)(c0:Nat)(t:List (κ×υ)),w.heap[b]? = some (.map es clock)/\l.Perm m/\NU P kt ek ev es clock l /\
  w.heap[r]? = some (.mapIter (some b) since seen c0)/\(∀x∈es.toList,x.born<since)/\since<=c0/\since<=clock /\
  (leftOf es seen).toList.map (fun e=>(e.key,e.val))=t.map (fun p=>(ek p.1,ev p.2))/\t.Perm todo/\t.Sublist l
variable {P kt ek ev}
variable {w w':World} {b r:Nat} {m todo:List (κ×υ)} {es:Array MapEntry} {clock:Nat}
theorem bS.lt(h:bS P kt ek ev w b m):b<w.heap.size:=by
 obtain⟨es,clock,l,hb,_⟩:=h;grind
theorem bS.kept(h:bS P kt ek ev w b m)(hb:w'.heap[b]? = w.heap[b]?):bS P kt ek ev w' b m:=by
 obtain⟨es,clock,l,h1,h2⟩:=h;exact⟨es,clock,l,hb.trans h1,h2⟩
theorem bS.perm{m':List (κ×υ)}(h:bS P kt ek ev w b m)(hp:m.Perm m'):bS P kt ek ev w b m':=by
 obtain⟨es,clock,l,h1,h2,h3⟩:=h;exact⟨es,clock,l,h1,h2.trans hp,h3⟩
theorem cw.map(h:cw P kt ek ev w b r m todo):bS P kt ek ev w b m:=by
 obtain⟨es,clock,l,since,seen,c0,t,h1,h2,h3,_⟩:=h;exact⟨es,clock,l,h1,h2,h3⟩
theorem cw.lt(h:cw P kt ek ev w b r m todo):r<w.heap.size:=by
 obtain⟨es,clock,l,since,seen,c0,t,h1,h2,h3,h4,_⟩:=h;grind
theorem cw.ne(h:cw P kt ek ev w b r m todo):r≠b:=by
 obtain⟨es,clock,l,since,seen,c0,t,h1,h2,h3,h4,_⟩:=h;grind
theorem cw.kept(h:cw P kt ek ev w b r m todo)(hb:w'.heap[b]? = w.heap[b]?)(hr:w'.heap[r]? = w.heap[r]?):cw P kt ek ev w' b r m todo:=by
 obtain⟨es,clock,l,since,seen,c0,t,h1,h2,h3,h4,h5⟩:=h;exact⟨es,clock,l,since,seen,c0,t,hb.trans h1,h2,h3,hr.trans h4,h5⟩
theorem cw.left(h:cw P kt ek ev w b r m todo):w.rangeLeft b r=todo.length:=by
 obtain⟨es,clock,l,since,seen,c0,t,h1,h2,h3,h4,_,_,_,h5,h6,_⟩:=h;grind [World.rangeLeft,List.length_map,List.Perm.length_eq]
theorem bS.made(w:World)(P:Program)(kt:TypeId)(ek:κ->Value)(ev:υ->Value):bS P kt ek ev (w.alloc (.map #[] 0)) w.heap.size []:=
 ⟨#[],0,[],heap_alloc_new _ _,.refl _,⟨ai,ai,ai⟩,rfl,ai⟩
theorem Dd(h:es.toList.map (fun e=>(e.key,e.val))=m.map (fun p=>(ek p.1,ev p.2)))(j:Nat) :
 (es.toList[j]?).map (fun e=>(e.key,e.val))=(m[j]?).map (fun p=>(ek p.1,ev p.2)):=by
 rw[<- List.getElem?_map,<- List.getElem?_map,h]
theorem mN(h:es.toList.map (fun e=>(e.key,e.val))=m.map (fun p=>(ek p.1,ev p.2))){j:Nat}{e:MapEntry}(he:es.toList[j]? = some e) :
 ∃p,m[j]? = some p/\e.key=ek p.1/\e.val=ev p.2:=by
 have:=Dd h j;grind
theorem Kd(h:es.toList.map (fun e=>(e.key,e.val))=m.map (fun p=>(ek p.1,ev p.2))){j:Nat}{p:κ×υ}(hp:m[j]? = some p) :
 ∃e,es.toList[j]? = some e/\e.key=ek p.1/\e.val=ev p.2:=by
 have:=Dd h j;grind
theorem NU.good(h:NU P kt ek ev es clock m):∀e∈es.toList,∃l,keyOf P kt e.key=some l:=by
 intro e he;obtain⟨j,hj⟩:=List.mem_iff_getElem?.1 he;obtain⟨p,hp,hk,_⟩:=mN h.2.1 hj;rw[hk];exact h.2.2 p (by grind)
theorem NU.keys(h:NU P kt ek ev es clock m):(m.map (·.1)).Nodup:=by
 have e1:es.toList.map (·.key)=m.map (fun p=>ek p.1):=by
  have:=congrArg (List.map Prod.fst) h.2.1;grind [Function.comp_def]
 have h1:=h.1.2.2;grind
theorem bS.keys(h:bS P kt ek ev w b m):(m.map (·.1)).Nodup:=by
 obtain⟨es,clock,l,_,hp,hl⟩:=h;grind [NU.keys]
theorem cw.sub(h:cw P kt ek ev w b r m todo):∀p∈todo,p∈m:=by
 obtain⟨es,clock,l,since,seen,c0,t,_,h2,hl,_,_,_,_,_,h6,h7⟩:=h;grind
theorem cw.keys(h:cw P kt ek ev w b r m todo):(todo.map (·.1)).Nodup:=by
 obtain⟨es,clock,l,since,seen,c0,t,_,_,hl,_,_,_,_,_,h6,h7⟩:=h;grind [NU.keys]
theorem bS.good(h:bS P kt ek ev w b m):∀p∈m,Good P kt (ek p.1):=by
 obtain⟨es,clock,l,_,hp,hl⟩:=h;exact fun p hm=>hl.2.2 p (by grind)
variable [DecidableEq κ]
theorem NU.find(h:NU P kt ek ev es clock m)(K:Keyed P kt)(inj:∀a b,ek a=ek b->a=b)(w:World)(k:κ)(hg:Good P kt (ek k)) :
 (aB m k=none/\(Instr.findKey kt (ek k) es.toList).run P w=.ok none w/\∀e∈es.toList,e.key≠ek k) \/
 ∃j e v,aB m k=some v/\(Instr.findKey kt (ek k) es.toList).run P w=.ok (some (j,ev v)) w/\es.toList[j]? = some e/\e.key=ek k/\m[j]? = some (k,v):=by
 obtain⟨l,hl⟩:=hg;rcases K.find w hl es.toList h.good with⟨h1,h2⟩|⟨j,e0,h1,h2,h3⟩
 ·refine Or.inl ⟨?_,h1,h2⟩;refine lH.2 fun p hp e=>?_;obtain⟨j,hj⟩:=List.mem_iff_getElem?.1 hp;obtain⟨e0,he,hk,_⟩:=Kd h.2.1 hj;grind
 ·obtain⟨p,hpj,hk,hv⟩:=mN h.2.1 h2;grind [iV,keys]
theorem bS.lookup{t e:TypeId}(h:bS P kt ek ev w b m)(K:Keyed P kt)(inj:∀a b,ek a=ek b->a=b)(ht:P.underlying t=some (.map kt e)){z:Value}(hz:(zeroValue e).run P w=.ok z w)(k:κ)(hg:Good P kt (ek k))(c:Bool) :
 (Instr.lookup t (.map (some b)) (ek k) c).run P w=.ok (if c then .tuple #[((aB m k).map ev).getD z,.bool (qh m k)] else ((aB m k).map ev).getD z) w:=by
 obtain⟨es,clock,l,hb,hp,hl⟩:=h;unfold qh;rw[<- NT hl.keys hp k];obtain⟨lk,hlk⟩:=id hg;rcases hl.find K inj w k hg with⟨h1,h2,h3⟩|⟨j,e0,v,h1,h2,h3,h4,h5⟩
 ·rw[h1];simp[Instr.lookup,run_underlying ht,MapKept.run_getObj_map hb,K.check w _ hlk,h2,hz,Result.andThen]
 ·rw[h1];simp[Instr.lookup,run_underlying ht,MapKept.run_getObj_map hb,K.check w _ hlk,h2,Result.andThen]
theorem bS.update{t e:TypeId}(h:bS P kt ek ev w b m)(K:Keyed P kt)(inj:∀a b,ek a=ek b->a=b)(ht:P.underlying t=some (.map kt e))(k:κ)(hg:Good P kt (ek k))(v:υ) :
 ∃es' clock',(Instr.mapUpdate t (.map (some b)) (ek k) (ev v)).run P w=.ok () (setBlock w b (.map es' clock'))/\bS P kt ek ev (setBlock w b (.map es' clock')) b (aS m k v):=by
 obtain⟨es,clock,l,hb,hp,hl⟩:=h;obtain⟨lk,hlk⟩:=id hg;rcases hl.find K inj w k hg with⟨h1,h2,h3⟩|⟨j,e0,v0,h1,h2,h3,h4,h5⟩
 ·refine⟨es.push ⟨ek k,ev v,clock⟩,clock+1,?_,_,_,l++[(k,v)],heap_setBlock_same hb _,?_,stamped_push hl.1 h3,?_,?_⟩
  ·simp[Instr.mapUpdate,run_underlying ht,MapKept.run_getObj_map hb,K.check w false hlk,h2,MapKept.run_setObj_map _ hb,Result.andThen,setBlock]
  ·refine(List.perm_append_singleton _ _).trans (List.Perm.trans ?_ (Db hp k v));unfold aS;rw[oD (lH.1 h1)]
  ·rw[Array.toList_push,List.map_append,List.map_append,hl.2.1];rfl
  ·intro p Qx;rcases List.mem_append.1 Qx with h | h
   ·exact hl.2.2 p h
   grind
 ·have hj:es[j]? = some e0:=by grind
  have acW:(es.modify j (fun e'=>{ e' with key:=ek k,val:=ev v })).toList=es.toList.set j { e0 with key:=ek k,val:=ev v }:=by grind [modify_eq_set]
  have hst:Stamped (es.modify j (fun e'=>{ e' with key:=ek k,val:=ev v })) clock:=by
   have e1:es.modify j (fun e'=>{ e' with key:=ek k,val:=ev v })=es.modify j (fun e'=>{ e' with val:=ev v }):=by
    grind
   rw[e1];exact stamped_modify hl.1 j _ (fun _ _=>rfl) (fun _ _ _=>rfl)
  refine⟨es.modify j (fun e'=>{ e' with key:=ek k,val:=ev v }),clock,?_,_,_,l.set j (k,v),heap_setBlock_same hb _,?_,hst,?_,?_⟩
  ·simp[Instr.mapUpdate,run_underlying ht,MapKept.run_getObj_map hb,K.check w false hlk,h2,hj,h4,K.stays w hlk,MapKept.run_setObj_map _ hb,Result.andThen,setBlock]
  ·exact(set_perm hl.keys h5 v).trans (Db hp k v)
  ·rw[acW,List.map_set,List.map_set,hl.2.1]
  ·intro p Qx;rcases List.mem_or_eq_of_mem_set Qx with h | h
   ·exact hl.2.2 p h
   grind
theorem NU.drop{t e ty:TypeId}(hb:w.heap[b]? = some (.map es clock))(hl:NU P kt ek ev es clock m)(K:Keyed P kt)(inj:∀a b,ek a=ek b->a=b)(ht:P.underlying t=some (.map kt e))(k:κ)(hg:Good P kt (ek k)) :
 ∃es',(Builtin.delete_ #[t,kt] ty #[.map (some b),ek k]).run P w=.ok (.tuple #[]) (setBlock w b (.map es' clock))/\NU P kt ek ev es' clock (bX m k)/\(∀p:MapEntry->Bool,(∀e∈es.toList,p e=true↔e.key≠ek k)->es'.toList=es.toList.filter p):=by
 obtain⟨lk,hlk⟩:=id hg;rcases hl.find K inj w k hg with⟨h1,h2,h3⟩|⟨j,e0,v0,h1,h2,h3,h4,h5⟩
 ·refine⟨es,?_,?_,?_⟩
  ·simp[Builtin.delete_,run_underlying ht,MapKept.run_getObj_map hb,K.check w _ hlk,h2,MapKept.run_setObj_map _ hb,Result.andThen,setBlock]
  ·grind [oD,lH]
  grind [List.filter_eq_self]
 ·have lQ:j<es.toList.length:=(by grind);have Gp:(es.eraseIdxIfInBounds j).toList=es.toList.eraseIdx j:=by
   simp
  refine⟨es.eraseIdxIfInBounds j,?_,⟨stamped_erase hl.1 j,?_,?_⟩,?_⟩
  ·simp[Builtin.delete_,run_underlying ht,MapKept.run_getObj_map hb,K.check w _ hlk,h2,MapKept.run_setObj_map _ hb,Result.andThen,setBlock]
  ·rw[Gp,<- erase_eq hl.keys h5,map_eraseIdx,map_eraseIdx,hl.2.1]
  ·intro p hp;exact hl.2.2 p (gF.1 hp).1
  ·intro p hp;rw[Gp];exact vP (·.key) p hl.1.2.2 h3 (by grind)
theorem bS.delete{t e ty:TypeId}(h:bS P kt ek ev w b m)(K:Keyed P kt)(inj:∀a b,ek a=ek b->a=b)(ht:P.underlying t=some (.map kt e))(k:κ)(hg:Good P kt (ek k)) :
 ∃es' clock',(Builtin.delete_ #[t,kt] ty #[.map (some b),ek k]).run P w=.ok (.tuple #[]) (setBlock w b (.map es' clock'))/\bS P kt ek ev (setBlock w b (.map es' clock')) b (bX m k):=by
 obtain⟨es,clock,l,hb,hp,hl⟩:=h;obtain⟨es',h1,h2,_⟩:=hl.drop (ty:=ty) hb K inj ht k hg;exact⟨es',clock,h1,es',clock,bX l k,heap_setBlock_same hb _,vO hp k,h2⟩
omit [DecidableEq κ] in
theorem bS.range{t e:TypeId}(h:bS P kt ek ev w b m)(ht:P.underlying t=some (.map kt e)) :
 ∃o,(Instr.range t (.map (some b))).run P w=.ok (.pointer (some ⟨w.heap.size,0,none⟩)) (w.alloc o)/\cw P kt ek ev (w.alloc o) b w.heap.size m m:=by
 have hlt:=h.lt;obtain⟨es,clock,l,hb,hp,hl⟩:=h;refine⟨_,run_range_map w t kt e b es clock ht hb,es,clock,l,clock,#[],clock,l,((MapKept.heap_alloc w _).2 b hlt).trans hb,hp,hl,(MapKept.heap_alloc w _).1,hl.1.1,Nat.le_refl _,Nat.le_refl _,?_,hp,(by grind)⟩;have:leftOf es #[]=es:=Array.filter_eq_self.2 (fun _ _=>by simp);rw[this];exact hl.2.1
omit [DecidableEq κ] in
theorem oF(es:Array MapEntry)(seen:Array Nat):(leftOf es seen).toList=es.toList.filter (fun e=>!seen.contains e.born):=by
 grind [leftOf]
omit [DecidableEq κ] in
theorem cw.next(h:cw P kt ek ev w b r m todo)(ty:TypeId) :
 (todo=[]/\(Instr.next (.pointer (some ⟨r,0,none⟩)) false ty).run P w=.ok (.tuple #[.bool false]) w) \/
 ∃p rest w1 o,todo.Perm (p::rest)/\(w1=w\/w1=w.drew)/\(Instr.next (.pointer (some ⟨r,0,none⟩)) false ty).run P w=.ok (.tuple #[.bool true,ek p.1,ev p.2]) (setBlock w1 r o) /\
  cw P kt ek ev (setBlock w1 r o) b r m rest/\(Instr.entry (.pointer (some ⟨r,0,none⟩))).run P (setBlock w1 r o)=.ok (.tuple #[ek p.1,ev p.2]) (setBlock w1 r o):=by
 have hne:=h.ne;obtain⟨es,clock,l,since,seen,c0,t,hb,hp,hl,hr,hold,hsc,hsk,xU,htp,hts⟩:=h;rcases run_next_at (P:=P) w ty r b since c0 seen es clock hr hb hold hsc with⟨h0,hrun⟩|⟨e,he,w1,pZ,hrun⟩
 ·simp_all
 ·obtain⟨hem,hes⟩:=mem_left he;obtain⟨j,hj⟩:=List.mem_iff_getElem?.1 he;obtain⟨p,hpj,hk,hv⟩:=mN xU hj;have hr1:w1.heap[r]? = some (.mapIter (some b) since seen c0):=by rcases pZ with rfl | rfl<;>exact hr
  have hb1:w1.heap[b]? = some (.map es clock):=by rcases pZ with rfl | rfl<;>exact hb
  have zH:=heap_set (o':=.mapIter (some b) since (seen.push e.born) clock) hr1;have hb':(setBlock w1 r (.mapIter (some b) since (seen.push e.born) clock)).heap[b]? = some (.map es clock):=(zH.2 b (fun e1=>hne e1.symm)).trans hb1;rw[hk,hv]at hrun;have hen:=run_entry_at (P:=P) _ r b since seen es clock e zH.1 hb' hem ((stamped_iff es clock).1 hl.1).2.1;rw[hk,hv]at hen;refine Or.inr ⟨p,t.eraseIdx j,w1,_,?_,pZ,hrun,⟨es,clock,l,since,seen.push e.born,clock,t.eraseIdx j,hb',hp,hl,zH.1,hold,hsk,hsk,?_,List.Perm.refl _,(List.eraseIdx_sublist _ _).trans hts⟩,hen⟩
  ·exact htp.symm.trans (B6 hpj)
  ·rw[map_eraseIdx,<- xU,<- map_eraseIdx];congr 1;rw[oF]at hj ⊢;have Y8:((es.toList.filter (fun e=>!seen.contains e.born)).map (·.born)).Nodup:=(List.filter_sublist.map _).nodup ((stamped_iff es clock).1 hl.1).2.1;rw[oF,vP (·.born) (fun x=>x.born≠e.born) Y8 hj (by grind),List.filter_filter];grind
theorem cw.delete{t e ty:TypeId}(h:cw P kt ek ev w b r m todo)(K:Keyed P kt)(inj:∀a b,ek a=ek b->a=b)(ht:P.underlying t=some (.map kt e))(k:κ)(hg:Good P kt (ek k))(hk:∀p∈todo,p.1≠k) :
 ∃es' clock',(Builtin.delete_ #[t,kt] ty #[.map (some b),ek k]).run P w=.ok (.tuple #[]) (setBlock w b (.map es' clock'))/\cw P kt ek ev (setBlock w b (.map es' clock')) b r (bX m k) todo:=by
 have hne:=h.ne;obtain⟨es,clock,l,since,seen,c0,t,hb,hp,hl,hr,hold,hsc,hsk,xU,htp,hts⟩:=h;obtain⟨es',h1,h2,h3⟩:=hl.drop (ty:=ty) hb K inj ht k hg;classical
 have h4:=h3 (fun e=>e.key≠ek k) (fun e _=>by simp);refine⟨es',clock,h1,es',clock,bX l k,since,seen,c0,t,heap_setBlock_same hb _,vO hp k,h2,(heap_setBlock_other hb _ hne).trans hr,?_,hsc,hsk,?_,htp,?_⟩
 ·grind
 ·rw[oF,h4,List.filter_filter,<- xU,oF];congr 1;apply List.filter_congr;intro x hx;cases hc:seen.contains x.born with
  |true=>simp
  |false=>
    simp only[Bool.not_false,Bool.true_and,decide_eq_true_eq];intro hxk;have El:x∈(leftOf es seen).toList:=by
     grind [oF]
    obtain⟨j,hj⟩:=List.mem_iff_getElem?.1 El;obtain⟨p,hpj,P1,_⟩:=mN xU hj;grind
 ·have:bX t k=t:=oD (by grind);rw[<- this];exact hts.filter _
end
section
variable {κ υ:Type} [DecidableEq κ] {P:Program} {kt:TypeId} {ek:κ->Value} {ev:υ->Value}
variable (w:World) {ops:Array Oper} {rest:List Oper} {o:Oper} {a:Act} {Q:Exit->Act->World->Prop}
theorem bY(hg:o.guard=none)(m x:Operand)(t:TypeId)(c:Bool)(hop:o.op=Op.lookup t m x c)(e:TypeId)(K:Keyed P kt)(inj:∀a b,ek a=ek b->a=b)(ht:P.underlying t=some (.map kt e)){z:Value}(hz:(zeroValue e).run P w=.ok z w)(b:Nat)(M:List (κ×υ))(hm:a.eval m=.map (some b))(h:bS P kt ek ev w b M)(k:κ)(hx:a.eval x=ek k)(hk:Good P kt (ek k))(hK:wpList P ops Q rest (a.put o.dst (if c then .tuple #[((aB M k).map ev).getD z,.bool (qh M k)] else ((aB M k).map ev).getD z)) w) :
 wpList P ops Q (o::rest) a w:=by
 refine wpList_plain hg fun K' hK'=>?_;have hrun:=h.lookup K inj ht hz k hk c;unfold Oper.wp;simp only[execOp,hop,hm,hx,Sem.run_bind,hrun,Result.andThen];exact hK' _ _ hK
theorem eL(hg:o.guard=none)(m x v:Operand)(t:TypeId)(hop:o.op=Op.mapUpdate t m x v)(e:TypeId)(K:Keyed P kt)(inj:∀a b,ek a=ek b->a=b)(ht:P.underlying t=some (.map kt e))(b:Nat)(M:List (κ×υ))(hm:a.eval m=.map (some b))(h:bS P kt ek ev w b M)(k:κ)(u:υ)(hx:a.eval x=ek k)(hv:a.eval v=ev u)(hk:Good P kt (ek k))(hK:∀es clock,bS P kt ek ev (setBlock w b (.map es clock)) b (aS M k u)->wpList P ops Q rest (a.put o.dst undef) (setBlock w b (.map es clock))) :
 wpList P ops Q (o::rest) a w:=by
 refine wpList_plain hg fun K' hK'=>?_;obtain⟨es',clock',hrun,r1⟩:=h.update K inj ht k hk u;unfold Oper.wp;simp only[execOp,hop,hm,hx,hv,Sem.run_bind,hrun,Result.andThen];exact hK' _ _ (hK _ _ r1)
theorem sR(hg:o.guard=none)(m x:Operand)(t:TypeId)(hop:o.op=Op.call { callee:=Callee.builtin Builtin.delete,args:=#[m,x],argTypes:=#[t,kt] })(e:TypeId)(K:Keyed P kt)(inj:∀a b,ek a=ek b->a=b)(ht:P.underlying t=some (.map kt e))(b:Nat)(M:List (κ×υ))(hm:a.eval m=.map (some b))(h:bS P kt ek ev w b M)(k:κ)(hx:a.eval x=ek k)(hk:Good P kt (ek k))(hK:∀es clock,bS P kt ek ev (setBlock w b (.map es clock)) b (bX M k)->wpList P ops Q rest (a.put o.dst (.tuple #[])) (setBlock w b (.map es clock))) :
 wpList P ops Q (o::rest) a w:=by
 refine wpList_plain hg fun K' hK'=>?_;obtain⟨es',clock',hrun,r1⟩:=h.delete (ty:=o.type) K inj ht k hk;unfold Oper.wp;simp[execOp,hop,resolve,invoke,builtin,hm,hx,hrun,Result.andThen];exact hK' _ _ (hK _ _ r1)
theorem zI(hg:o.guard=none)(m x:Operand)(t:TypeId)(hop:o.op=Op.call { callee:=Callee.builtin Builtin.delete,args:=#[m,x],argTypes:=#[t,kt] })(e:TypeId)(K:Keyed P kt)(inj:∀a b,ek a=ek b->a=b)(ht:P.underlying t=some (.map kt e))(b r:Nat)(M todo:List (κ×υ))(hm:a.eval m=.map (some b))(h:cw P kt ek ev w b r M todo)(k:κ)(hx:a.eval x=ek k)(hk:Good P kt (ek k))(B7:∀p∈todo,p.1≠k)(hK:∀es clock,cw P kt ek ev (setBlock w b (.map es clock)) b r (bX M k) todo->wpList P ops Q rest (a.put o.dst (.tuple #[])) (setBlock w b (.map es clock))) :
 wpList P ops Q (o::rest) a w:=by
 refine wpList_plain hg fun K' hK'=>?_;obtain⟨es',clock',hrun,r1⟩:=h.delete (ty:=o.type) K inj ht k hk B7;unfold Oper.wp;simp[execOp,hop,resolve,invoke,builtin,hm,hx,hrun,Result.andThen];exact hK' _ _ (hK _ _ r1)
omit [DecidableEq κ] in
theorem pz(hg:o.guard=none)(m:Operand)(t:TypeId)(hop:o.op=Op.range t m)(e:TypeId)(ht:P.underlying t=some (.map kt e))(b:Nat)(M:List (κ×υ))(hm:a.eval m=.map (some b))(h:bS P kt ek ev w b M)(hK:∀ob,cw P kt ek ev (w.alloc ob) b w.heap.size M M->wpList P ops Q rest (a.put o.dst (.pointer (some ⟨w.heap.size,0,none⟩))) (w.alloc ob)) :
 wpList P ops Q (o::rest) a w:=by
 refine wpList_plain hg fun K' hK'=>?_;obtain⟨ob,hrun,r1⟩:=h.range ht;unfold Oper.wp;simp only[execOp,hop,hm,Sem.run_bind,hrun,Result.andThen];exact hK' _ _ (hK _ r1)
omit [DecidableEq κ] in
theorem pA(hg:o.guard=none)(it:Operand)(hop:o.op=Op.next it false)(b r:Nat)(M todo:List (κ×υ))(hit:a.eval it=.pointer (some ⟨r,0,none⟩))(h:cw P kt ek ev w b r M todo)(hDone:todo=[]->wpList P ops Q rest (a.put o.dst (.tuple #[.bool false])) w)(hMore:∀p rs w1 ob,todo.Perm (p::rs)->(w1=w\/w1=w.drew)->cw P kt ek ev (setBlock w1 r ob) b r M rs ->
   (Instr.entry (.pointer (some ⟨r,0,none⟩))).run P (setBlock w1 r ob)=.ok (.tuple #[ek p.1,ev p.2]) (setBlock w1 r ob)->wpList P ops Q rest (a.put o.dst (.tuple #[.bool true,ek p.1,ev p.2])) (setBlock w1 r ob)) :
 wpList P ops Q (o::rest) a w:=by
 refine wpList_plain hg fun K' hK'=>?_;unfold Oper.wp;rcases h.next o.type with⟨h0,hrun⟩|⟨p,rs,w1,ob,hp,pZ,hrun,hi,hen⟩
 ·simp only[execOp,hop,hit,Sem.run_bind,hrun,Result.andThen];exact hK' _ _ (hDone h0)
 ·simp only[execOp,hop,hit,Sem.run_bind,hrun,Result.andThen];exact hK' _ _ (hMore p rs w1 ob hp pZ hi hen)
end
end
section
open Go
section
variable {P:Program} {ops:Array Oper} {md:Region.Mode} {C:World->Prop}
def jh(P:Program)(md:Region.Mode)(ops:Array Oper)(C:World->Prop)(n:Nat)(L:Array Bool->Act->Prop):Nat->Array Bool->Act->Prop
 |0,listed,a=>L listed a
 |f+1,listed,a=>
   Region.ready md ops listed≠[]/\∀i∈Region.ready md ops listed,i<n/\qOp P ops C i (jh P md ops C n L f (listed.setIfInBounds i true)) a
theorem qu{n g:Nat}{L:Array Bool->Act->Prop}{Q':Exit->Act->World->Prop}(hL:∀listed a w,C w->L listed a->wpAny P md ops Q' g listed a w)(f:Nat) :
 ∀(listed:Array Bool)(a:Act)(w:World),C w->jh P md ops C n L f listed a->wpAny P md ops Q' (f+g) listed a w:=by
 induction f with
 |zero=>intro listed a w hw h;rw[Nat.zero_add];exact hL _ _ _ hw h
 |succ f ih=>
   intro listed a w hw h;rw[show f+1+g=(f+g)+1 by omega];exact⟨fun h0=>absurd h0 h.1,fun i hi=>wpOp_of_qOp hw (fun a' w' hw' h'=>ih _ a' w' hw' h') (h.2 i hi).2⟩
theorem B8{n i:Nat}{oi:Oper}{v:Value}{L:Array Bool->Act->Prop}(hi:ops[i]? = some oi)(lh:∀(j:Nat)(o:Oper)cs b,ops[j]? = some o->o.op≠.select cs b)(hs:Region.sinkB md ops n=true)(hc:Region.chainB md ops n=true)(hn:n<ops.size)(oC:i<n)(hdone:∀listed a,L listed a->∀j∈Region.ready md ops listed,n<=j)(f:Nat) :
 ∀(listed:Array Bool)(a:Act),HeadInv md ops n listed ->
  (∀j oj,ops[j]? = some oj->j≠i->listed.getD j true=false->(∀e∈oj.after,Region.binds md e=true->e.on≠i)->oi.apart ops oj=true) ->
  i∈Region.ready md ops listed->YieldsIn P ops C oi v a ->
  jh P md ops C n L f (listed.setIfInBounds i true) (a.put oi.dst v)->jh P md ops C n L (f+1) listed a:=by
 induction f with
 |zero=>
   intro listed a inv _ hr hy H;have oG:=(mem_ready.1 hr).1;refine⟨(by grind),fun j hj=>?_⟩;have P2:j<n:=by
    rcases Nat.lt_or_ge j n with h | h
    ·exact h
    ·exact absurd hj (tail_waits hs hc hn inv _ i rfl oC oG j h)
   refine⟨P2,?_⟩;by_cases vQ:j=i
   ·grind [YieldsIn.qOp]
   ·have:=hdone _ _ H j (ready_mono hj vQ);omega
 |succ f ih=>
   intro listed a inv fR hr hy H;have oG:=(mem_ready.1 hr).1;refine⟨(by grind),fun j hj=>?_⟩;have P2:j<n:=by
    rcases Nat.lt_or_ge j n with h | h
    ·exact h
    ·exact absurd hj (tail_waits hs hc hn inv _ i rfl oC oG j h)
   refine⟨P2,?_⟩;by_cases vQ:j=i
   ·grind [YieldsIn.qOp]
   ·have h1:=(H.2 j (ready_mono hj vQ)).2;obtain⟨Qy,oj,km,hall⟩:=mem_ready.1 hj;have h2:=qOp_put km (by grind) (by grind) (by grind) hy h1;have Ke:∀k ok,ops[k]? = some ok->k≠i->(listed.setIfInBounds j true).getD k true=false ->
     (∀e∈ok.after,Region.binds md e=true->e.on≠i)->oi.apart ops ok=true:=fun k ok hk MG oG hno=>by
     refine fR k ok hk MG ?_ hno;by_cases hjk:j=k
     ·grind
     simp_all
    grind [qOp_mono,HeadInv.set,ready_mono,Array.setIfInBounds_comm]
theorem Gq{n g:Nat}{Lq:Act->Prop}(lh:Region.noSelect ops=true)(hs:Region.sinkB md ops n=true)(hc:Region.chainB md ops n=true)(hn:n<ops.size)(l:List Oper) :
 ∀(k:Nat)(listed:Array Bool)(a:Act),(∀j,j<l.length->l[j]? = ops[k+j]?)->k+l.length=n->HeadInv md ops n listed ->
 Region.lexHead md ops g l.length k listed=true->wpQuiet P ops C Lq l a ->
 jh P md ops C n (fun listed' a'=>Region.seqB md ops g n listed'=true/\Lq a') l.length listed a:=by
 induction l with
 |nil=>
   intro k listed a _ hk _ hB h;have:k=n:=by omega
   subst this;exact⟨by assumption,h⟩
 |cons o l ih=>
   intro k listed a hl hk inv hB h;have h0 :=by simpa using (hl 0 ai).symm
   simp only[List.length_cons,Region.lexHead,Bool.and_eq_true]at hB;obtain⟨⟨hr,hf⟩,Vg⟩:=hB;have Kf:k<n:=by grind
   have MH:k∈Region.ready md ops listed:=by grind
   have hst:qOp P ops C k (wpQuiet P ops C Lq l) a:=by unfold qOp;simp only[h0];exact h
   obtain⟨v,hy,hK⟩:=yieldsIn_of_qOp h0 hst;exact B8 h0 (Region.noSelect_spec lh) hs hc hn Kf (fun listed' a' hL=>seqB_ready hL.1) l.length listed a inv (Region.free_spec h0 hf) MH hy
    (ih (k+1) _ _ (fun j hj=>by have:=hl (j+1) (by grind);grind) (by grind) (inv.set MH Kf) Vg hK)
theorem cr(C:World->Prop){id:Nat}{Q:Exit->Act->World->Prop}{a:Act}{w:World}{l:List Oper}(n:Nat)(hm:P.follows .mixedOrders=true)(hB:Region.lexTailB .any l.toArray n=true)(hC:C w.drew)(h:wpQuiet P l.toArray C (fun a'=>∀w',C w'->wpList P l.toArray Q (l.drop n) a' w') (l.take n) a):(Code.region id l.toArray true).wp P Q a w:=by
 simp only[Region.lexTailB,Bool.and_eq_true,decide_eq_true_eq]at hB;obtain⟨⟨⟨⟨lh,hn⟩,hs⟩,hc⟩,Y9⟩:=hB;have hn':n<l.length:=by omega
 have zo:(l.take n).length=n:=by grind
 have UI:(l.drop n).length=l.toArray.size-n:=by simp
 have Kg:HeadInv .any l.toArray n (Array.replicate l.toArray.size false):=
  ⟨ai,fun j oj _ hl=>(by grind [getD_replicate_false]),(by simp_all)⟩
 have H:=Gq (md:=.any) (C:=C) (g:=l.toArray.size-n) lh hs hc hn (l.take n) 0 _ a (by grind) af Kg (by grind) h;refine wp_region_any hm ?_;have:=qu (Q':=Q) (g:=l.toArray.size-n) (fun listed a' w' hw' hL=>by
  have:=wpAny_of_seq (md:=.any) (Q':=Q) (l.drop n) n listed a' w' (by grind) (by grind) (hL.2 w' hw');grind) _ _ _ _ hC H
 rw[zo,show n+(l.toArray.size-n)=l.toArray.size by omega]at this;exact this
theorem cP(C:World->Prop){id:Nat}{Q:Exit->Act->World->Prop}{a:Act}{w:World}{l:List Oper}(hm:P.follows .mixedOrders=true)(hB:Region.lexB .any l.toArray=true)(hC:C w.drew)(h:wpQuiet P l.toArray C (fun a'=>∀w',C w'->Q .normal a' w') l a):(Code.region id l.toArray true).wp P Q a w:=
 wp_region_quiet hm hB hC (by simpa using h)
theorem q_op{Q:Act->Prop}{a:Act}{o:Oper}{rest:List Oper}{v:Value}(hw:Region.wanted o (yielded ops a.tmps)=true)(h:∀w,C w->(execOp a.eval o).run P w=.ok (.value v) w)(hk:∀K:Act->Prop,(∀a,wpQuiet P ops C Q rest a->K a)->K (a.put o.dst v)):wpQuiet P ops C Q (o::rest) a:=by
 unfold wpQuiet;rw[if_pos hw];exact⟨v,fun w hC=>by unfold Oper.quietAt;rw[h w hC];exact⟨rfl,rfl⟩,hk _ fun _ h=>h⟩
theorem sS{Q:Act->Prop}{a:Act}{o:Oper}{rest:List Oper}{v:Value}{f:FuncId}{args:Array Value}(hw:Region.wanted o (yielded ops a.tmps)=true)(h:∀w,C w->(execOp a.eval o).run P w=.ok (.enter f args) w)(hc:∀w,C w->Calls P f args w fun e w'=>e=.returned v/\C w')(hk:∀K:Act->Prop,(∀a,wpQuiet P ops C Q rest a->K a)->K (a.put o.dst v)):wpQuiet P ops C Q (o::rest) a:=by
 unfold wpQuiet;rw[if_pos hw];exact⟨v,fun w hC=>by unfold Oper.quietAt;rw[h w hC];exact⟨rfl,hc w hC⟩,hk _ fun _ h=>h⟩
theorem qz{Q:Act->Prop}{a a':Act}{o:Oper}{rest:List Oper}{v:Value}(hk:wpQuiet P ops C Q rest a')(h:∀w,C w->(execOp a.eval o).run P w=.ok (.value v) w:=by intro w' hw';go_simp<;>rfl)(ha:a.put o.dst v=a':=by go_simp<;>rfl)(hw:Region.wanted o (yielded ops a.tmps)=true:=by rfl):wpQuiet P ops C Q (o::rest) a:=q_op hw h fun _ g=>g _ (ha▸hk)
theorem qw{Q:Act->Prop}{a a':Act}{o:Oper}{rest:List Oper}{v:Value}{f:FuncId}{args:Array Value}(hc:∀w,C w->Calls P f args w fun e w'=>e=.returned v/\C w')(hk:wpQuiet P ops C Q rest a')(h:∀w,C w->(execOp a.eval o).run P w=.ok (.enter f args) w:=by intro w' hw';go_simp<;>rfl)(ha:a.put o.dst v=a':=by go_simp<;>rfl)(hw:Region.wanted o (yielded ops a.tmps)=true:=by rfl):wpQuiet P ops C Q (o::rest) a:=sS hw h hc fun _ g=>g _ (ha▸hk)
theorem wq(w:World){id:Nat}{Q:Exit->Act->World->Prop}{a:Act}{l:List Oper}(h:wpQuiet P l.toArray (RowKit.Below w.heap.size w) (fun a'=>∀w',RowKit.Below w.heap.size w w'->Q .normal a' w') l a)(hm:P.follows .mixedOrders=true:=by kernel_rfl)(hB:Region.lexB .any l.toArray=true:=by kernel_rfl):(Code.region id l.toArray true).wp P Q a w:=cP _ hm hB (RowKit.Below.refl _ _).drew h
end
end
section
open Go.RowKit
theorem MI{k:IntKind}{a b:Int}(h:a=b):Ending.returned (.int k a)=.returned (.int k b):=by rw[h]
@[go_sem] theorem UJ(w:World)(n:Nat)(a:Addr)(v:Value):(w.drewN n).setCell a v=(w.setCell a v).drewN n:=rfl
@[go_sem] theorem XJ(w:World)(n:Nat)(o:Obj):(w.drewN n).alloc o=(w.alloc o).drewN n:=rfl
def bv(b:UInt8):Value:=.int .u8 (b.toNat:Int)
def le(x:Nat):Nat->List UInt8
 |0=>[]
 |k+1=>le x k++[UInt8.ofNat (x/256^k)]
theorem b9(x k:Nat):(le x k).length=k:=by
 induction k with
 |zero=>rfl
 |succ k ih=>simp[le,ih]
theorem Gr(x k:Nat):Value.int .u8 ((x:Int)/2^(8*k)%256)=bv (UInt8.ofNat (x/256^k)):=by
 grind [bv,Int.pow_mul,UInt8.toNat_ofNat']
theorem iO(b:UInt8):(bv b).oneCell'=true:=rfl
theorem aI{w:World}{base size n:Nat}{e:TypeId}{v:Value}{xs:List Value}(h:w.ownsRow base e size v n xs):∀k,v.ownBlock=some k->base<=k:=by
 intro k hk;obtain⟨_,⟨rfl,_⟩|⟨g,cap,cur,rfl,hg,_⟩⟩:=h
 ·cases hk
 ·cases hk;exact hg
theorem aU{w:World}{base base' size n:Nat}{e:TypeId}{v:Value}{xs:List Value}(h:w.ownsRow base e size v n xs)(hb:base'<=base):w.ownsRow base' e size v n xs:=by
 obtain⟨h1,h2⟩:=h;refine⟨h1,?_⟩;rcases h2 with h2 |⟨g,cap,cur,hv,hg,r⟩
 ·grind
 ·exact .inr ⟨g,cap,cur,hv,(by omega),r⟩
theorem aW{w w':World}{base size n:Nat}{e:TypeId}{v:Value}{xs:List Value}(h:w.ownsRow base e size v n xs)(hb:Below w.heap.size w w'):w'.ownsRow base e size v n xs:=by
 obtain⟨h1,h2⟩:=h;refine⟨h1,?_⟩;rcases h2 with h2 |⟨g,cap,cur,hv,hg,hh,r⟩
 ·grind
 ·have hlt:g<w.heap.size:=by
   grind
  exact .inr ⟨g,cap,cur,hv,hg,by grind [Below.block],r⟩
def Rd(w:World)(v:Value)(bs:List UInt8):Prop:=
 ∃a cap,v=.slice a bs.length cap/\bs.length<=cap/\cap<=maxLen/\(bs.length=0\/∃b off,a=some ⟨b,off,none⟩/\∀j(h:j<bs.length),w.cell? ⟨b,off+j,none⟩=some (bv bs[j]))
theorem Rd.drewN{w:World}{v:Value}{bs:List UInt8}(h:Rd w v bs)(n:Nat):Rd (w.drewN n) v bs:=h
theorem Rd.from{w:World}{a:Option Addr}{n cap k:Nat}{bs:List UInt8}(h:Rd w (.slice a n cap) bs)(hk:k<=bs.length) :
 (cap=k->Rd w (.slice a (n-k) 0) (bs.drop k))/\(Rd w (.slice (a.map (·.add k)) (n-k) (cap-k)) (bs.drop k)):=by
 obtain⟨a',cap',he,hlc,hcm,hc⟩:=h;simp only[Value.slice.injEq]at he;obtain⟨rfl,rfl,rfl⟩:=he;have hl:(bs.drop k).length=bs.length-k:=(by grind);constructor
 ·rintro rfl;refine⟨a,0,by rw[hl],af,ai,(by omega)⟩
 ·refine⟨_,_,by rw[hl],af,af,?_⟩;grind [Addr.add]
theorem Rd.to{w:World}{a:Option Addr}{n cap k:Nat}{bs:List UInt8}(h:Rd w (.slice a n cap) bs)(hk:k<=bs.length):Rd w (.slice a k cap) (bs.take k):=by
 obtain⟨a',cap',he,hlc,hcm,hc⟩:=h;simp only[Value.slice.injEq]at he;obtain⟨rfl,rfl,rfl⟩:=he;have hl:(bs.take k).length=k:=by grind
 refine⟨a,cap,by rw[hl],af,hcm,?_⟩;grind
theorem Rd.sub{w:World}{a:Option Addr}{n cap i k:Nat}{bs:List UInt8}(h:Rd w (.slice a n cap) bs)(hk:i+k<=bs.length):Rd w (.slice (a.map (·.add i)) k (cap-i)) ((bs.drop i).take k):=by
 have h1:=(h.from (k:=i) af).2;exact h1.to (by grind)
theorem Rd.kept{w w':World}{v:Value}{bs:List UInt8}(h:Rd w v bs)(hk:∀b o x,w.cell? ⟨b,o,none⟩=some x->w'.cell? ⟨b,o,none⟩=some x):Rd w' v bs:=by
 obtain⟨a,cap,he,hlc,hcm,hc⟩:=h;refine⟨a,cap,he,hlc,hcm,?_⟩;grind
theorem Rd.below{w w':World}{v:Value}{bs:List UInt8}(h:Rd w v bs)(hb:Below w.heap.size w w'):Rd w' v bs:=
 h.kept fun b o x hx=>by rw[hb.cell (World.block_lt_of_cell? _ _ hx)];exact hx
theorem bI(b o j:Nat):(⟨b,o,none⟩:Addr).add j=⟨b,o+j,none⟩:=by grind [Addr.add]
theorem Rd.news{w w':World}{ad:Addr}{n cap:Nat}{bs:List UInt8}(h:Rd w (.slice (some ad) n cap) bs)(hk:∀b o x,w.cell? ⟨b,o,none⟩=some x->w'.cell? ⟨b,o,none⟩=some x) :
 ∀j u,(bs.map bv)[j]? = some u->w'.cell? (ad.add j)=some u:=by
 obtain⟨a,cap,he,_,_,hc⟩:=h;grind [bI]
def eZ:List UInt8->Nat
 | []=>0
 |b::bs=>b.toNat+256*eZ bs
theorem MJ(bs:List UInt8):eZ bs<256^bs.length:=by
 induction bs with
 |nil=>simp[eZ]
 |cons b bs ih=>
   grind [UInt8.toNat_lt,eZ]
theorem De(bs:List UInt8)(b:UInt8):eZ (bs++[b])=eZ bs+b.toNat*256^bs.length:=by
 induction bs with
 |nil=>simp[eZ]
 |cons c bs ih=>
   grind [eZ]
theorem Vh(bs:List UInt8)(b:UInt8):eZ bs ||| b.toNat*256^bs.length=eZ (bs++[b]):=by
 have h:=Nat.shiftLeft_add_eq_or_of_lt (i:=8*bs.length) (a:=b.toNat) (b:=eZ bs) (by grind [Nat.pow_mul,MJ]);grind [Nat.shiftLeft_eq,Nat.pow_mul,De]
theorem ji(x k:Nat):eZ (le x k)=x%256^k:=by
 induction k with
 |zero=>grind [le,eZ]
 |succ k ih=>
   have h:=Nat.mod_mul (x:=x) (a:=256^k) (b:=256);grind [le,De,b9,UInt8.toNat_ofNat']
theorem eo(n:Int)(ahK:0<=n)(ahL:n<2^32):IntKind.u32.wrap n=n:=by grind [IntKind.wrap_u32]
theorem fW(n:Int)(ahK:0<=n)(ahL:n<2^64):IntKind.u64.wrap n=n:=by
 grind [IntKind.wrap,IntKind.bits,IntKind.signed]
theorem lj(k:IntKind)(j:Nat)(hj:j<=k.bits)(hk:∀n:Int,0<=n->n<2^j->k.wrap n=n)(a b:Nat)(ha:a<2^j)(hb:b<2^j) :
 bits .xor k a b=((a ^^^ b:Nat):Int):=by
 have hp:2^j<=2^k.bits:=Nat.pow_le_pow_right ag hj;have ha':a%2^k.bits=a:=Nat.mod_eq_of_lt af;have hb':b%2^k.bits=b:=Nat.mod_eq_of_lt af;have cast:∀n:Nat,n<2^j->((n:Nat):Int)<2^j:=(by grind);grind [bits,Nat.xor_lt_two_pow]
theorem Gs(b k:Nat)(hb:b<256)(n:Nat)(hk:k<n):b*256^k<256^n:=by
 have h1:(256:Nat)^(k+1)<=256^n:=Nat.pow_le_pow_right ag hk;have h2:b*256^k<256*256^k:=Nat.mul_lt_mul_of_pos_right hb (by grind);omega
theorem tR(bs:List UInt8)(k n:Nat)(hk:k<=n):eZ (bs.take k)<256^n:=
 Nat.lt_of_lt_of_le (MJ _) (Nat.pow_le_pow_right ag (by grind))
theorem Df(bs:List UInt8)(k:Nat)(hk:k<bs.length):eZ (bs.take k) ||| bs[k].toNat*256^k=eZ (bs.take (k+1)):=by
 have h:=Vh (bs.take k) bs[k];grind [List.take_succ_eq_append_getElem]
theorem ahM(bs:List UInt8)(k:Nat)(hk:k<bs.length)(h4:k<4) :
 bits BinOp.or IntKind.u32 (eZ (bs.take k)) ((bs[k].toNat:Int)%4294967296*2^(8*k)%4294967296)=(eZ (bs.take (k+1)):Int):=by
 have hb:bs[k].toNat<256:=bs[k].toNat_lt;have hf:=Gs bs[k].toNat k hb 4 h4;have e1:((bs[k].toNat:Int)%4294967296*2^(8*k)%4294967296)=((bs[k].toNat*256^k:Nat):Int):=by
  grind [Int.pow_mul]
 rw[e1,(bits_nat .u32 32 ag eo _ _ (tR bs k 4 af) hf).2,Df bs k hk]
theorem ahN(bs:List UInt8)(k:Nat)(hk:k<bs.length)(h8:k<8) :
 bits BinOp.or IntKind.u64 (eZ (bs.take k)) ((bs[k].toNat:Int)%18446744073709551616*2^(8*k)%18446744073709551616)=(eZ (bs.take (k+1)):Int):=by
 have hb:bs[k].toNat<256:=bs[k].toNat_lt;have hf:=Gs bs[k].toNat k hb 8 h8;have e1:((bs[k].toNat:Int)%18446744073709551616*2^(8*k)%18446744073709551616)=((bs[k].toNat*256^k:Nat):Int):=by
  grind [Int.pow_mul]
 rw[e1,(bits_nat .u64 64 ag fW _ _ (tR bs k 8 af) hf).2,Df bs k hk]
theorem ll:(prog.info? 5).map (fun i=>(i.zero,i.size,i.bytes))=some (some (.int .u8 0),1,1):=by kernel_rfl
def MK(base n:Nat)(w:World)(xs:List Value)(e:Ending)(w':World):Prop:=
 ∃v',e=.returned v'/\w'.ownsRow base 5 1 v' n xs/\Below base w w'
theorem lI(base n:Nat)(v:Value)(bs:List UInt8)(x size:Nat)(w:World)(hs:size<=4)(hn:n<=1000000)(hb:base<=w.heap.size)(hown:w.ownsRow base 5 1 v n (bs.map bv)) :
 Calls prog 118 #[v,.int .u32 x,.int .i64 size] w (MK base (n+size) w ((bs++le x size).map bv)):=by
 obtain⟨i0,hi,hz0,hz1,hz2⟩:=info_parts ll;go_enter func118,ntmps118;go_wp2;go_loopw [0,9] (fun v i wr=>∃k:Nat,k<=size/\i=.int .i64 k/\wr.ownsRow base 5 1 v (n+k) ((bs++le x k).map bv)/\Below base w wr) (fun _ i _=>size-(intOf i).toNat)
 case atStart=>grind [le,Below.refl]
 case round=>
  obtain⟨k,hk,rfl,ho,hB⟩:=hrel;by_cases hlt:k<size
  ·go_wp2_with (at_builtin;refine wpList_append_own _ rfl _ _ 39 rfl base 5 i0 (.int .u8 0) 1 1 Tryz.underlying39 hi hz0 hz1 hz2 rfl ag _ _ _ rfl (ho.alloc _) ⟨wr.heap.size,0,none⟩ 1 1 [bv (UInt8.ofNat (x/256^k))] rfl rfl ?c1 ?c2 ?c3 ?c4 ?c5 ?_);case c1=>grind [Gr,cell_one_new]
   case c2=>simp[iO]
   case c3=>grind [maxLen]
   case c4=>omega
   case c5=>have:=hB.size;simp;omega
   intro v' w1 hown1 hgr _;have rT :=ae ((hB.alloc (by have:=hB.size;omega) _).grown hgr (by have:=hB.size;simp;omega) (aI ho));have lp:Hid (w1.ownsRow base 5 1 v' (n+(k+1)) ((bs++le x (k+1)).map bv)):=ae (by grind [le]);clear hown1 hgr ho hB;go_wp2;grind [Hid.out,intOf]
  ·go_wp2_with fail;obtain rfl:k=size:=by omega
   go_ret;exact⟨_,rfl,ho,hB⟩
theorem vR(base n:Nat)(v:Value)(bs:List UInt8)(x size:Nat)(w:World)(hs:size<=8)(hn:n<=1000000)(hb:base<=w.heap.size)(hown:w.ownsRow base 5 1 v n (bs.map bv)) :
 Calls prog 256 #[v,.int .u64 x,.int .i64 size] w (MK base (n+size) w ((bs++le x size).map bv)):=by
 obtain⟨i0,hi,hz0,hz1,hz2⟩:=info_parts ll;go_enter func256,ntmps256;go_wp2;go_loopw [0,9] (fun v i wr=>∃k:Nat,k<=size/\i=.int .i64 k/\wr.ownsRow base 5 1 v (n+k) ((bs++le x k).map bv)/\Below base w wr) (fun _ i _=>size-(intOf i).toNat)
 case atStart=>grind [le,Below.refl]
 case round=>
  obtain⟨k,hk,rfl,ho,hB⟩:=hrel;by_cases hlt:k<size
  ·go_wp2_with (at_builtin;refine wpList_append_own _ rfl _ _ 39 rfl base 5 i0 (.int .u8 0) 1 1 Tryz.underlying39 hi hz0 hz1 hz2 rfl ag _ _ _ rfl (ho.alloc _) ⟨wr.heap.size,0,none⟩ 1 1 [bv (UInt8.ofNat (x/256^k))] rfl rfl ?c1 ?c2 ?c3 ?c4 ?c5 ?_);case c1=>grind [Gr,cell_one_new]
   case c2=>simp[iO]
   case c3=>grind [maxLen]
   case c4=>omega
   case c5=>have:=hB.size;simp;omega
   intro v' w1 hown1 hgr _;have rT :=ae ((hB.alloc (by have:=hB.size;omega) _).grown hgr (by have:=hB.size;simp;omega) (aI ho));have lp:Hid (w1.ownsRow base 5 1 v' (n+(k+1)) ((bs++le x (k+1)).map bv)):=ae (by grind [le]);clear hown1 hgr ho hB;go_wp2;grind [Hid.out,intOf]
  ·go_wp2_with fail;obtain rfl:k=size:=by omega
   go_ret;exact⟨_,rfl,ho,hB⟩
def vS(r l g:Nat):List UInt8:=le r 4++le l 4++le g 4
def vT(t h w m:Nat):List UInt8:=le t 4++le h 4++le w 8++le m 4
theorem ownsRow_nil(w:World)(base:Nat)(e:TypeId):w.ownsRow base e 1 (.slice none 0 0) 0 []:=⟨rfl,.inl ⟨rfl,rfl⟩⟩
def jk(w:World)(bs:List UInt8)(e:Ending)(w':World):Prop:=
 ∃v,e=.returned v/\w'.ownsRow w.heap.size 5 1 v bs.length (bs.map bv)/\Below w.heap.size w w'
theorem zJ{w w':World}{c0 c1 c2:Value}{t:TypeId}(h:Below (w.heap.size+1) (w.alloc (.cells #[c0,c1,c2] t)).drew w') :
 w'.cell? ⟨w.heap.size,0,none⟩=some c0/\w'.cell? ⟨w.heap.size,1,none⟩=some c1/\w'.cell? ⟨w.heap.size,2,none⟩=some c2:=
 ⟨by rw[h.cell ai];simp,by rw[h.cell ai];simp,by rw[h.cell ai];simp⟩
theorem Qz(r l g:Nat)(w:World) :
 Calls prog 78 #[.agg #[.int .u32 r,.int .u32 l,.int .u32 g]] w (jk w (vS r l g)):=by
 go_enter func78,ntmps78;go_wp2;go_region_held3 (fun w'=>w'.cell? ⟨w.heap.size,0,none⟩=some (.int .u32 r)/\w'.cell? ⟨w.heap.size,1,none⟩=some (.int .u32 l)/\w'.cell? ⟨w.heap.size,2,none⟩=some (.int .u32 g)) (go_keep)
  (first
    | (go_at_call 118;refine(lI (w.heap.size+1) 8 _ (le r 4++le l 4) g 4 _ af af (by have:=hb2.size;simp_all) kD).mono ?_;rintro e w3⟨v3,rfl,iW,hb3⟩;replace hb3:=hb2.trans hb3;have q3:=(zJ hb3))
    | (go_at_call 118;refine(lI (w.heap.size+1) 4 _ (le r 4) l 4 _ af af (by have:=hb1.size;simp_all) lp).mono ?_;rintro e w2⟨v2,rfl,kD,hb2⟩;replace hb2:=hb1.trans hb2;have q2:=(zJ hb2))
    | (go_at_call 118;refine(lI (w.heap.size+1) 0 _ [] r 4 _ af af ai (ownsRow_nil _ _ _)).mono ?_;rintro e w1⟨v1,rfl,lp,hb1⟩;have q1:=(zJ hb1)))
 go_wp2;go_ret;exact⟨v3,rfl,by grind [vS,b9,aU],((ak.alloc af _).drew).trans (hb3.mono af)⟩
theorem iX{w w':World}{c0 c1 c2 c3:Value}{t:TypeId}(h:Below (w.heap.size+1) (w.alloc (.cells #[c0,c1,c2,c3] t)).drew w') :
 w'.cell? ⟨w.heap.size,0,none⟩=some c0/\w'.cell? ⟨w.heap.size,1,none⟩=some c1/\w'.cell? ⟨w.heap.size,2,none⟩=some c2/\w'.cell? ⟨w.heap.size,3,none⟩=some c3:=
 ⟨by rw[h.cell ai];simp,by rw[h.cell ai];simp,by rw[h.cell ai];simp,by rw[h.cell ai];simp⟩
theorem QA(t h x m:Nat)(w:World) :
 Calls prog 208 #[.agg #[.int .u32 t,.int .u32 h,.int .u64 x,.int .u32 m]] w (jk w (vT t h x m)):=by
 go_enter func208,ntmps208;go_wp2;go_region_held3 (fun w'=>w'.cell? ⟨w.heap.size,0,none⟩=some (.int .u32 t)/\w'.cell? ⟨w.heap.size,1,none⟩=some (.int .u32 h)/\w'.cell? ⟨w.heap.size,2,none⟩=some (.int .u64 x)/\w'.cell? ⟨w.heap.size,3,none⟩=some (.int .u32 m)) (go_keep)
  (first
    | (go_at_call 118;refine(lI (w.heap.size+1) 4 _ (le t 4) h 4 _ af af (by have:=hb1.size;simp_all) lp).mono ?_;rintro e w2⟨v2,rfl,kD,hb2⟩;replace hb2:=hb1.trans hb2;have q2:=(iX hb2))
    | (go_at_call 118;refine(lI (w.heap.size+1) 0 _ [] t 4 _ af af ai (ownsRow_nil _ _ _)).mono ?_;rintro e w1⟨v1,rfl,lp,hb1⟩;have q1:=(iX hb1)))
 clear q1;have QB:Below (w.heap.size+1) (w.alloc (.cells #[.int .u32 t,.int .u32 h,.int .u64 x,.int .u32 m] 64)).drew w2.drew:=hb2.drew;have Za:w2.drew.ownsRow (w.heap.size+1) 5 1 v2 (4+4) ((le t 4++le h 4).map bv):=kD;go_wp2;go_region_held3 (fun w'=>w'.cell? ⟨w.heap.size,0,none⟩=some (.int .u32 t)/\w'.cell? ⟨w.heap.size,1,none⟩=some (.int .u32 h)/\w'.cell? ⟨w.heap.size,2,none⟩=some (.int .u64 x)/\w'.cell? ⟨w.heap.size,3,none⟩=some (.int .u32 m)) (go_keep)
  (first
    | (go_at_call 118;refine(lI (w.heap.size+1) 16 _ (le t 4++le h 4++le x 8) m 4 _ af af (by have:=hb3.size;simp_all) iW).mono ?_;rintro e w4⟨v4,rfl,Em,hb4⟩;replace hb4:=hb3.trans hb4;have q4:=(iX hb4))
    | (go_at_call 256;refine(vR (w.heap.size+1) 8 _ (le t 4++le h 4) x 8 _ af af (by have:=hb2.size;simp_all) Za).mono ?_;rintro e w3⟨v3,rfl,iW,hb3⟩;replace hb3:=QB.trans hb3;have q3:=(iX hb3)))
 go_wp2;go_ret;exact⟨v4,rfl,by grind [vT,b9,aU],((ak.alloc af _).drew).trans (hb4.mono af)⟩
def Gt(q:IntKind)(x:Nat)(v:Value)(bs:List UInt8)(size:Nat)(w:World)(e:Ending)(w':World):Prop:=
 ∃rest n,e=.returned (.tuple #[.int q x,rest])/\(∀W,Rd W v bs->Rd W rest (bs.drop size))/\w'=w.drewN n
theorem jR(v:Value)(bs:List UInt8)(size:Nat)(w:World)(hs:size<=4)(hl:size<=bs.length)(hv:Rd w v bs) :
 Calls prog 91 #[v,.int .i64 size] w (Gt .u32 (eZ (bs.take size)) v bs size w):=by
 obtain⟨a,cap,rfl,hlc,hcm,hc⟩:=hv;unfold maxLen at hcm;go_enter func91,ntmps91;go_wp2;go_loop [4,8] (fun x i=>∃k:Nat,k<=size/\i=.int .i64 k/\x=.int .u32 (eZ (bs.take k))) (fun _ i=>size-(intOf i).toNat)
 case atStart=>exact⟨0,Nat.zero_le _,rfl,rfl⟩
 case round=>
  obtain⟨k,hk,rfl,rfl⟩:=hrel;by_cases hlt:k<size
  ·obtain hc |⟨b,off,rfl,hc⟩:=hc
   ·omega
   have hcell:=hc k af;have hor:=ae (ahM bs k af af);unfold bv at hcell;clear hc;go_wp2_with fail;grind [Hid.out,intOf]
  ·obtain rfl:k=size:=by omega
   clear hc;go_wp2_with fail;go_quiet (fail)
   go_wp2
   ·go_ret2;exact⟨_,_,rfl,fun W hW=>(hW.from hl).1 rfl,rfl⟩
   ·go_ret2;exact⟨_,_,rfl,fun W hW=>(hW.from hl).2,rfl⟩
theorem sU(v:Value)(bs:List UInt8)(size:Nat)(w:World)(hs:size<=8)(hl:size<=bs.length)(hv:Rd w v bs) :
 Calls prog 104 #[v,.int .i64 size] w (Gt .u64 (eZ (bs.take size)) v bs size w):=by
 obtain⟨a,cap,rfl,hlc,hcm,hc⟩:=hv;unfold maxLen at hcm;go_enter func104,ntmps104;go_wp2;go_loop [4,8] (fun x i=>∃k:Nat,k<=size/\i=.int .i64 k/\x=.int .u64 (eZ (bs.take k))) (fun _ i=>size-(intOf i).toNat)
 case atStart=>exact⟨0,Nat.zero_le _,rfl,rfl⟩
 case round=>
  obtain⟨k,hk,rfl,rfl⟩:=hrel;by_cases hlt:k<size
  ·obtain hc |⟨b,off,rfl,hc⟩:=hc
   ·omega
   have hcell:=hc k af;have hor:=ae (ahN bs k af af);unfold bv at hcell;clear hc;go_wp2_with fail;grind [IntKind.wrap_u64,Hid.out,intOf]
  ·obtain rfl:k=size:=by omega
   clear hc;go_wp2_with fail;go_quiet (fail)
   go_wp2
   ·go_ret2;exact⟨_,_,rfl,fun W hW=>(hW.from hl).1 rfl,rfl⟩
   ·go_ret2;exact⟨_,_,rfl,fun W hW=>(hW.from hl).2,rfl⟩
def ML(v:Value)(w:World)(e:Ending)(w':World):Prop:=e=.returned v/\Below w.heap.size w w'
theorem En(v:Value)(bs:List UInt8)(w:World)(hl:bs.length=12)(hv:Rd w v bs) :
 Calls prog 58 #[v] w (ML (.tuple #[.agg #[.int .u32 (eZ (bs.take 4)),.int .u32 (eZ ((bs.drop 4).take 4)),.int .u32 (eZ ((bs.drop 8).take 4))],.int .i64 0]) w):=by
 have hr:Hid (∀W,Below w.heap.size w W->Rd W v bs):=ae fun W h=>hv.below h;obtain⟨a,cap,he,hlc,hcm,hc⟩:=hv;rw[hl]at he hlc;subst he;unfold maxLen at hcm;clear hc;have Hl:=ae hl;clear hl;go_enter func58,ntmps58;go_wp2_with fail;refine(jR _ bs 4 _ af (by grind [Hid.out]) (hr.out _ (ak.alloc af _))).mono ?_;rintro e w'⟨v1,n1,rfl,JP,rfl⟩;have hV1:=ae JP;clear JP;go_wp2_with fail;have P3:(bs.drop 4).length=8:=by grind [Hid.out]
 refine(jR v1 (bs.drop 4) 4 _ af af (hV1.out _ (hr.out _ (below_drewN (ak.alloc af _) _)))).mono ?_;rintro e w'⟨v2,n2,rfl,hv2,rfl⟩;have hV2:Hid (∀W,Rd W (.slice a 12 cap) bs->Rd W v2 (bs.drop 8)):=ae fun W hW=>by have:=hv2 W (hV1.out W hW);simp_all
 clear hv2 hV1 P3;go_wp2_with fail;have hd8:(bs.drop 8).length=4:=by grind [Hid.out]
 refine(jR v2 (bs.drop 8) 4 _ af af (hV2.out _ (hr.out _ (below_drewN (ak.alloc af _) _)))).mono ?_;rintro e w'⟨v3,n3,rfl,hv3,rfl⟩;clear hv3 hV2 hd8;go_wp2_with fail;go_returns;exact⟨rfl,below_drewN (ak.alloc af _) _⟩
theorem Eo(v:Value)(bs:List UInt8)(w:World)(hl:bs.length=20)(hv:Rd w v bs) :
 Calls prog 68 #[v] w (ML (.tuple #[.agg #[.int .u32 (eZ (bs.take 4)),.int .u32 (eZ ((bs.drop 4).take 4)),.int .u64 (eZ ((bs.drop 8).take 8)),.int .u32 (eZ ((bs.drop 16).take 4))],.int .i64 0]) w):=by
 have hr:Hid (∀W,Below w.heap.size w W->Rd W v bs):=ae fun W h=>hv.below h;obtain⟨a,cap,he,hlc,hcm,hc⟩:=hv;rw[hl]at he hlc;subst he;unfold maxLen at hcm;clear hc;have Hl:=ae hl;clear hl;go_enter func68,ntmps68;go_wp2_with fail;refine(jR _ bs 4 _ af (by grind [Hid.out]) (hr.out _ (ak.alloc af _))).mono ?_;rintro e w'⟨v1,n1,rfl,JP,rfl⟩;have hV1:=ae JP;clear JP;go_wp2_with fail;have P3:(bs.drop 4).length=16:=by grind [Hid.out]
 refine(jR v1 (bs.drop 4) 4 _ af af (hV1.out _ (hr.out _ (below_drewN (ak.alloc af _) _)))).mono ?_;rintro e w'⟨v2,n2,rfl,hv2,rfl⟩;have hV2:Hid (∀W,Rd W (.slice a 20 cap) bs->Rd W v2 (bs.drop 8)):=ae fun W hW=>by have:=hv2 W (hV1.out W hW);simp_all
 clear hv2 hV1 P3;go_wp2_with fail;have hd8:(bs.drop 8).length=12:=by grind [Hid.out]
 refine(sU v2 (bs.drop 8) 8 _ af af (hV2.out _ (hr.out _ (below_drewN (ak.alloc af _) _)))).mono ?_;rintro e w'⟨v3,n3,rfl,hv3,rfl⟩;have hV3:Hid (∀W,Rd W (.slice a 20 cap) bs->Rd W v3 (bs.drop 16)):=ae fun W hW=>by have:=hv3 W (hV2.out W hW);simp_all
 clear hv3 hV2 hd8;go_wp2_with fail;have ahP:(bs.drop 16).length=4:=by grind [Hid.out]
 refine(jR v3 (bs.drop 16) 4 _ af af (hV3.out _ (hr.out _ (below_drewN (ak.alloc af _) _)))).mono ?_;rintro e w'⟨v4,n4,rfl,hv4,rfl⟩;clear hv4 hV3 ahP;go_wp2_with fail;go_returns;exact⟨rfl,below_drewN (ak.alloc af _) _⟩
def zq(x:Nat):Nat:=(x/2) ^^^ (2197175160*(x%2))
def tS:Nat->Nat->Nat
 |0,x=>x
 |k+1,x=>zq (tS k x)
def pB(i:Nat):Nat:=tS 8 i
theorem Kh(x:Nat)(h:x<4294967296):zq x<4294967296:=by
 unfold zq;have h1:x/2<2^32:=by omega
 have h2:2197175160*(x%2)<2^32:=by omega
 exact Nat.xor_lt_two_pow h1 h2
theorem qx(k x:Nat)(h:x<4294967296):tS k x<4294967296:=by
 induction k with
 |zero=>exact h
 |succ k ih=>exact Kh _ ih
theorem NV(x:Nat)(h:x<4294967296) :
 bits BinOp.xor IntKind.u32 ((x:Int)/2) (2197175160*bits BinOp.and IntKind.u32 x 1%4294967296)=(zq x:Int):=by
 have e0:=(bits_nat .u32 32 ag eo x 1 h ag).1;rw[Nat.and_one_is_mod]at e0;have e1:bits BinOp.and IntKind.u32 (x:Int) 1=((x%2:Nat):Int):=e0;have e2:(2197175160*((x%2:Nat):Int)%4294967296)=((2197175160*(x%2):Nat):Int):=by omega
 have e3:(x:Int)/2=((x/2:Nat):Int):=by omega
 rw[e1,e2,e3,lj .u32 32 ag eo _ _ af af];rfl
def Dg(k i:Nat):Value:=if i<k then .int .u32 (pB i) else .int .u32 0
def cx(k:Nat):Array Value:=((List.range 256).map (Dg k)).toArray
theorem B9(k:Nat):(cx k).size=256:=by simp[cx]
theorem tT(k i:Nat)(h:i<256):(cx k)[i]? = some (Dg k i):=by simp[cx,h]
theorem Ep(k:Nat):(cx k).setIfInBounds k (.int .u32 (pB k))=cx (k+1):=by
 apply Array.ext
 ·simp[cx]
 ·intro i h1 h2;simp only[Array.size_setIfInBounds,B9]at h1;rw[Array.getElem_setIfInBounds]
  ·simp only[cx,List.getElem_toArray,List.getElem_map,List.getElem_range,Dg];grind
  grind
theorem tU(k:Nat):(cx k).all (·.oneCell')=true:=by
 rw[Array.all_eq_true];intro i h;simp only[cx,List.getElem_toArray,List.getElem_map,Dg];split<;>rfl
theorem Ca:Tryz.zeroCells383=cx 0:=by kernel_rfl
theorem NW(w:World):Calls prog 304 #[] w fun e w'=>e=.returned (.agg (cx 256))/\Below w.heap.size w w':=by
 go_enter func304,ntmps304;go_wp2_with fail;rw[Ca];go_loopw [3] (fun i wr=>∃k:Nat,k<=256/\i=.int .i64 k/\wr=w.alloc (.cells (cx k) 383)) (fun i _=>256-(intOf i).toNat)
 case atStart=>grind
 case round=>
  obtain⟨k,hk,rfl,rfl⟩:=hrel;by_cases hlt:k<256
  ·have Zb:Hid (k<4294967296):=ae af;go_wp2_with fail;go_loop [2,8] (fun x j=>∃m:Nat,m<=8/\j=.int .i64 m/\x=.int .u32 (tS m k)) (fun _ j=>8-(intOf j).toNat)
   case atStart=>exact⟨0,af,rfl,rfl⟩
   case round=>
    obtain⟨m,hm,rfl,rfl⟩:=hrel;by_cases Cb:m<8
    ·have hx:=ae (NV _ (qx m k Zb.out));go_wp2_with fail;go_round
     case rel=>exact⟨m+1,af,by go_num,by rw[hx.out];rfl⟩
     grind [intOf]
    ·obtain rfl:m=8:=by omega
     have hg:(cx k)[k]? = some (.int .u32 0):=by grind [tT,Dg]
     go_wp2_with fail;go_roundw
     case rel=>exact⟨k+1,af,by go_num,by rw[<- Ep k];rfl⟩
     grind [intOf]
  ·obtain rfl:k=256:=by omega
   have hz:(prog.info? 383).map (·.size)=some (cx 256).size:=by rfl
   have hh:(w.alloc (.cells (cx 256) 383)).heap[w.heap.size]? = some (.cells (cx 256) 383 (0,0)):=heap_alloc_new _ _;have Hz:=ae hz;have Hh:=ae hh;clear hz hh;go_wp2_with (first
    |refine wpList_load_row rfl 383 _ rfl w.heap.size rfl 383 (cx 256) (0,0) _ Hh.out Tryz.underlying383 rfl Hz.out ?_
    | (refine wpList_store_row rfl 383 _ _ rfl w.heap.size (cx 256) rfl rfl 383 (cx 256) Hh.out Hz.out rfl (tU 256) ?_;rw[World.setRow_alloc_new]))
   refine bodyPost_ret (results_cell_row rfl _ _ w.heap.size 383 (cx 256) (0,0) _ rfl Hh.out Tryz.underlying383 rfl Hz.out) rfl ?_;exact⟨rfl,ak.alloc af _⟩
def qy(x:Nat)(b:UInt8):Nat:=(x/256) ^^^ pB ((x%256) ^^^ b.toNat)
def ix(bs:List UInt8):Nat:=4294967295-bs.foldl qy 4294967295
theorem NY(x:Nat)(b:UInt8)(h:x<4294967296):qy x b<4294967296:=by
 have hb :=b.toNat_lt;have h1:x/256<2^32:=by omega
 have h3:x%256 ^^^ b.toNat<2^8:=Nat.xor_lt_two_pow af hb;have h2:pB ((x%256) ^^^ b.toNat)<2^32:=qx 8 _ af;exact Nat.xor_lt_two_pow h1 h2
theorem zK(bs:List UInt8)(x:Nat)(h:x<4294967296):bs.foldl qy x<4294967296:=by
 induction bs generalizing x with
 |nil=>exact h
 |cons b bs ih=>grind [NY]
theorem tV(bs:List UInt8):ix bs<4294967296:=by grind [ix]
theorem Gu(x:Nat)(h:x<4294967296):bits BinOp.xor IntKind.u32 IntKind.u32.max (x:Int)=((4294967295-x:Nat):Int):=by
 have e:IntKind.u32.max=((4294967295:Nat):Int):=by decide
 have e2:(4294967295 ^^^ x:Nat)=4294967295-x:=by
  have h1:(~~~ (BitVec.ofNat 32 x)).toNat=2^32-1-x:=by grind
  have h2:(BitVec.allOnes 32 ^^^ BitVec.ofNat 32 x).toNat=4294967295 ^^^ x:=by grind
  rw[BitVec.allOnes_xor,h1]at h2;omega
 rw[e,lj .u32 32 ag eo _ _ ag h,e2]
theorem Ki(v:Value)(bs:List UInt8)(w:World)(hv:Rd w v bs) :
 Calls prog 289 #[.int .u32 0,v] w fun e w'=>e=.returned (.int .u32 (ix bs))/\Below w.heap.size w w':=by
 have hr:Hid (∀W,Below w.heap.size w W->Rd W v bs):=ae fun W h=>hv.below h;obtain⟨a,cap,rfl,hlc,hcm,hc⟩:=hv;clear hc;unfold maxLen at hcm;go_enter func289,ntmps289;go_wp2_with fail;refine(NW _).mono ?_;rintro e w1⟨rfl,hb1⟩;have hz:(prog.info? 383).map (·.size)=some (cx 256).size:=by rfl
 have Hz:=ae hz;clear hz;have rT:Hid (Below w.heap.size w (w1.alloc (.cells (cx 256) 383))):=ae (hb1.alloc hb1.size _);have hR:=ae (hr.out _ rT.out);clear hb1 hr;go_wp2_with (first
  | (refine wpList_store_row rfl 383 _ _ rfl w1.heap.size (cx 256) rfl rfl 383 Tryz.zeroCells383 (heap_alloc_new _ _) Hz.out rfl (tU 256) ?_;rw[World.setRow_alloc_new]))
 go_loop [6,13] (fun x i=>∃k:Nat,k<=bs.length/\i=.int .i64 k/\x=.int .u32 (((bs.take k).foldl qy 4294967295:Nat):Int)) (fun _ i=>bs.length-(intOf i).toNat)
 case atStart=>grind [Gu]
 case round=>
  obtain⟨k,hk,rfl,rfl⟩:=hrel;by_cases hlt:k<bs.length
  ·obtain⟨a',cap',he,_,_,hc⟩:=hR.out;simp only[Value.slice.injEq]at he;obtain⟨rfl,_,rfl⟩:=he;obtain hc |⟨b,off,rfl,hc⟩:=hc
   ·omega
   have hcell:=hc k hlt;unfold bv at hcell;have hX:=ae (zK (bs.take k) 4294967295 af);have hstep:Hid ((bs.take (k+1)).foldl qy 4294967295=((bs.take k).foldl qy 4294967295)/256 ^^^ pB (((bs.take k).foldl qy 4294967295)%256 ^^^ bs[k].toNat)):=ae (by rw[List.take_succ_eq_append_getElem hlt,List.foldl_append];rfl);clear hc;generalize (bs.take k).foldl qy 4294967295=X at *;have P4:bs[k].toNat<256:=bs[k].toNat_lt;generalize bs[k].toNat=B at *;have hY:X%256 ^^^ B<256:=Nat.xor_lt_two_pow (n:=8) af af;have hx8:bits BinOp.xor IntKind.u8 ((X:Int)%256) B=((X%256 ^^^ B:Nat):Int):=by
    rw[show(X:Int)%256=((X%256:Nat):Int) by omega,lj .u8 8 ag wraps_u8 _ _ af af]
   have hT:pB (X%256 ^^^ B)<4294967296:=qx 8 (X%256 ^^^ B) af;have hg:(cx 256)[X%256 ^^^ B]? = some (.int .u32 (pB (X%256 ^^^ B))):=by grind [tT,Dg]
   have aoz:Hid (bits BinOp.xor IntKind.u32 ((X:Int)/256) (pB (X%256 ^^^ B))=((X/256 ^^^ pB (X%256 ^^^ B):Nat):Int)):=ae (by
    have:=hX.out;rw[show(X:Int)/256=((X/256:Nat):Int) by omega,lj .u32 32 ag eo _ _ af hT])
   clear hT;generalize X%256 ^^^ B=Y at *;go_wp2_with fail;grind [Hid.out,intOf]
  ·obtain rfl:k=bs.length:=by omega
   have hX:=ae (zK bs 4294967295 af);rw[List.take_length];go_wp2_with fail;go_ret;refine⟨?_,rT.out⟩;unfold ix;rw[<- Gu _ hX.out];rfl
theorem Er(v:Value)(bs:List UInt8)(w:World)(hv:Rd w v bs) :
 Calls prog 257 #[v] w fun e w'=>e=.returned (.int .u32 (ix bs))/\Below w.heap.size w w':=by
 go_enter func257,ntmps257;go_wp2_with fail;refine(Ki v bs _ hv).mono ?_;rintro e w1⟨rfl,hb1⟩;go_wp2_with fail;go_ret;simp_all
theorem lS(z:Value)(k:Nat):(Builtin.zeroCells #[z] k).toList=List.replicate k z:=by
 apply List.ext_getElem
 ·simp[Builtin.zeroCells]
 grind [Builtin.zeroCells]
theorem ownsRow_made{w0:World}{base n cap:Nat}{e:TypeId}{xs:List Value}{rest:Array Value}(hx:xs.length=n)(hb:base<=w0.heap.size)(hc:n<=cap)(hm:cap<=maxLen)(hr:rest.size=cap-n) :
 (w0.alloc (.cells (xs.toArray++rest) e)).ownsRow base e 1 (.slice (some ⟨w0.heap.size,0,none⟩) n cap) n xs:=
 ⟨af,.inr ⟨w0.heap.size,cap,_,rfl,hb,heap_alloc_new _ _,hc,hm,by grind,by grind⟩⟩
theorem vU{P:Program}(w:World)(base:Nat)(t tn ty e:TypeId)(i:TypeInfo)(z:Value)(kn:IntKind)(ht:P.underlying t=some (.slice e))(zr:P.underlying tn=some (.int kn))(hi:P.info? e=some i)(hz:i.zero=some z)(hsize:i.size=1)(hby:i.bytes=1)(hzs:z.cells=#[z])(hz1:z.oneCell'=true)(v:Value)(n:Nat)(xs:List Value)(hown:w.ownsRow base e 1 v n xs)(k:Nat)(hk:n+k<=1073741824)(hbase:base<=w.heap.size) :
 ∃v' w',(Builtin.append_ #[t,tn] ty #[v,.int .i64 k]).run P w=.ok v' w'/\w'.ownsRow base e 1 v' (n+k) (xs++List.replicate k z)/\w.grownBy w' v.ownBlock /\
  (v'=.slice none 0 0↔v=.slice none 0 0/\k=0)/\(v'.ownBlock=v.ownBlock\/v'.ownBlock=some w.heap.size):=by
 have hw:IntKind.i64.wrap (k:Int)=k:=by grind [IntKind.wrap_i64]
 have hw0:IntKind.i64.wrap 0=0:=by decide
 have ahR:¬((k:Int)<0):=by omega
 have ahS:¬(281474976710656<(k:Int)):=by omega
 have El:xs.length=n:=by have:=hown.1;omega
 have hgc :=fun old=>grownCap_le_maxLen w (n+k) old e (by grind [maxLen]);have yR :=fun old=>grownCap_ge w (n+k) old e;rcases hown.2 with⟨rfl,h0⟩|⟨g,cap,cur,rfl,hbg,hg,Zc,hcm,hcs,QC⟩
 ·obtain rfl:n=0:=h0;obtain rfl:xs=[]:=(by grind);by_cases Ka:k=0
  ·subst Ka;refine⟨.slice none 0 0,w,?_,World.ownsRow_nil w base e 1,⟨rfl,rfl,rfl,Nat.le_refl _,fun _ _ _=>rfl⟩,ai,.inl rfl⟩;simp[Builtin.append_,run_underlying ht,run_underlying zr,sizeOf,typeInfo,hi,asInt,asIntOf,hw0]
  ·have hr:=Lib.run_append_nil_zeros (P:=P) w t tn ty e i z .i64 kn ht zr hi hz k af af af (by grind);refine⟨_,_,hr,?_,⟨rfl,rfl,rfl,ai,fun j hj _=>heap_alloc_old w.drew _ hj⟩,by grind,.inr rfl⟩;have hz2:Builtin.zeroCells z.cells k=(List.replicate k z).toArray:=by grind [lS]
   rw[hz2];have:=ownsRow_made (w0:=w.drew) (base:=base) (n:=k) (cap:=grownCap w k 0 e) (e:=e) (xs:=List.replicate k z) (rest:=Builtin.zeroCells z.cells (grownCap w k 0 e-k)) ai hbase (by grind) (by grind) (by grind [size_zeroCells]);simp_all
 ·by_cases hroom:n+k<=cap
  ·have hzc:(Builtin.zeroCells z.cells k).toList=List.replicate k z:=by grind [lS]
   have hst:=run_storeCells_at (P:=P) g n e (List.replicate k z) 0 cur w hg (by grind) (by grind);simp only[Nat.add_zero,List.length_replicate]at hst;have lq:(⟨g,0,none⟩:Addr).add n=⟨g,n,none⟩:=by grind [bI]
   have hf:n+(List.replicate k z).length<=cur.size:=by grind
   refine⟨.slice (some ⟨g,0,none⟩) (n+k) cap,w.setRow g (cur.toList.take n++List.replicate k z++cur.toList.drop (n+k)).toArray,?_,⟨by grind,.inr ⟨g,cap,_,rfl,hbg,setRow_heap w g cur _ e _ hg,hroom,hcm,?_,?_⟩⟩,⟨rfl,rfl,rfl,ai,fun j _ hj=>setRow_other w g j _ (fun e=>hj (by simp[Value.ownBlock,e]))⟩,ai,.inl rfl⟩
   ·by_cases Ka:k=0
    ·subst Ka;simp only[List.replicate_zero,Nat.add_zero,List.append_nil,List.take_append_drop,Array.toArray_toList,setRow_self w g cur e (0,0) hg];have Kj:(storeCells ⟨g,n,none⟩ []).run P w=.ok () w:=rfl;simp[Builtin.append_,run_underlying ht,run_underlying zr,sizeOf,typeInfo,hi,asInt,asIntOf,hw0,hsize,Zc,lq,Kj]
    ·simp[Builtin.append_,run_underlying ht,run_underlying zr,sizeOf,typeInfo,zeroValue,hi,hz,asInt,asIntOf,hw,ahR,ahS,hsize,hby,hroom,lq,Ka,hzc,hst]
   ·grind
   grind
  ·have holds :=hown.cells (g:=g) rfl;have Cc:=run_firstCells_some (P:=P) w.drew i.size n ⟨g,0,none⟩ n cap xs (by grind) holds;have hr:=Lib.run_append_grow_zeros (P:=P) w t tn ty e i z .i64 kn ht zr hi hz (some ⟨g,0,none⟩) n cap xs Cc k af af af af (by grind) (growslice_fits af (by grind));refine⟨_,_,hr,?_,⟨rfl,rfl,rfl,ai,fun j hj _=>heap_alloc_old w.drew _ hj⟩,ai,.inr rfl⟩;have hz2:Builtin.zeroCells z.cells k=(List.replicate k z).toArray:=by grind [lS]
   rw[hz2];have:=ownsRow_made (w0:=w.drew) (base:=base) (n:=n+k) (cap:=grownCap w (n+k) cap e) (e:=e) (xs:=xs++List.replicate k z) (rest:=Builtin.zeroCells z.cells (grownCap w (n+k) cap e-(n+k))) (by grind) hbase (yR cap) (hgc cap) (by grind [size_zeroCells]);rw[show xs.toArray++(List.replicate k z).toArray=(xs++List.replicate k z).toArray by simp];exact this
theorem jS{P:Program}{w:World}{ops:Array Oper}{rest:List Oper}{o:Oper}{a:Act}{Q:Exit->Act->World->Prop}(hgd:o.guard=none)(s x:Operand)(t:TypeId)(ho:o.op=.call { callee:=.builtin .append,args:=#[s,x],argTypes:=#[t,t] })(base:Nat)(e:TypeId)(ht:P.underlying t=some (.slice e))(hi:(P.info? e).map (fun i=>(i.zero,i.size,i.bytes))=some (some (.int .u8 0),1,1))(v:Value)(n:Nat)(xs:List Value)(hs:a.eval s=v)(hown:w.ownsRow base e 1 v n xs)(vx:Value)(bs:List UInt8)(hx:a.eval x=vx)(hr:Rd w vx bs)(hl:n+bs.length<=1073741824)(hbase:base<=w.heap.size)(h:∀v' w',w'.ownsRow base e 1 v' (n+bs.length) (xs++bs.map bv)->w.grownBy w' v.ownBlock->(v'.ownBlock=v.ownBlock\/v'.ownBlock=some w.heap.size)->wpList P ops Q rest (a.put o.dst v') w') :
 wpList P ops Q (o::rest) a w:=by
 obtain⟨i0,hi,hz0,hz1,hz2⟩:=info_parts hi;refine wpList_plain hgd fun K hK=>?_;have hrun:∃v' w',(Builtin.append_ #[t,t] o.type #[v,vx]).run P w=.ok v' w'/\w'.ownsRow base e 1 v' (n+bs.length) (xs++bs.map bv)/\w.grownBy w' v.ownBlock/\(v'.ownBlock=v.ownBlock\/v'.ownBlock=some w.heap.size):=by
  obtain⟨ad,cap,rfl,hlc,hcm,hc⟩:=hr;cases ad with
  |none=>
    have h0:bs=[]:=by
     grind
    subst h0;refine⟨v,w,?_,by grind,⟨rfl,rfl,rfl,Nat.le_refl _,(by grind)⟩,.inl rfl⟩;rcases hown.2 with⟨rfl,h0⟩|⟨g,cp,cur,rfl,hbg,hg,Zc,aoC,hcs,QC⟩
    ·simp[Builtin.append_,run_underlying ht,sizeOf,typeInfo,hi,Builtin.lenOf,Builtin.firstCells]
    ·have Kj:∀ad,(storeCells ad []).run P w=.ok () w:=fun _=>rfl;simp[Builtin.append_,run_underlying ht,sizeOf,typeInfo,hi,Builtin.lenOf,Builtin.firstCells,Zc,Kj]
  |some ad=>
    have hnews:=Rd.news (w:=w) (w':=w) (ad:=ad) (n:=bs.length) (cap:=cap) (bs:=bs) ⟨some ad,cap,rfl,hlc,hcm,hc⟩ (fun _ _ _ h=>h);obtain⟨v',w',h1,h2,h3,h4,h5⟩:=run_append_own_at (P:=P) w base t o.type e i0 (.int .u8 0) 1 1 ht hi hz0 hz1 hz2 rfl ag v n xs hown ad bs.length cap (bs.map bv) ai hnews (by simp[iO]) (by grind [maxLen]) af hbase;grind
 obtain⟨v',w',h1,h2,h3,h4⟩:=hrun;unfold Oper.wp execOp;simp only[ho,resolve,invoke,builtin,Sem.run_bind,Sem.run_pure,Result.andThen_ok,List.map_toArray,List.map_cons,List.map_nil,hs,hx,h1];exact hK _ _ (h v' w' h2 h3 h4)
theorem kY{P:Program}{w:World}{ops:Array Oper}{rest:List Oper}{o:Oper}{a:Act}{Q:Exit->Act->World->Prop}(hgd:o.guard=none)(s x:Operand)(t tn:TypeId)(kn:IntKind)(ho:o.op=.call { callee:=.builtin .append,args:=#[s,x],argTypes:=#[t,tn] })(base:Nat)(e:TypeId)(ht:P.underlying t=some (.slice e))(zr:P.underlying tn=some (.int kn))(hi:(P.info? e).map (fun i=>(i.zero,i.size,i.bytes))=some (some (.int .u8 0),1,1))(v:Value)(n:Nat)(xs:List Value)(hs:a.eval s=v)(hown:w.ownsRow base e 1 v n xs)(k:Nat)(hx:a.eval x=.int .i64 k)(hl:n+k<=1073741824)(hbase:base<=w.heap.size)(h:∀v' w',w'.ownsRow base e 1 v' (n+k) (xs++(List.replicate k (0:UInt8)).map bv)->w.grownBy w' v.ownBlock->(v'.ownBlock=v.ownBlock\/v'.ownBlock=some w.heap.size)->wpList P ops Q rest (a.put o.dst v') w') :
 wpList P ops Q (o::rest) a w:=by
 obtain⟨i0,hi,hz0,hz1,hz2⟩:=info_parts hi;refine wpList_plain hgd fun K hK=>?_;obtain⟨v',w',h1,h2,h3,_,h4⟩:=vU (P:=P) w base t tn o.type e i0 (.int .u8 0) kn ht zr hi hz0 hz1 hz2 rfl rfl v n xs hown k hl hbase;rw[show List.replicate k (Value.int .u8 0)=(List.replicate k (0:UInt8)).map bv by simp[bv]]at h2;unfold Oper.wp execOp;simp only[ho,resolve,invoke,builtin,Sem.run_bind,Sem.run_pure,Result.andThen_ok,List.map_toArray,List.map_cons,List.map_nil,hs,hx,h1];exact hK _ _ (h v' w' h2 h3 h4)
theorem Es(w:World):(w.alloc (.cells #[] 5)).ownsRow w.heap.size 5 1 (.slice (some ⟨w.heap.size,0,none⟩) 0 0) 0 []:=
 ⟨rfl,.inr ⟨w.heap.size,0,#[],rfl,Nat.le_refl _,heap_alloc_new _ _,Nat.le_refl _,ai,rfl,rfl⟩⟩
theorem fX(v:Value)(bs:List UInt8)(w:World)(hv:Rd w v bs)(hl:bs.length<=140737488355328) :
 Calls prog 50 #[v] w (jk w bs):=by
 obtain⟨i0,hi,hz0,hz1,hz2⟩:=info_parts ll;obtain⟨a,cap,rfl,hlc,hcm,hc⟩:=hv;have Hl:=ae hl;have Hm:=ae hcm;have Hc:=ae hlc;clear hl hcm hlc;have hn:=fun(W:World)(a:Option Addr)(n c:Nat)=>Lib.run_eql_slice_nil (P:=prog) W 39 5 a n c 0 0 Tryz.underlying39;cases a with
 |none=>
   have h0:bs=[]:=by
    grind
   subst h0;clear hc;go_enter func50,ntmps50;go_wp2_with fail;go_ret;exact⟨_,rfl,ownsRow_nil _ _ _,Below.refl _ _⟩
 |some ad=>
   have HC:Hid (∀j u,(bs.map bv)[j]? = some u->(w.alloc (.cells #[] 5)).cell? (ad.add j)=some u):=ae fun j u hj=>by
    grind [Addr.add_mid,World.cell?_alloc_lt,World.block_lt_of_cell?]
   clear hc;go_enter func50,ntmps50;go_wp2_with (at_builtin;refine wpList_append_own _ rfl _ _ 39 rfl w.heap.size 5 i0 (.int .u8 0) 1 1 Tryz.underlying39 hi hz0 hz1 hz2 rfl ag _ _ _ rfl (Es w) ad bs.length cap (bs.map bv) rfl ?c1 HC.out ?c2 ?c3 ?c4 ?c5 ?_);case c1=>simp
   case c2=>simp[iO]
   case c3=>grind [Hid.out]
   case c4=>grind [Hid.out]
   case c5=>simp
   intro v' w1 hown1 hgr _;have rT:Hid (Below w.heap.size w w1):=ae ((ak.alloc af _).grown hgr ai (fun k hk=>by cases hk;simp));have lp:Hid (w1.ownsRow w.heap.size 5 1 v' bs.length (bs.map bv)):=ae af;clear hown1 hgr;go_wp2;go_ret;exact⟨v',rfl,lp.out,rT.out⟩
theorem zL(w:World):Calls prog 294 #[.int .i64 4] w fun e w'=>e=.returned (.bool true)/\Below w.heap.size w w':=by
 go_enter func294,ntmps294;go_wp2;go_rounds 4
 go_ret;exact⟨rfl,ak.alloc af _⟩
theorem zM(w:World):Calls prog 294 #[.int .i64 2] w fun e w'=>e=.returned (.bool true)/\Below w.heap.size w w':=by
 go_enter func294,ntmps294;go_wp2;go_rounds 3
 go_ret;exact⟨rfl,ak.alloc af _⟩
theorem zN(v:Value)(bs:List UInt8)(x:Nat)(w:World)(hv:Rd w v bs)(hl:bs.length<=1000000) :
 Calls prog 265 #[v,.int .u64 x,.int .i64 4] w (jk w (bs++le x 4)):=by
 go_enter func265,ntmps265;go_wp2_with fail;refine(fX v bs _ hv af).mono ?_;rintro e w1⟨v1,rfl,lp,hb1⟩;go_wp2_with fail;refine(zL _).mono ?_;rintro e w2⟨rfl,hb2⟩;have kD :=aW lp hb2;have zt:=hb1.trans (hb2.mono hb1.size);go_wp2_with fail;refine(vR w.heap.size bs.length v1 bs x 4 _ af af zt.size kD).mono ?_;rintro e w3⟨v3,rfl,iW,hb3⟩;go_wp2_with fail;go_ret;exact⟨v3,rfl,by grind [b9],zt.trans hb3⟩
theorem Gv(v:Value)(bs:List UInt8)(x:Nat)(w:World)(hv:Rd w v bs)(hl:bs.length<=1000000) :
 Calls prog 265 #[v,.int .u64 x,.int .i64 2] w (jk w (bs++le x 2)):=by
 go_enter func265,ntmps265;go_wp2_with fail;refine(fX v bs _ hv af).mono ?_;rintro e w1⟨v1,rfl,lp,hb1⟩;go_wp2_with fail;refine(zM _).mono ?_;rintro e w2⟨rfl,hb2⟩;have kD :=aW lp hb2;have zt:=hb1.trans (hb2.mono hb1.size);go_wp2_with fail;refine(vR w.heap.size bs.length v1 bs x 2 _ af af zt.size kD).mono ?_;rintro e w3⟨v3,rfl,iW,hb3⟩;go_wp2_with fail;go_ret;exact⟨v3,rfl,by grind [b9],zt.trans hb3⟩
theorem qA(v:Value)(bs:List UInt8)(k:Nat)(w:World)(hv:Rd w v bs)(hl:k+4<=bs.length)(hb:bs.length<=1000000) :
 Calls prog 278 #[v,.int .i64 k,.int .i64 4] w fun e w'=>e=.returned (.int .u64 (eZ ((bs.drop k).take 4)))/\Below w.heap.size w w':=by
 have hr:Hid (∀W,Below w.heap.size w W->Rd W v bs):=ae fun W h=>hv.below h;obtain⟨a,cap,rfl,hlc,hcm,hc⟩:=hv;clear hc;unfold maxLen at hcm;go_enter func278,ntmps278;go_wp2_with fail;go_in
 go_wp2_with fail;refine(zL _).mono ?_;rintro e w1⟨rfl,hb1⟩;go_wp2_with fail;refine(sU _ (bs.drop k) 4 _ af (by grind) ((hr.out _ hb1).from af).2).mono ?_;rintro e w2⟨v2,n2,rfl,_,rfl⟩;go_wp2_with fail;go_ret;exact⟨rfl,below_drewN hb1 _⟩
theorem xV(v:Value)(bs:List UInt8)(k:Nat)(w:World)(hv:Rd w v bs)(hl:k+2<=bs.length)(hb:bs.length<=1000000) :
 Calls prog 278 #[v,.int .i64 k,.int .i64 2] w fun e w'=>e=.returned (.int .u64 (eZ ((bs.drop k).take 2)))/\Below w.heap.size w w':=by
 have hr:Hid (∀W,Below w.heap.size w W->Rd W v bs):=ae fun W h=>hv.below h;obtain⟨a,cap,rfl,hlc,hcm,hc⟩:=hv;clear hc;unfold maxLen at hcm;go_enter func278,ntmps278;go_wp2_with fail;go_in
 go_wp2_with fail;refine(zM _).mono ?_;rintro e w1⟨rfl,hb1⟩;go_wp2_with fail;refine(sU _ (bs.drop k) 2 _ af (by grind) ((hr.out _ hb1).from af).2).mono ?_;rintro e w2⟨v2,n2,rfl,_,rfl⟩;go_wp2_with fail;go_ret;exact⟨rfl,below_drewN hb1 _⟩
def lJ(t n s z:Nat):List UInt8:=le t 4++le n 4++le s 2++le z 2
theorem fH{w:World}{base:Nat}{v:Value}{bs:List UInt8}(h:w.ownsRow base 5 1 v bs.length (bs.map bv)):Rd w v bs:=by
 obtain⟨h1,⟨rfl,h0⟩|⟨g,cap,cur,rfl,hg,hh,hn,hm,hs,hx⟩⟩:=h
 ·exact⟨none,0,by rw[h0],af,ai,.inl h0⟩
 ·refine⟨some ⟨g,0,none⟩,cap,rfl,hn,hm,.inr ⟨g,0,rfl,fun j hj=>?_⟩⟩;simp only[World.cell?,hh,Nat.zero_add];have h2:(cur.toList.take (bs.length*1))[j]? = (bs.map bv)[j]? := by rw[hx]
  grind
theorem QD(t n s z:Nat)(w:World) :
 Calls prog 264 #[.agg #[.int .u64 t,.int .u64 n,.int .u64 s,.int .u64 z]] w (jk w (lJ t n s z)):=by
 go_enter func264,ntmps264;go_wp2;go_region_held3 (fun w'=>w'.cell? ⟨w.heap.size,0,none⟩=some (.int .u64 t)/\w'.cell? ⟨w.heap.size,1,none⟩=some (.int .u64 n)/\w'.cell? ⟨w.heap.size,2,none⟩=some (.int .u64 s)/\w'.cell? ⟨w.heap.size,3,none⟩=some (.int .u64 z)) (go_keep)
  (first
    | (go_at_call 265;refine(zN v1 (le t 4) n _ (fH lp) (by grind [b9])).mono ?_;rintro e w2⟨v2,rfl,kD,hb2⟩;replace kD:=aU kD (by simpa using hb1.size);replace hb2:=hb1.trans (hb2.mono (by simpa using hb1.size));have q2:=(iX hb2))
    | (go_at_call 265;refine(zN (.slice none 0 0) [] t _ ⟨none,0,rfl,ai,ai,.inl rfl⟩ ai).mono ?_;rintro e w1⟨v1,rfl,lp,hb1⟩;simp only[World.size_drew,World.size_alloc]at hb1 lp;have q1:=(iX hb1)))
 clear q1;have QB:Below (w.heap.size+1) (w.alloc (.cells #[.int .u64 t,.int .u64 n,.int .u64 s,.int .u64 z] 344)).drew w2.drew:=hb2.drew;have Za:w2.drew.ownsRow (w.heap.size+1) 5 1 v2 (le t 4++le n 4).length ((le t 4++le n 4).map bv):=kD;go_wp2;go_region_held3 (fun w'=>w'.cell? ⟨w.heap.size,0,none⟩=some (.int .u64 t)/\w'.cell? ⟨w.heap.size,1,none⟩=some (.int .u64 n)/\w'.cell? ⟨w.heap.size,2,none⟩=some (.int .u64 s)/\w'.cell? ⟨w.heap.size,3,none⟩=some (.int .u64 z)) (go_keep)
  (first
    | (go_at_call 265;refine(Gv v3 (le t 4++le n 4++le s 2) z _ (fH iW) (by simp[b9])).mono ?_;rintro e w4⟨v4,rfl,Em,hb4⟩;replace Em:=aU Em (by simpa using hb3.size);replace hb4:=hb3.trans (hb4.mono (by simpa using hb3.size));have q4:=(iX hb4))
    | (go_at_call 265;refine(Gv v2 (le t 4++le n 4) s _ (fH Za) (by simp[b9])).mono ?_;rintro e w3⟨v3,rfl,iW,hb3⟩;replace iW:=aU iW (by simpa using QB.size);replace hb3:=QB.trans (hb3.mono (by simpa using QB.size));have q3:=(iX hb3)))
 go_wp2;go_ret;exact⟨v4,rfl,by grind [lJ,aU],((ak.alloc af _).drew).trans (hb4.mono af)⟩
def dh(tag num:Nat)(bs:List UInt8):List UInt8:=lJ tag num bs.length 0++bs++List.replicate (240-bs.length) 0
def dv(tag num:Nat)(bs:List UInt8):List UInt8:=dh tag num bs++le (ix (dh tag num bs)) 4
theorem oH(t n s z:Nat):(lJ t n s z).length=12:=by rfl
theorem iJ(tag num:Nat)(bs:List UInt8)(h:bs.length<=240):(dh tag num bs).length=252:=by
 grind [dh,oH]
theorem dR(tag num:Nat)(bs:List UInt8)(h:bs.length<=240):(dv tag num bs).length=256:=by
 grind [dv,iJ,b9]
def sV(w:World)(bs:List UInt8)(e:Ending)(w':World):Prop:=
 ∃v,e=.returned (.tuple #[v,.int .i64 0])/\w'.ownsRow w.heap.size 5 1 v bs.length (bs.map bv)/\Below w.heap.size w w'
theorem QE(tag num:Nat)(v:Value)(bs:List UInt8)(w:World)(hv:Rd w v bs)(hl:bs.length<=240)(ht:tag<4294967296)(hn:num<4294967296) :
 Calls prog 229 #[.int .u32 tag,.int .u32 num,v] w (sV w (dv tag num bs)):=by
 have hr:Hid (∀W,Below w.heap.size w W->Rd W v bs):=ae fun W h=>hv.below h;obtain⟨a,cap,rfl,hlc,hcm,hc⟩:=hv;clear hc;unfold maxLen at hcm;go_enter func229,ntmps229;go_wp2_with fail;have hh:=QD tag num bs.length 0 w;refine hh.mono ?_;rintro e w1⟨v1,rfl,lp,hb1⟩;rw[oH]at lp;have hR1:=ae (hr.out _ hb1);have rT:=ae hb1;have hO1:=ae lp;clear hh hb1 lp;go_wp2_with (at_builtin;refine jS rfl _ _ 39 rfl w.heap.size 5 Tryz.underlying39 ll v1 12 _ rfl hO1.out _ bs rfl hR1.out ?c1 ?c2 ?_);case c1=>omega
 case c2=>exact rT.out.size
 intro v2 w2 kD hg2 _;have zt :=ae (rT.out.grown hg2 rT.out.size (aI hO1.out));have hO2:Hid (w2.ownsRow w.heap.size 5 1 v2 (12+bs.length) ((lJ tag num bs.length 0++bs).map bv)):=ae (by grind);have hv2:Hid (∃a2 c2,v2=.slice a2 (12+bs.length) c2):=ae (by
  obtain⟨_,⟨rfl,h0⟩|⟨g,cp,cur,rfl,_⟩⟩:=kD
  ·omega
  simp)
 obtain⟨a2,c2,hv2⟩:=hv2.out;subst hv2;clear kD hg2 hO1 hR1 rT;go_wp2_with (at_builtin;refine kY rfl _ _ 39 3 .i64 rfl w.heap.size 5 Tryz.underlying39 Tryz.underlying3 ll _ (12+bs.length) _ rfl hO2.out (240-bs.length) ?c3 ?c1 ?c2 ?_);case c3=>show Value.int .i64 _=Value.int .i64 _;grind
 case c1=>omega
 case c2=>exact zt.out.size
 intro v3 w3 iW hg3 _;have Gw :=ae (zt.out.grown hg3 zt.out.size (aI hO2.out));have hO3:Hid (w3.ownsRow w.heap.size 5 1 v3 (dh tag num bs).length ((dh tag num bs).map bv)):=ae (by
  rw[iJ _ _ _ hl];rw[show 12+bs.length+(240-bs.length)=252 by omega]at iW;simpa[dh]using iW)
 have hlen:=ae (iJ tag num bs hl);have Zd:Hid (dv tag num bs=dh tag num bs++le (ix (dh tag num bs)) 4):=ae rfl;have hlt:=tV (dh tag num bs);clear iW hg3 hO2 zt hv2;generalize dh tag num bs=body at *;go_wp2_with fail;refine(Er v3 body _ (fH hO3.out)).mono ?_;rintro e w4⟨rfl,hb4⟩;have P5 :=ae (Gw.out.trans (hb4.mono Gw.out.size));have hO4:=ae (aW hO3.out hb4);clear hb4 hO3 Gw;generalize ix body=crc at *;go_wp2_with fail;refine(zN v3 body crc _ (fH hO4.out) (by grind [Hid.out])).mono ?_;rintro e w5⟨v5,rfl,XK,pj⟩;have hB5 :=ae (P5.out.trans (pj.mono P5.out.size));have hO5:=ae (aU XK P5.out.size);clear pj XK hO4 P5;go_wp2_with fail;go_ret2;exact⟨v5,rfl,by grind [Hid.out],hB5.out⟩
theorem r7(w:World)(s:ByteArray)(hs:s.size<=1000):Rd (Lib.bytesWorld w 5 s) (.slice (some ⟨w.heap.size,0,none⟩) s.size (grownCap w s.size 0 5)) s.data.toList:=by
 refine⟨_,_,rfl,?_,grownCap_le_maxLen w s.size 0 _ (by grind [maxLen]),.inr ⟨w.heap.size,0,rfl,fun j hj=>?_⟩⟩
 ·exact grownCap_ge w s.size 0 _
 ·rw[Nat.zero_add,Lib.bytesWorld_cell w _ s j hj];grind [bv]
theorem Vi(s:ByteArray)(w:World)(hs:s.size<=1000) :
 Calls prog 209 #[.string s] w fun e w'=>e=.returned (.int .u32 (ix s.data.toList))/\Below w.heap.size w w':=by
 have hr:=ae (r7 w s hs);have hb:=ae (Joins.below_bytesWorld w.heap.size w 5 s af);have hcv:=fun W=>Lib.run_convert_string_bytes (P:=prog) W 9 39 5 s Tryz.underlying9 Tryz.underlying39 Tryz.underlying5;go_enter func209,ntmps209;go_wp2_with fail;refine(Er _ _ _ hr.out).mono ?_;rintro e w1⟨rfl,hb1⟩;go_wp2_with fail;go_ret;exact⟨rfl,hb.out.trans (hb1.mono hb.out.size)⟩
end
section
open Go.RowKit Go.Maps Go.MapKept
open Go.ChangeMaps (setBlock heap_setBlock_same heap_setBlock_other)
structure aG(S:Nat->Prop)(w w':World):Prop where
 os:w'.os=w.os
 tape:w'.tape=w.tape
 output:w'.output=w.output
 size:w.heap.size<=w'.heap.size
 block:∀k,k<w.heap.size->¬S k->w'.heap[k]? = w.heap[k]?
section
variable {S S':Nat->Prop} {w w' w'':World}
theorem aG.refl(S:Nat->Prop)(w:World):aG S w w:=⟨rfl,rfl,rfl,Nat.le_refl _,(by grind)⟩
theorem aG.trans(h:aG S w w')(k:aG S' w' w'')(hs:∀x,x<w.heap.size->S' x->S x):aG S w w'':=
 ⟨k.os.trans h.os,k.tape.trans h.tape,k.output.trans h.output,Nat.le_trans h.size k.size,fun x hx hn=>(k.block x (Nat.lt_of_lt_of_le hx h.size) (by grind)).trans (h.block x hx hn)⟩
theorem aG.mono(h:aG S w w')(hs:∀x,x<w.heap.size->S x->S' x):aG S' w w':=⟨h.os,h.tape,h.output,h.size,fun x hx hn=>h.block x hx (by grind)⟩
theorem aG.aV(h:Below w.heap.size w w'):aG S w w':=⟨h.os,h.tape,h.output,h.size,fun x hx _=>h.block x hx⟩
theorem aG.below(h:aG S w w'){n:Nat}(hn:n<=w.heap.size)(hs:∀x,S x->n<=x):Below n w w':=⟨h.os,h.tape,h.output,h.size,fun x hx=>h.block x af (by grind)⟩
theorem aG.bN(h:aG S w w')(k:Below w'.heap.size w' w''):aG S w w'':=h.trans (S':=fun _=>False) (aG.aV k) (by grind)
theorem aG.alloc(h:aG S w w')(o:Obj):aG S w (w'.alloc o):=h.bN (ak.alloc af o)
theorem aG.drew(h:aG S w w'):aG S w w'.drew:=h.bN ak.drew
theorem aG.drewN(h:aG S w w')(n:Nat):aG S w (w'.drewN n):=⟨h.os,h.tape,h.output,h.size,h.block⟩
theorem aG.setCell(h:aG S w w')(a:Addr)(u:Value)(ha:S a.block\/w.heap.size<=a.block):aG S w (w'.setCell a u):=by
 refine h.trans (S':=fun x=>x=a.block) ⟨rfl,rfl,rfl,ai,fun x _ hn=>Below.heap_setCell _ _ _ _ hn⟩ (fun x hx e=>?_);grind
theorem aG.grown{row:Option Nat}(h:aG S w w')(hg:w'.grownBy w'' row)(hr:∀k,row=some k->S k\/w.heap.size<=k):aG S w w'':=by
 refine h.trans (S':=fun x=>row=some x) ⟨hg.os,hg.tape,hg.output,hg.size,fun x hx hn=>hg.block x hx (by grind)⟩ (fun x hx e=>?_);grind
theorem bg{w:World}{b:Nat}(ob:Obj){x:Nat}(hx:x≠b):(setBlock w b ob).heap[x]? = w.heap[x]? := by
 grind [setBlock]
theorem aG.setBlock(h:aG S w w')(b:Nat)(ob:Obj)(hb:S b\/w.heap.size<=b):aG S w (setBlock w' b ob):=by
 refine h.trans (S':=fun x=>x=b) ⟨rfl,rfl,rfl,by simp[ChangeMaps.setBlock],fun x _ hn=>bg ob hn⟩ (fun x hx e=>?_);grind
theorem aG.cell(h:aG S w w'){a:Addr}{v:Value}(hc:w.cell? a=some v)(hs:¬S a.block):w'.cell? a=some v:=by
 grind [World.cell?_of_block,block,World.block_lt_of_cell?]
theorem aG.ownsRow(h:aG S w w'){base:Nat}{e:TypeId}{size:Nat}{v:Value}{n:Nat}{xs:List Value}(hr:w.ownsRow base e size v n xs)(hs:∀b,v.ownBlock=some b->¬S b):w'.ownsRow base e size v n xs:=by
 obtain⟨hl,hr⟩:=hr;refine⟨hl,?_⟩;rcases hr with hr |⟨g,cap,cur,hv,hg,hh,r⟩
 ·grind
 ·have hlt:g<w.heap.size:=(by grind);exact .inr ⟨g,cap,cur,hv,hg,(h.block g hlt (hs g (by rw[hv];rfl))).trans hh,r⟩
theorem aG.rd(h:aG S w w'){v:Value}{bs:List UInt8}(hr:Rd w v bs)(hs:∀b,v.ownBlock=some b->¬S b):Rd w' v bs:=by
 obtain⟨a,cap,he,hlc,hcm,hc⟩:=hr;refine⟨a,cap,he,hlc,hcm,?_⟩;rcases hc with hc |⟨b,off,ha,hc⟩
 ·omega
 ·exact .inr ⟨b,off,ha,fun j hj=>h.cell (hc j hj) (hs b (by rw[he,ha];rfl))⟩
end
abbrev Tag:=Nat×Nat
abbrev au:=Nat->Option Tag
def au.In(o:au)(C:Nat->Prop)(x:Nat):Prop:=∃t,o x=some t/\C t.1
def au.set(o:au)(b:Nat)(t:Tag):au:=fun x=>if x=b then some t else o x
@[simp] theorem au.qB(o:au)(b:Nat)(t:Tag):o.set b t b=some t:=by simp[au.set]
theorem au.fg(o:au){b x:Nat}(t:Tag)(h:x≠b):o.set b t x=o x:=by simp[au.set,h]
theorem au.ne{o:au}{x y:Nat}{s t:Tag}(hx:o x=some s)(hy:o y=some t)(h:s≠t):x≠y:=by
 grind
theorem au.Et{o:au}{C:Nat->Prop}{x:Nat}{t:Tag}(hx:o x=some t)(h:¬C t.1):¬o.In C x:=by
 rintro⟨s,hs,hc⟩;grind
theorem au.dE{o:au}{C:Nat->Prop}{x:Nat}(hx:o x=none):¬o.In C x:=by
 rintro⟨s,hs,_⟩;grind
def cF(n:Nat)(o o':au):Prop:=∀x,x<n->o' x=o x
theorem cF.refl(n:Nat)(o:au):cF n o o:=fun _ _=>rfl
theorem cF.trans{n n':Nat}{o o' gY:au}(h:cF n o o')(k:cF n' o' gY)(hn:n<=n'):cF n o gY:=fun x hx=>(k x af).trans (h x hx)
theorem cF.set{n:Nat}{o o':au}(h:cF n o o'){b:Nat}(hb:n<=b)(t:Tag):cF n o (o'.set b t):=fun x hx=>by rw[au.fg _ _ af];exact h x hx
theorem aG.owned{o o':au}{C:Nat->Prop}{w w' w'':World}(h:aG (o.In C) w w')(hg:cF w.heap.size o o')(k:aG (o'.In C) w' w''):aG (o.In C) w w'':=
 h.trans k fun x hx ⟨t,ht,hc⟩=>⟨t,by rw[<- hg x hx];exact ht,hc⟩
theorem Tryz.Gx:laidOutB prog=true:=by kernel_rfl
theorem lr:Keyed prog 9:=string_keyed Tryz.underlying9
theorem pC:∀a b:ByteArray,Value.string a=Value.string b->a=b:=(by grind)
theorem qC{s:ByteArray}(h:s.size<=maxLen):Good prog 9 (.string s):=⟨.string s.data.toList,by simp[keyOf,mapKey,Tryz.underlying9,h]⟩
theorem QF:(116:TypeId)<prog.types.size:=(by simp_all)
theorem NZ:(match prog.underlying 116 with | some (.array _ _) | some (.struct _)=>true | _=>false)=true:=by rw[Tryz.underlying116]
theorem zO:Keyed prog 116:=Keyed.of_law (deep_law_laid Tryz.Gx (m:=2) af QF ah NZ)
def eD(k:ByteArray×Nat):Value:=.agg #[.string k.1,.int .i64 (k.2:Int)]
theorem fM:∀a b,eD a=eD b->a=b:=by
 grind [eD]
theorem N0{s:ByteArray}{n:Nat}(h:s.size<=maxLen)(hn:n<9223372036854775808):Good prog 116 (eD (s,n)):=by
 have h1:prog.keyType 116=true:=by kernel_rfl
 have h2:prog.cellsOf 116=2:=by rfl
 have h3:prog.cellsOf 9=1:=by rfl
 have h4:prog.cellsOf 3=1:=by rfl
 have h5:(Lit.int .i64 (n:Int)).wf=true:=by
  have:(Lit.int .i64 (n:Int)).wf=(decide (-9223372036854775808<=(n:Int)) && decide ((n:Int)<=9223372036854775807)):=by rfl
  grind
 have hk:∀d,prog.keyLits (d+2) 116 [.string s,.int .i64 (n:Int)]=some [.string s.data.toList,.int .i64 (n:Int)]:=by
  intro d;simp[Program.keyLits,Tryz.underlying116,Tryz.underlying9,Tryz.underlying3,h2,h3,h4,h,h5]
 unfold Good eD keyOf;rw[Tryz.underlying116];simp only[h1,Value.formed,Tryz.underlying116,h2];have Ce:prog.keyLits (prog.types.size+1) 116 (Value.agg #[.string s,.int .i64 (n:Int)]).cells.toList=some [.string s.data.toList,.int .i64 (n:Int)]:=hk (prog.types.size-1);simp_all
end
section
open Go.RowKit
theorem Gy(w:World):Calls prog 280 #[.int .u8 0] w fun e w'=>e=.returned (.bool false)/\w=w':=by
 go_enter func280,ntmps280;go_wp2;go_ret;simp
theorem Cf(v:Value)(k:Nat)(w:World)(hv:Rd w v (List.replicate k 0)) :
 Calls prog 299 #[v,.func (.func 280) #[] #[]] w fun e w'=>e=.returned (.int .i64 (-1))/\w=w':=by
 obtain⟨a,cap,he,hlc,hcm,hc⟩:=hv;rw[List.length_replicate]at he hlc;have HC:=ae hc;clear hc;subst he;unfold maxLen at hcm;go_enter func299,ntmps299;go_wp2;go_loop [8] (fun i=>∃j:Nat,j<=k/\i=.int .i64 j) (fun i=>k-(intOf i).toNat)
 case atStart=>grind
 case round=>
  obtain⟨j,hj,rfl⟩:=hrel;by_cases hlt:j<k
  ·rcases HC.out with hc |⟨b,off,rfl,hc⟩
   ·grind
   have hcell:=hc j (by grind);rw[List.getElem_replicate]at hcell;have hb0:bv 0=.int .u8 0:=rfl;rw[hb0]at hcell;clear hc hb0;go_wp2_with (go_at_call 280;refine(Gy _).mono ?_;rintro e w'⟨rfl,rfl⟩);grind [intOf]
  ·go_wp2_with fail;go_ret;simp
theorem vV(v:Value)(k:Nat)(w:World)(hv:Rd w v (List.replicate k 0)) :
 Calls prog 279 #[v,.func (.func 280) #[] #[]] w fun e w'=>e=.returned (.bool false)/\w=w':=by
 go_enter func279,ntmps279;go_wp2_with fail;refine(Cf v k _ hv).mono ?_;rintro e w'⟨rfl,rfl⟩;go_wp2_with fail;go_ret;simp
structure Dh(tag num:Nat)(bs p:List UInt8):Prop where
 len:p.length=256
 sum:eZ ((p.drop 252).take 4)=ix (p.take 252)
 tag:eZ ((p.drop 0).take 4)=tag
 num:eZ ((p.drop 4).take 4)=num
 size:eZ ((p.drop 8).take 2)=bs.length
 none:eZ ((p.drop 10).take 2)=0
 zeros:(p.drop (12+bs.length)).take (240-bs.length)=List.replicate (240-bs.length) 0
 body:(p.drop 12).take bs.length=bs
theorem qD(a b:List UInt8)(n:Nat)(h:a.length=n):(a++b).take n=a:=by grind
theorem kE(a b:List UInt8)(n:Nat)(h:a.length=n):(a++b).drop n=b:=by grind
theorem Eu(tag num:Nat)(bs:List UInt8)(hl:bs.length<=240)(ht:tag<4294967296)(hn:num<4294967296):Dh tag num bs (dv tag num bs):=by
 have hb:=iJ tag num bs hl;have e:dv tag num bs=le tag 4++(le num 4++(le bs.length 2++(le 0 2++(bs++(List.replicate (240-bs.length) 0++le (ix (dh tag num bs)) 4))))):=by
  simp[dv,dh,lJ]
 have aoE:(dv tag num bs).take 252=dh tag num bs:=qD _ _ _ hb;have d252:(dv tag num bs).drop 252=le (ix (dh tag num bs)) 4:=kE _ _ _ hb;have d4:(dv tag num bs).drop 4=le num 4++(le bs.length 2++(le 0 2++(bs++(List.replicate (240-bs.length) 0++le (ix (dh tag num bs)) 4)))):=by grind [b9]
 have d8:(dv tag num bs).drop 8=le bs.length 2++(le 0 2++(bs++(List.replicate (240-bs.length) 0++le (ix (dh tag num bs)) 4))):=by
  grind [kE,b9]
 have d10:(dv tag num bs).drop 10=le 0 2++(bs++(List.replicate (240-bs.length) 0++le (ix (dh tag num bs)) 4)):=by
  grind [kE,b9]
 have d12:(dv tag num bs).drop 12=bs++(List.replicate (240-bs.length) 0++le (ix (dh tag num bs)) 4):=by
  rw[show 12=10+2 from rfl,<- List.drop_drop,d10];rfl
 have hc:=tV (dh tag num bs);refine⟨dR tag num bs hl,?_,?_,?_,?_,?_,?_,?_⟩
 ·grind [b9,ji]
 ·grind [b9,ji]
 ·grind [b9,ji]
 ·grind [b9,ji]
 ·rfl
 ·rw[<- List.drop_drop,d12,kE _ _ _ rfl,qD _ _ _ ai]
 grind
theorem QG(tag num:Nat)(v:Value)(bs p:List UInt8)(w:World)(hv:Rd w v p)(hp:Dh tag num bs p)(hl:bs.length<=240)(ht:tag<4294967296)(hn:num<4294967296) :
 Calls prog 238 #[v,.int .u32 tag,.int .u32 num] w (sV w bs):=by
 have hr:Hid (∀W,Below w.heap.size w W->Rd W v p):=ae fun W h=>hv.below h;obtain⟨a,cap,he,hlc,hcm,hc⟩:=hv;rw[hp.len]at he hlc;subst he;clear hc;unfold maxLen at hcm;have HP:=ae hp;clear hp;go_enter func238,ntmps238;go_wp2_with fail;go_step3
 go_wp2_with fail;obtain⟨w1,rz⟩:∃w1,w1=w.alloc (.cells #[.int .u64 0,.int .u64 0,.int .u64 0,.int .u64 0] 344):=⟨_,rfl⟩;have rT:Hid (Below w.heap.size w w1):=ae (by rw[rz];exact ak.alloc af _);have hh1:Hid (w1.heap[w.heap.size]? = some (.cells #[.int .u64 0,.int .u64 0,.int .u64 0,.int .u64 0] 344 (0,0))):=ae (by grind [heap_alloc_new]);have hz1:Hid (w1.heap.size=w.heap.size+1):=ae (by simp_all);rw[<- rz];clear rz;have hC0:Below w1.heap.size w1 w1.drew:=ak.drew;have Zd :=ae HP.out.sum;have ahV:(((ix (p.take 252):Nat):Int) != ((ix (p.take 252):Nat):Int))=false:=by simp
 have hlt:=tV (p.take 252);have al5:(252:Int)<=(cap:Int):=by omega
 have ahW:IntKind.u64.wrap ((ix (p.take 252):Nat):Int)=((ix (p.take 252):Nat):Int):=fW _ af af;refine cP (Below w1.heap.size w1) (by rfl) ah hC0 ?_;iterate 5 (refine q_op rfl (fun w' hw'=>(by go_simp;rfl)) (fun K hK=>?_);go_simp;refine hK _ ?_;clear hK K)
 refine sS rfl (fun w' hw'=>(by go_simp)) (fun w' hw'=>((qA (.slice a 256 cap) p 252 w' (hr.out _ (rT.out.trans (hw'.mono rT.out.size))) (by rw[HP.out.len];omega) (by rw[HP.out.len];omega)).mono (fun e w'' h=>⟨h.1,hw'.trans (h.2.mono hw'.size)⟩))) (fun K hK=>?_);go_simp;refine hK _ ?_;clear hK K;rw[Zd.out];iterate 2 (refine q_op rfl (fun w' hw'=>(by go_simp;rfl)) (fun K hK=>?_);go_simp;refine hK _ ?_;clear hK K)
 refine sS rfl (fun w' hw'=>(by go_simp)) (fun w' hw'=>((Er (.slice a 252 cap) (p.take 252) w' ((hr.out _ (rT.out.trans (hw'.mono rT.out.size))).to (by rw[HP.out.len];omega))).mono (fun e w'' h=>⟨h.1,hw'.trans (h.2.mono hw'.size)⟩))) (fun K hK=>?_);go_simp;refine hK _ ?_;clear hK K;iterate 3 (refine q_op rfl (fun w' hw'=>(by go_simp;rfl)) (fun K hK=>?_);go_simp;refine hK _ ?_;clear hK K)
 refine wpQuiet_nil ?_;intro w2 hw2;clear hC0;have zt :=ae (rT.out.trans (hw2.mono rT.out.size));have hh2:Hid (w2.heap[w.heap.size]? = some (.cells #[.int .u64 0,.int .u64 0,.int .u64 0,.int .u64 0] 344 (0,0))):=ae (by grind [Below.block,Hid.out]);have hz2:Hid (w.heap.size<w2.heap.size):=ae (by grind [Hid.out]);clear hw2 rT hh1 hz1;go_wp2_with fail;refine(qA (.slice a 256 cap) p 0 _ (hr.out _ zt.out) (by rw[HP.out.len];omega) (by rw[HP.out.len];omega)).mono ?_;rintro e w3⟨rfl,hb⟩;have Gw :=ae (zt.out.trans (hb.mono zt.out.size));have hh3:Hid (w3.heap[w.heap.size]? = some (.cells #[.int .u64 0,.int .u64 0,.int .u64 0,.int .u64 0] 344 (0,0))):=ae (by grind [Below.block,Hid.out]);have hz3 :=ae (Nat.lt_of_lt_of_le hz2.out hb.size);rw[HP.out.tag];clear hb zt hh2 hz2;clear ahV ahW hlt Zd;go_wp2_with fail;refine(qA (.slice a 256 cap) p 4 _ (hr.out _ Gw.out) (by rw[HP.out.len];omega) (by rw[HP.out.len];omega)).mono ?_;rintro e w4⟨rfl,hb⟩;have P5 :=ae (Gw.out.trans (hb.mono Gw.out.size));have P6:Hid (w4.heap[w.heap.size]? = some (.cells #[.int .u64 0,.int .u64 0,.int .u64 0,.int .u64 0] 344 (0,0))):=ae (by grind [Below.block,Hid.out]);have vF :=ae (Nat.lt_of_lt_of_le hz3.out hb.size);rw[HP.out.num];clear hb Gw hh3 hz3;go_wp2_with fail;refine(xV (.slice a 256 cap) p 8 _ (hr.out _ P5.out) (by rw[HP.out.len];omega) (by rw[HP.out.len];omega)).mono ?_;rintro e w5⟨rfl,hb⟩;have hB5 :=ae (P5.out.trans (hb.mono P5.out.size));have UK:Hid (w5.heap[w.heap.size]? = some (.cells #[.int .u64 0,.int .u64 0,.int .u64 0,.int .u64 0] 344 (0,0))):=ae (by grind [Below.block,Hid.out]);have UL :=ae (Nat.lt_of_lt_of_le vF.out hb.size);rw[HP.out.size];clear hb P5 P6 vF;go_wp2_with fail;refine(xV (.slice a 256 cap) p 10 _ (hr.out _ hB5.out) (by rw[HP.out.len];omega) (by rw[HP.out.len];omega)).mono ?_;rintro e w6⟨rfl,hb⟩;have Ze :=ae (hB5.out.trans (hb.mono hB5.out.size));have hh6:Hid (w6.heap[w.heap.size]? = some (.cells #[.int .u64 0,.int .u64 0,.int .u64 0,.int .u64 0] 344 (0,0))):=ae (by grind [Below.block,Hid.out]);have XL :=ae (Nat.lt_of_lt_of_le UL.out hb.size);rw[HP.out.none];clear hb hB5 UK UL;have b0:w6.cell? ⟨w.heap.size,0,none⟩=some (.int .u64 0):=by simp[World.cell?,hh6.out]
 have b1:w6.cell? ⟨w.heap.size,1,none⟩=some (.int .u64 0):=by simp[World.cell?,hh6.out]
 have b2:w6.cell? ⟨w.heap.size,2,none⟩=some (.int .u64 0):=by simp[World.cell?,hh6.out]
 have b3:w6.cell? ⟨w.heap.size,3,none⟩=some (.int .u64 0):=by simp[World.cell?,hh6.out]
 have f6:∀k,w6.frozen? ⟨w.heap.size,k,none⟩=false:=fun k=>by simp[World.frozen?,hh6.out]
 have n1:((tag:Int) != (tag:Int))=false:=by simp
 have hB7:Hid (Below w.heap.size w ((((w6.setCell ⟨w.heap.size,0,none⟩ (.int .u64 tag)).setCell ⟨w.heap.size,1,none⟩ (.int .u64 num)).setCell ⟨w.heap.size,2,none⟩ (.int .u64 bs.length)).setCell ⟨w.heap.size,3,none⟩ (.int .u64 0))):=
  ae ((((Ze.out.setCell (Nat.le_refl _) _).setCell (Nat.le_refl _) _).setCell (Nat.le_refl _) _).setCell (Nat.le_refl _) _)
 have hR7:=ae (hr.out _ hB7.out);go_wp2_with fail;refine(vV _ (252-(12+bs.length)) _ ?_).mono ?_
 ·have h1:=hR7.out.sub (i:=12+bs.length) (k:=252-(12+bs.length)) (by rw[HP.out.len];omega);have h2:=HP.out.zeros;grind
 rintro e w'⟨rfl,rfl⟩;have aoF:(12:Int)+bs.length<=(cap:Int):=by omega
 go_wp2_with fail;refine(fX _ bs _ ?_ af).mono ?_
 ·have h1:=hR7.out.sub (i:=12) (k:=bs.length) (by rw[HP.out.len];omega);rw[HP.out.body]at h1;exact h1
 rintro e w8⟨v8,rfl,ho8,P4⟩;have hO8:=ae (aU ho8 hB7.out.size);have hB8:=ae (hB7.out.trans (P4.mono hB7.out.size));clear ho8 P4;go_wp2_with fail;rw[Exit.noGoto_ret];go_ret2;exact⟨v8,rfl,hO8.out,hB8.out⟩
end
end Go.Proofs.YthkkgdpomhhjjaaGreatDoor
