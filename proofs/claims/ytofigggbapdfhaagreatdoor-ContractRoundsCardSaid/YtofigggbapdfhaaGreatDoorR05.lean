/-
  Joined.
-/
import Derived.Test.YtofigggbapdfhaaGreatDoorR04
import Derived.Laws.OwnMore
import Derived.Shelf.SlSortCmp.WholeK
import Derived.Lib.ItoaMem
set_option maxRecDepth 100000
set_option maxHeartbeats 16000000
open Option renaming some->IT,none->KK,none->GT
open Bool renaming true->Jd,false->J0,and_eq_true->j4,false_eq_true->xv
open List renaming getElem?_eq_getElem->bk,mem_of_getElem?->cx,length_map->dj,length_append->eh,length_take->et,take_of_length_le->ey,getElem?_eq_some_iff->e7,take_succ_eq_append_getElem->fh,mem_append->hS,mem_iff_getElem?->hY,length_drop->ie,length_cons->it,getElem?_map->j1,mem_range->j3,mem_singleton->kj,range->kk,all_eq_true->ms,getElem_of_mem->p6,pairwise_iff_getElem->qa,getElem?_take_of_lt->qb,mem_append_left->Ds,drop_of_length_le->GP,count_pos_iff->IN,replicate->ei,take_succ_cons->ii,take_zero->j2,length_filter_le->kq,length_filterMap_le->kt,map_append->k8,length_singleton->lr,append_nil->nw,map_cons->oj,drop_succ_cons->ot,append_assoc->o0,length_replicate->pn,drop_zero->qd,length_eq_zero_iff->sI,foldl_append->B1,nil_append->DP,map_nil->FP,getElem?_drop->F1,map_toArray->GO,getElem?_eq_none->GW,length_nil->Hl
open Nat renaming le_refl->cg,le_trans->cp,lt_of_lt_of_le->eg,zero_le->em,zero_add->j0,lt_or_ge->lb,min_eq_left->tk,strongRecOn->IF,mul_one->sE,xor_assoc->xl,not_lt_zero->Dc,le_mul_of_pos_left->GE,mul_le_mul_right->IR
open UInt32 renaming ofNat->h9
open Array renaming getD_eq_getD_getElem?->iD,getElem?_toList->ri,getElem?_eq_getElem->wS,replicate->xj,getElem?_setIfInBounds_ne->A0,getElem?_eq_some_iff->ds,size_setIfInBounds->FG
open UInt64 renaming ofNat->nM
namespace Go.Proofs.YtofigggbapdfhaaGreatDoor
open Go.RowKit Go.Maps Go
open Go.Proofs.Tryz
open Go renaming World->KX,Value->J3,Calls->K1,Ending->Lp,heap_alloc_new->Lw
open Go.RowKit renaming Below->Lg,Hid->Lk,intOf->Lo
open Go.Value renaming int->Kx,tuple->Ly
open Go.Obj renaming cells->Mi
open Go.Ending renaming returned->Mk
open Go.IntKind renaming i64->Mm,u32->Mo,u64->MJ
open Go.IntKind renaming wrap->cf
open Go.RowKit.Below renaming heap_setCell->e8,refl->kp
open Go.Value renaming slice->fz,ownBlock->B2,agg->DS
variable {j cap a:Nat}{w':KX}{L':aL}{P:Program}{Q:Exit->Act->KX->Prop}{fl:Bool}{κ υ:Type}
theorem gK{b:Bool}{a:List aJ}(h:a.Pairwise (λx y=>pk b x<pk b y)){i:Nat}(e:i<j){x y:aJ}(c:a[i]? = IT x)(d:a[j]? = IT y):pk b x<pk b y:=by grind [qa]
theorem eG.lay{b:Bool}{l a:List aJ}{x:aJ}(h:eG b l a)(g:x.t≠x.h){k:Nat}(A:k<=a.length)(m:∀(i:Nat)(o:aJ),i<k->a[i]? = IT o->pk b o<pk b x)(s:∀(i:Nat)(o:aJ),k<=i->a[i]? = IT o->pk b x<pk b o) :
 eG b (l++[x]) (a.take k++x::a.drop k):=by
 have e:a=a.take k++a.drop k:=(List.take_append_drop k a).symm;have u:∀o∈a.take k,pk b o<pk b x:=λo d=>by obtain⟨i,hi,rfl⟩:=p6 d;rw[et]at hi;rw[List.getElem_take];exact m i _ af (bk af)
 have v:∀o∈a.drop k,pk b x<pk b o:=λo d=>by obtain⟨i,hi,rfl⟩:=p6 d;rw[ie]at hi;rw[List.getElem_drop];exact s (k+i) _ af (bk af)
 have q:∀o∈a,¬same o x:=λo d f=>by grind [j7]
 have t:=h.il;rw[e,List.pairwise_append]at t;have j:∀o,o∈a.take k++x::a.drop k↔o=x\/o∈a:=λo=>M2
 refine⟨?_,λo d=>?_,λy c w=>?_⟩
 .grind [List.pairwise_cons]
 .rcases(j o).1 d with rfl | d
  .refine⟨ai,g,λy c f=>?_⟩;rcases hS.1 c with c | c
   .obtain⟨o',B,n⟩:=h.all y c (f.symm.loop g);grind [same.trans]
   grind
  .obtain⟨p,r,z⟩:=h.mem o d;refine⟨Ds _ p,r,λy c f=>?_⟩;grind [same.symm]
 .rcases hS.1 c with c | c
  .grind [all]
  .rw[kj.1 c];exact⟨x,(j x).2 (.inl rfl),rfl,rfl⟩
theorem eG.over{b:Bool}{l a:List aJ}{x o:aJ}(h:eG b l a){k:Nat}(n:a[k]? = IT o)(t:same o x)(K:rk x<rk o):eG b (l++[x]) (a.set k x):=by
 have L:=(e7.1 n).1;have H:pk b x=pk b o:=(j7 (b:=b).2 t).symm;have B:∀(i:Nat)(y:aJ),(a.set k x)[i]? = IT y->(i=k/\y=x)\/(i≠k/\a[i]? = IT y):=λi y c=>M2
 have p:∀(i:Nat)(y:aJ),(a.set k x)[i]? = IT y->∃z,a[i]? = IT z/\pk b z=pk b y:=λi y c=>M2
 have F:=h.mem o (cx n);refine⟨?_,λy c=>?_,λy c C=>?_⟩
 .rw[qa];intro i j hi D G;obtain⟨I,q,u⟩:=p i _ (bk hi);obtain⟨z2,r,A⟩:=p j _ (bk D);rw[<- u,<- A];exact gK h.il G q r
 .obtain⟨i,hi,rfl⟩:=p6 c;rcases B i _ (bk hi) with⟨_,e⟩|⟨m,e⟩
  .rw[e];refine⟨ai,t.loop F.2.1,λz f d=>?_⟩;grind [same.trans,same.symm]
  .generalize (a.set k x)[i]=y at *;obtain⟨q,r,J⟩:=h.mem y (cx e);refine⟨Ds _ q,r,λz f d=>?_⟩;rcases hS.1 f with f | f
   .grind
   .rw[kj.1 f]at d;have u:=j7 (b:=b).2 (t.trans d);rcases Nat.lt_or_gt_of_ne m with g | g
    .have:=gK h.il g e n;omega
    .have:=gK h.il g n e;omega
 .have v:∀(i:Nat)(z:aJ),a[i]? = IT z->∃s∈a.set k x,same s z:=λi z f=>by
   by_cases m:i=k
   .grind [same.symm]
   .exact⟨z,cx (i:=i) M2,rfl,rfl⟩
  rcases hS.1 c with c | c
  .obtain⟨z,f,d⟩:=h.all y c C;obtain⟨i,hi,rfl⟩:=p6 f;obtain⟨s,w,E⟩:=v i _ (bk hi);grind [same.trans]
  .rw[kj.1 c];obtain⟨s,w,E⟩:=v k o n;grind [same.trans]
theorem eG.leave{b:Bool}{l a:List aJ}{x:aJ}(h:eG b l a)(g:x.t=x.h\/∃o∈a,same o x/\rk o<=rk x):eG b (l++[x]) a:=by
 refine⟨h.il,λo p=>?_,λy d u=>?_⟩
 .obtain⟨s,n,t⟩:=h.mem o p;refine⟨Ds _ s,n,λy d k=>?_⟩;rcases hS.1 d with d | d
  .grind
  .rw[kj.1 d]at k ⊢;rcases g with g |⟨o',q,f,r⟩
   .exact absurd g (k.symm.loop n)
   .have e:=j7 (b:=b).2 (f.trans k);obtain⟨i,hi,rfl⟩:=p6 p;obtain⟨j,m,rfl⟩:=p6 q;rcases Nat.lt_trichotomy i j with c | rfl | c
    .have:=gK h.il c (bk hi) (bk m);omega
    .exact r
    .have:=gK h.il c (bk m) (bk hi);omega
 grind [all]
theorem Qt{l:List aJ}{i:Nat}(hi:i<l.length)(x:aJ) :
 dH (l.set i x)=((((dH l).set (i*4) x.t).set (i*4+1) x.h).set (i*4+2) x.x).set (i*4+3) x.m:=by
 induction l generalizing i with
 |nil=>cases hi
 |cons y l a=>
   cases i with
   |zero=>rfl
   |succ i=>rw[List.set_cons_succ,dH,dH,a M2];grind
theorem mI{w:KX}{base g n:Nat}{l:List aJ}(h:aG w base (.slice g n cap) l){i:Nat}(hi:i<l.length)(x:aJ) :
 aG ((((w.setCell ⟨g,i*4,KK⟩ x.t).setCell ⟨g,i*4+1,KK⟩ x.h).setCell ⟨g,i*4+2,KK⟩ x.x).setCell ⟨g,i*4+3,KK⟩ x.m) base (.slice g n cap) (l.set i x):=by grind [aw,Qt,World.ownsRow.stored]
theorem cT{w:KX}{base g n:Nat}{l:List aJ}(h:aG w base (.slice g n cap) l)(j:Nat):w.frozen? ⟨g,j,KK⟩=false:=by grind [aw,World.ownsRow.frozenAt]
theorem IC{w W c:KX}{v v':J3}{M:List aJ}{b:Obj}(d:Lg w w W)(h:aG W w.heap.size v M)(f:gP v (W.alloc b) c v'):Lg w w c:=by
 obtain⟨a,_⟩:=f;have g:W.heap.size<(W.alloc b).heap.size:=ai;refine d.trans ⟨a.os.trans rfl,a.tape.trans rfl,a.output.trans rfl,cp (Nat.le_of_lt g) a.size,λx i=>?_⟩;have:=d.size;refine(a.block x af (λe=>?_)).trans ((MapKept.heap_alloc W b).2 x af);have:=(aA h x e.symm).2;omega
def mS(w:KX)(es:List aJ)(e:Lp)(w':KX):Prop:=∃v,e=Mk v/\aG w' w.heap.size v es/\Lg w w w'
theorem eL{w:KX}{a:Option Addr}{n:Nat}{es:List aJ}(h:gR w (.slice a n cap) es):n=es.length/\∀W,Lg w w W->∀(i:Nat)(x:aJ),es[i]? = IT x->∃b c,a=IT ⟨b,c,KK⟩/\W.cell? ⟨b,c+i*4,KK⟩=x.t/\W.cell? ⟨b,c+i*4+1,KK⟩=x.h/\W.cell? ⟨b,c+i*4+2,KK⟩=x.x/\W.cell? ⟨b,c+i*4+3,KK⟩=x.m:=by
 have o:n=es.length:=by obtain⟨p,d,m,_⟩:=h;cases m;rfl
 refine⟨o,λW g i x f=>?_⟩;obtain⟨p,d,j,e⟩:=h.below g;cases j;rcases e with q |⟨b,c,k,l⟩
 .have:=aK f;omega
 .exact⟨b,c,k,l i x f⟩
theorem im{es:List aJ}{i:Nat}{x:aJ}(h:es[i]? = IT x):es.take (i+1)=es.take i++[x]:=by have a:=aK h;rw[fh a];rw[bk a]at h;rw[Option.some.inj h]
theorem nW{w W:KX}{g:Nat}(c:Lg w w W)(a:w.heap.size<=g)(d a2 a3 a4:Nat)(b v2 v3 v4:J3):Lg w w ((((W.setCell ⟨g,d,KK⟩ b).setCell ⟨g,a2,KK⟩ v2).setCell ⟨g,a3,KK⟩ v3).setCell ⟨g,a4,KK⟩ v4):=
 (((c.setCell a _).setCell a _).setCell a _).setCell a _
theorem ND{W:KX}{g b:Nat}{c:Option Obj}(e:W.heap[b]? = c)(a:b≠g)(f a2 a3 a4:Nat)(d v2 v3 v4:J3):((((W.setCell ⟨g,f,KK⟩ d).setCell ⟨g,a2,KK⟩ v2).setCell ⟨g,a3,KK⟩ v3).setCell ⟨g,a4,KK⟩ v4).heap[b]? = c:=by rw[e8 _ _ _ _ a,e8 _ _ _ _ a,e8 _ _ _ _ a,e8 _ _ _ _ a];exact e
theorem Uz{a:List aJ}{x y:aJ}{k b:Nat}(g:b<k)(f:k<=a.length)(c:a[k-1]? = IT y):(a.take k++x::a.drop k).set k y=a.take (k-1)++y::a.drop (k-1):=by
 have e:(a.take k).length=k:=by rw[et];omega
 rw[List.set_append_right _ _ af,e,Nat.sub_self,List.set_cons_zero];obtain⟨q,rfl⟩:∃q,k=q+1:=⟨k-1,af⟩;rw[Nat.add_sub_cancel]at c ⊢;have d:q<a.length:=af;rw[bk d]at c;rw[fh d,List.append_assoc,List.drop_eq_getElem_cons d,Option.some.inj c];rfl
theorem UA{a:List aJ}{x y:aJ}{k:Nat}(c:0<k)(d:k<=a.length)(b:a[k-1]? = IT y):(a.take k++x::a.drop k)[k-1]? = IT y:=by rw[List.getElem?_append_left (by rw[et];omega),List.getElem?_take,if_pos af];exact b
theorem EN{a:List aJ}{x y:aJ}{k:Nat}(c:k<=a.length):(a.take k++y::a.drop k).set k x=a.take k++x::a.drop k:=by
 have b:(a.take k).length=k:=by rw[et];omega
 rw[List.set_append_right _ _ af,b,Nat.sub_self,List.set_cons_zero]
def ab9(w:KX)(es:List aJ)(i:Nat)(v:J3)(W:KX):Prop:=∃a:List aJ,aG W w.heap.size v a/\eG J0 (es.take i) a/\a.length<=i/\Lg w w W
theorem Qu(v:J3)(es:List aJ)(w:KX)(hv:gR w v es)(hl:es.length<=10000):K1 prog 122 #[v] w (mS w (aH J0 es)):=by
 have HV:=ae hv;obtain⟨a,cap,rfl,-⟩:=hv;obtain⟨-,iB⟩:=eL HV.out;have HC:=ae iB;have HX:Lk (∀i,i<es.length->∃x,es[i]? = IT x):=ae (λi hi=>⟨_,bk hi⟩);have np:Lk (es.take es.length=es):=ae (ey (cg _));clear iB;generalize hN:es.length=N at *;have HN:=ae hN;clear hN;go_enter func122,ntmps122;go_wp2;go_loopw [3,4] (λov iv W=>∃i:Nat,i<=N/\iv=Kx Mm (i:Int)/\ab9 w es i ov W) (λ_ iv _=>N-(Lo iv).toNat)
 case atStart=>exact⟨0,em _,rfl,[],World.ownsRow_nil _ _ _ _,eG.nil _,cg _,kp _ _⟩
 case round=>
  generalize u3=ov at *;generalize wr=G at *;obtain⟨i,hi,rfl,b,hr,Eo,lw,hb⟩:=hrel;have HR:=ae hr;have qh:=ae Eo;have HB:=ae hb;have hz:w.heap.size<=G.heap.size:=hb.size;clear hr Eo hb;by_cases dl:i<N
  .obtain⟨x,hx⟩:=HX.out i dl;obtain⟨be,oe,rfl,f0,f1,f2,f3⟩:=HC.out G HB.out i x hx;have nT:=ae (im hx);clear hx;go_upto_region 6 with(fail)
   have cD:Lk (Lg G G (G.alloc (Mi #[Kx Mo (x.t.toNat:Int),Kx Mo (x.h.toNat:Int),Kx MJ (x.x.toNat:Int),Kx Mo (x.m.toNat:Int)] 63))):=ae aj;have S:Lk ((G.alloc (Mi #[Kx Mo (x.t.toNat:Int),Kx Mo (x.h.toNat:Int),Kx MJ (x.x.toNat:Int),Kx Mo (x.m.toNat:Int)] 63)).heap[G.heap.size]? = IT (Mi #[Kx Mo (x.t.toNat:Int),Kx Mo (x.h.toNat:Int),Kx MJ (x.x.toNat:Int),Kx Mo (x.m.toNat:Int)] 63)):=ae (Lw G _);have F:G.heap.size<(G.alloc (Mi #[Kx Mo (x.t.toNat:Int),Kx Mo (x.h.toNat:Int),Kx MJ (x.x.toNat:Int),Kx Mo (x.m.toNat:Int)] 63)).heap.size:=ai;clear f0 f1 f2 f3;generalize G.alloc (Mi #[Kx Mo (x.t.toNat:Int),Kx Mo (x.h.toNat:Int),Kx MJ (x.x.toNat:Int),Kx Mo (x.m.toNat:Int)] 63)=W1 at *;have al:=ae (HB.out.trans (cD.out.mono hz));have kS:Lk (aG W1 w.heap.size ov b):=ae (aB HR.out cD.out);have GC:Lk (∀y,ov.ownBlock=IT y->y<G.heap.size):=ae (λy H=>(aA HR.out y H).1);generalize G.heap.size=p at *;have P:w.heap.size<=W1.heap.size:=af;clear HB cD;have FQ:∀W:KX,W.heap[p]? = IT (Mi #[Kx Mo (x.t.toNat:Int),Kx Mo (x.h.toNat:Int),Kx MJ (x.x.toNat:Int),Kx Mo (x.m.toNat:Int)] 63)->W.cell? p=IT (Kx Mo (x.t.toNat:Int))/\W.cell? ⟨p,1,KK⟩=IT (Kx Mo (x.h.toNat:Int))/\W.cell? ⟨p,2,KK⟩=IT (Kx MJ (x.x.toNat:Int))/\W.cell? ⟨p,3,KK⟩=IT (Kx Mo (x.m.toNat:Int)):=λW hW=>by refine⟨?_,?_,?_,?_⟩<;>rw[au hW]<;>rfl
   have X:=ae FQ;clear FQ;by_cases NF:x.t=x.h
   .have La:Lk (eG J0 (es.take (i+1)) b):=ae (by rw[nT.out];exact qh.out.leave (.inl NF));obtain⟨Y,c1,-,-⟩:=X.out W1 S.out;rw[NF]at Y;clear NF;go_wp2;go_roundw
    case rel=>exact⟨i+1,af,by go_num,b,kS.out,La.out,af,al.out⟩
    case measure=>simp[Lo];omega
   .obtain⟨a1,a2,a3,a4,a5⟩:=Ef NF;have NG:=ae NF;obtain⟨Y,c1,-,-⟩:=X.out W1 S.out;obtain⟨oa,oc,BM⟩:∃oa oc,ov=.slice oa b.length oc:=aw kS.out;subst BM;have Z:Lk (∀W,Lg W1 W1 W->∀(j:Nat)(o:aJ),b[j]? = IT o->∃g,oa=IT ⟨g,0,KK⟩/\W.cell? ⟨g,j*4,KK⟩=IT (Kx Mo (o.t.toNat:Int))/\W.cell? ⟨g,j*4+1,KK⟩=IT (Kx Mo (o.h.toNat:Int))/\W.cell? ⟨g,j*4+2,KK⟩=IT (Kx MJ (o.x.toNat:Int))/\W.cell? ⟨g,j*4+3,KK⟩=IT (Kx Mo (o.m.toNat:Int))):=ae (λW A j o ho=>by
     rcases cJ kS.out with⟨t,h2⟩|⟨g,cap,t,hg,kl,ld⟩
     .rw[t]at ho;cases ho
     .cases t;obtain⟨e0,e1,e2,e3⟩:=bX kS.out ho;exact⟨g,rfl,bq A e0,bq A e1,bq A e2,bq A e3⟩)
    have OZ:Lk (∀j,j<b.length->∃o,b[j]? = IT o):=ae (λj hj=>⟨_,bk hj⟩);generalize Wo:b.length=n at *;have s:=ae Wo;clear Wo;go_wp2;go_loopw [6] (λO W=>∃k:Nat,k<=n/\O=k/\(∀(j:Nat)(o:aJ),j<k->b[j]? = IT o->pk J0 o<pk J0 x)/\Lg W1 W1 W) (λO _=>n-(Lo O).toNat)
    case atStart=>exact⟨0,em _,rfl,(λj o hj=>absurd hj (Nat.not_lt_zero _)),kp _ _⟩
    case round=>
     generalize wr=V at *;clear a1 a2 a3 a4 a5 Y c1;obtain⟨k,hk,rfl,CP,ee⟩:=hrel;have Sb:=ae CP;have cA:=ae ee;clear CP ee;have kT:Lk (∀W,Lg V V W->W.heap[p]? = IT (Mi #[Kx Mo (x.t.toNat:Int),Kx Mo (x.h.toNat:Int),Kx MJ (x.x.toNat:Int),Kx Mo (x.m.toNat:Int)] 63)):=ae (λW A=>((A.block _ (eg F cA.out.size)).trans (cA.out.block _ F)).trans S.out);by_cases yL:k<n
     .obtain⟨o,ho⟩:=OZ.out k yL;have T:=ae ho;clear ho;obtain⟨g,rfl,-⟩:=Z.out V cA.out k o T.out;have eS:Lk (∀W,Lg V V W->W.cell? ⟨g,k*4,KK⟩=IT (Kx Mo (o.t.toNat:Int))/\W.cell? ⟨g,k*4+1,KK⟩=IT (Kx Mo (o.h.toNat:Int))/\W.cell? ⟨g,k*4+2,KK⟩=IT (Kx MJ (o.x.toNat:Int))/\W.cell? ⟨g,k*4+3,KK⟩=IT (Kx Mo (o.m.toNat:Int))):=ae (λW A=>by obtain⟨g',e,r⟩:=Z.out W (cA.out.trans (A.mono cA.out.size)) k o T.out;cases e;exact r)
      have aR:=ae (λW=>B9 o x W);obtain⟨r,jC⟩:∃r:Bool,r=decide (pk J0 o<pk J0 x):=⟨_,rfl⟩;rw[<- jC]at aR;have R6:=ae jC;clear jC;go_wp2_with fail;refine wq V ?_;iterate 8 (refine qz ?_)
      refine qz ?_ (λw' m=>by obtain⟨e0,e1,e2,e3⟩:=eS.out w' m;go_simp<;>rfl);refine qz ?_ (λw' m=>by obtain⟨e0,e1,e2,e3⟩:=X.out w' (kT.out w' m);go_simp<;>rfl);refine qw (λw' m=>(aR.out w').mono λe f ⟨he,hb⟩=>⟨he,m.trans (hb.mono m.size)⟩) ?_;refine qz ?_;refine wpQuiet_nil ?_;intro U B;have gU:=ae (cA.out.trans (B.mono cA.out.size));have eM:Lk (∀W,Lg U U W->W.heap[p]? = IT (Mi #[Kx Mo (x.t.toNat:Int),Kx Mo (x.h.toNat:Int),Kx MJ (x.x.toNat:Int),Kx Mo (x.m.toNat:Int)] 63)):=ae (λW A=>kT.out W (B.trans (A.mono B.size)));clear B kT;cases r with
      |true=>
        have gx:Lk (∀(j:Nat)(o':aJ),j<k+1->b[j]? = IT o'->pk J0 o'<pk J0 x):=ae (λj o' hj j5=>by
         rcases lb j k with h | h
         .exact Sb.out j o' h j5
         .obtain rfl:j=k:=af
          rw[T.out]at j5;rw[<- Option.some.inj j5];exact of_decide_eq_true R6.out.symm)
        go_wp2;go_roundw
        case rel=>exact⟨k+1,af,by go_num,gx.out,gU.out⟩
        case measure=>simp[Lo];omega
      |false=>
        have OY:Lk (¬pk J0 o<pk J0 x):=ae (of_decide_eq_false R6.out.symm);have UB:Lk (∀W,Lg U U W->W.cell? ⟨g,k*4,KK⟩=IT (Kx Mo (o.t.toNat:Int))/\W.cell? ⟨g,k*4+1,KK⟩=IT (Kx Mo (o.h.toNat:Int))/\W.cell? ⟨g,k*4+2,KK⟩=IT (Kx MJ (o.x.toNat:Int))/\W.cell? ⟨g,k*4+3,KK⟩=IT (Kx Mo (o.m.toNat:Int))):=ae (λW A=>by obtain⟨g',e,r⟩:=Z.out W (gU.out.trans (A.mono gU.out.size)) k o T.out;cases e;exact r)
        have jL:=ae (λW=>B9 x o W);obtain⟨r2,dq⟩:∃r:Bool,r=decide (pk J0 x<pk J0 o):=⟨_,rfl⟩;rw[<- dq]at jL;have aE:=ae dq;clear dq aR eS;go_wp2_with fail;refine wq U ?_;iterate 5 (refine qz ?_)
        refine qz ?_ (λw' m=>by obtain⟨e0,e1,e2,e3⟩:=X.out w' (eM.out w' m);go_simp<;>rfl);iterate 3 (refine qz ?_)
        refine qz ?_ (λw' m=>by obtain⟨e0,e1,e2,e3⟩:=UB.out w' m;go_simp<;>rfl);refine qw (λw' m=>(jL.out w').mono λe f ⟨he,hb⟩=>⟨he,m.trans (hb.mono m.size)⟩) ?_;iterate 2 (refine qz ?_)
        refine wpQuiet_nil ?_;intro u C;have oZ:=ae (gU.out.trans (C.mono gU.out.size));have qZ:Lk (∀W,Lg u u W->W.heap[p]? = IT (Mi #[Kx Mo (x.t.toNat:Int),Kx Mo (x.h.toNat:Int),Kx MJ (x.x.toNat:Int),Kx Mo (x.m.toNat:Int)] 63)):=ae (λW A=>eM.out W (C.trans (A.mono C.size)));clear C eM jL UB;cases r2 with
        |false=>
          have en:Lk (pk J0 o=pk J0 x):=ae (by have t:=OY.out;have h2:=of_decide_eq_false aE.out.symm;omega)
          have YR:Lk (∀W,Lg u u W->W.cell? ⟨g,k*4,KK⟩=IT (Kx Mo (o.t.toNat:Int))/\W.cell? ⟨g,k*4+1,KK⟩=IT (Kx Mo (o.h.toNat:Int))/\W.cell? ⟨g,k*4+2,KK⟩=IT (Kx MJ (o.x.toNat:Int))/\W.cell? ⟨g,k*4+3,KK⟩=IT (Kx Mo (o.m.toNat:Int))):=ae (λW A=>by obtain⟨g',e,r⟩:=Z.out W (oZ.out.trans (A.mono oZ.out.size)) k o T.out;cases e;exact r)
          have oN:=ae (λW=>Kn x o W);obtain⟨r3,bd⟩:∃r:Bool,r=decide (rk x<rk o):=⟨_,rfl⟩;rw[<- bd]at oN;have fm:=ae bd;clear bd;go_wp2_with fail;refine wq u ?_;refine qz ?_ (λw' m=>by obtain⟨e0,e1,e2,e3⟩:=X.out w' (qZ.out w' m);go_simp<;>rfl);iterate 3 (refine qz ?_)
          refine qz ?_ (λw' m=>by obtain⟨e0,e1,e2,e3⟩:=YR.out w' m;go_simp<;>rfl);refine qw (λw' m=>(oN.out w').mono λe f ⟨he,hb⟩=>⟨he,m.trans (hb.mono m.size)⟩) ?_;refine wpQuiet_nil ?_;intro W5 kR;have uY:=ae (oZ.out.trans (kR.mono oZ.out.size));have xU:Lk (aG W5 w.heap.size (.slice (IT ⟨g,0,KK⟩) n oc) b):=ae (aB kS.out uY.out);have qY:Lk (W5.heap[p]? = IT (Mi #[Kx Mo (x.t.toNat:Int),Kx Mo (x.h.toNat:Int),Kx MJ (x.x.toNat:Int),Kx Mo (x.m.toNat:Int)] 63)):=ae (qZ.out W5 kR);have el:=ae (al.out.trans (uY.out.mono P));clear kR qZ oN YR;cases r3 with
          |true=>
            have i7:Lk (eG J0 (es.take (i+1)) (b.set k x)):=ae (by rw[nT.out];exact qh.out.over T.out (j7.1 en.out) (of_decide_eq_true fm.out.symm))
            have l:=mI xU.out (i:=k) (by rw[s.out];exact yL) x;obtain⟨e0,e1,e2,e3⟩:=bX (by rw[s.out];exact xU.out) T.out;obtain⟨Y,c1,c2,c3⟩:=X.out W5 qY.out;have z0:=cT xU.out (k*4);have z1:=cT xU.out (k*4+1);have z2:=cT xU.out (k*4+2);have z3:=cT xU.out (k*4+3);have ke:w.heap.size<=g:=aD xU.out g rfl;have VI:=ae (nW el.out ke (k*4) (k*4+1) (k*4+2) (k*4+3) (Kx Mo (x.t.toNat:Int)) (Kx Mo (x.h.toNat:Int)) (Kx MJ (x.x.toNat:Int)) (Kx Mo (x.m.toNat:Int)));have Aq:=ae l;clear l;go_wp2;go_roundw
            case rel=>exact⟨i+1,af,by go_num,b.set k x,Aq.out,i7.out,by rw[List.length_set,s.out];omega,VI.out⟩
            case measure=>simp[Lo];omega
          |false=>
            have La:Lk (eG J0 (es.take (i+1)) b):=ae (by rw[nT.out];exact qh.out.leave (.inr ⟨o,cx T.out,j7.1 en.out,Nm (of_decide_eq_false fm.out.symm)⟩))
            go_wp2;go_roundw
            case rel=>exact⟨i+1,af,by go_num,b,xU.out,La.out,by rw[s.out];omega,el.out⟩
            case measure=>simp[Lo];omega
        |true=>
          have Qv:Lk (eG J0 (es.take (i+1)) (b.take k++x::b.drop k)):=ae (by
           rw[nT.out];refine qh.out.lay NG.out (by rw[s.out];exact hk) Sb.out (λj o' hj j5=>?_);have t:pk J0 x<pk J0 o:=of_decide_eq_true aE.out.symm;rcases Nat.eq_or_lt_of_le hj with rfl | dl
           .rw[T.out]at j5;rw[<- Option.some.inj j5];exact t
           .exact Nat.lt_trans t (gK qh.out.il dl T.out j5))
          have Q:=oZ;clear qZ R6 aE;have L:Lk (aG u w.heap.size (.slice (IT ⟨g,0,KK⟩) n oc) b):=ae (aB kS.out Q.out);have am:w.heap.size<=u.heap.size:=cp P Q.out.size;have P5:b.length<=100000:=by rw[s.out];omega
          have de:p<u.heap.size:=eg F Q.out.size;have CZ:Lk (u.heap[p]? = IT (Mi #[Kx Mo (x.t.toNat:Int),Kx Mo (x.h.toNat:Int),Kx MJ (x.x.toNat:Int),Kx Mo (x.m.toNat:Int)] 63)):=ae ((Q.out.block _ F).trans S.out);obtain⟨Y,c1,c2,c3⟩:=X.out u CZ.out;go_wp2_with (at_builtin;refine bR rfl _ _ rfl w.heap.size _ b rfl L.out x 1 rfl P5 am ?_);intro v6 W6 I uB;have mo:=ae (IC (al.out.trans (Q.out.mono P)) L.out uB);have nB:u.heap.size<(u.alloc (Mi #[Kx Mo (x.t.toNat:Int),Kx Mo (x.h.toNat:Int),Kx MJ (x.x.toNat:Int),Kx Mo (x.m.toNat:Int)] 63)).heap.size:=ai;have ce:Lk (W6.heap[p]? = IT (Mi #[Kx Mo (x.t.toNat:Int),Kx Mo (x.h.toNat:Int),Kx MJ (x.x.toNat:Int),Kx Mo (x.m.toNat:Int)] 63)):=ae (((uB.1.block p af (λe=>Nm (GC.out p e.symm))).trans ((MapKept.heap_alloc u _).2 p de)).trans CZ.out);have YS:∀y,v6.ownBlock=IT y->p≠y:=λy H e=>by
           rcases uB.2 with h | h
           .rw[h]at H;have:=GC.out y H;omega
           .rw[h]at H;have:=Option.some.inj H;omega
          obtain⟨n1,tQ⟩:∃n1:Nat,n1=n+1:=⟨_,rfl⟩;have EO:(b++[x]).length=n1:=by rw[eh,s.out,tQ];rfl
          obtain⟨E,c6,rfl⟩:∃g c,v6=.slice (IT ⟨g,0,KK⟩) n1 c:=by
           rcases cJ I with⟨t,_⟩|⟨g,c,t,_⟩
           .simp at t
           .exact⟨g,c,by rw[<- EO];exact t⟩
          have ff:p≠E:=YS E rfl;have ac:w.heap.size<=E:=aD I E rfl;have gE:(n1:Int)-1=(n:Int):=af;have i6:n<n1:=af;have YT:n1<=c6/\c6<=maxLen:=by
           rcases cJ I with⟨t,_⟩|⟨g,c,t,_,h2,h3⟩
           .simp at t
           .rw[EO]at t h2;cases t;exact⟨h2,h3⟩
          obtain⟨jj,Qw⟩:=YT;unfold maxLen at Qw;have Hs:Lk (aG W6 w.heap.size (.slice E n1 c6) (b.take n++x::b.drop n)):=ae (by rw[ey (by rw[s.out];exact cg _),GP (by rw[s.out];exact cg _)];exact I)
          have Cm:=ae tQ;clear I uB YS EO tQ nB Y c1 c2 c3;go_wp2;go_loopw [7] (λO W=>∃(d:Nat)(y:aJ),k<=d/\d<=n/\O=d/\aG W w.heap.size (.slice E n1 c6) (b.take d++y::b.drop d)/\Lg w w W/\W.heap[p]? = IT (Mi #[Kx Mo (x.t.toNat:Int),Kx Mo (x.h.toNat:Int),Kx MJ (x.x.toNat:Int),Kx Mo (x.m.toNat:Int)] 63)) (λO _=>(Lo O).toNat)
          case atStart=>exact⟨n,x,hk,cg _,rfl,Hs.out,mo.out,ce.out⟩
          case round=>
           generalize wr=W7 at *;obtain⟨d,y,gt,Qx,rfl,M,xH,J⟩:=hrel;have D:=ae M;have tN:=ae xH;have nu:=ae J;clear M xH J;have K:(b.take d++y::b.drop d).length=n1:=by rw[eh,it,et,ie,s.out,Cm.out];omega
           have PZ:=ae K;clear K;have ci:Lk ((b.take d++y::b.drop d)[d]? = IT y):=ae (by rw[List.getElem?_append_right (by rw[et];omega),et,s.out,tk Qx,Nat.sub_self];rfl)
           obtain⟨p0,p1,p2,p3⟩:=bX (by rw[PZ.out];exact D.out) ci.out;have z0:=cT D.out (d*4);have z1:=cT D.out (d*4+1);have z2:=cT D.out (d*4+2);have z3:=cT D.out (d*4+3);by_cases CQ:k<d
           .obtain⟨q,hq⟩:∃q:Nat,(q:Int)=d-1:=⟨d-1,af⟩;have li:(d:Int)-1=(q:Int):=hq.symm;have R:d-1=q:=af;have kw:=ae R;have ks:q<n1:=af;have du:q<b.length:=by rw[s.out];omega
            obtain⟨z,hz⟩:∃z,b[q]? = IT z:=⟨_,bk du⟩;have co:b[d-1]? = IT z:=by rw[R];exact hz
            have HZ:Lk ((b.take d++y::b.drop d)[q]? = IT z):=ae (by have:=UA (x:=y) af (by rw[s.out];exact Qx) co;rw[R]at this;exact this)
            have io:Lk ((b.take d++y::b.drop d).set d z=b.take q++z::b.drop q):=ae (by have:=Uz (x:=y) CQ (by rw[s.out];exact Qx) co;rw[R]at this;exact this)
            have l:=mI D.out (i:=d) (by rw[PZ.out];omega) z;rw[io.out]at l;have Aq:=ae l;obtain⟨s0,s1,s2,s3⟩:=bX (by rw[PZ.out];exact D.out) HZ.out;have VI:=ae (nW tN.out ac (d*4) (d*4+1) (d*4+2) (d*4+3) (Kx Mo (z.t.toNat:Int)) (Kx Mo (z.h.toNat:Int)) (Kx MJ (z.x.toNat:Int)) (Kx Mo (z.m.toNat:Int)));have iS:=ae (ND nu.out ff (d*4) (d*4+1) (d*4+2) (d*4+3) (Kx Mo (z.t.toNat:Int)) (Kx Mo (z.h.toNat:Int)) (Kx MJ (z.x.toNat:Int)) (Kx Mo (z.m.toNat:Int)));clear hq R hz co l du;go_wp2;go_roundw
            case rel=>exact⟨q,z,af,af,by first | rfl | go_num,Aq.out,VI.out,iS.out⟩
            case measure=>simp[Lo];omega
           .obtain rfl:d=k:=af
            obtain⟨Y,c1,c2,c3⟩:=X.out W7 nu.out;have l:=mI D.out (i:=d) (by rw[PZ.out];omega) x;rw[EN (by rw[s.out];exact Qx)]at l;have Aq:=ae l;have VI:=ae (nW tN.out ac (d*4) (d*4+1) (d*4+2) (d*4+3) (Kx Mo (x.t.toNat:Int)) (Kx Mo (x.h.toNat:Int)) (Kx MJ (x.x.toNat:Int)) (Kx Mo (x.m.toNat:Int)));have i8:d<n1:=af;clear l;go_wp2;go_roundw
            case rel=>exact⟨i+1,af,by go_num,b.take d++x::b.drop d,Aq.out,Qv.out,by rw[eh,it,et,ie,s.out];omega,VI.out⟩
            case measure=>simp[Lo];omega
     .obtain rfl:n=k:=af
      have Qv:Lk (eG J0 (es.take (i+1)) (b.take n++x::b.drop n)):=ae (by rw[nT.out];refine qh.out.lay NG.out (by rw[s.out];exact cg _) Sb.out (λj o' hj j5=>?_);have:=aK j5;rw[s.out]at this;omega)
      have fI:decide ((n:Int)<n)=false:=decide_eq_false af;have kd:decide (n<n)=false:=decide_eq_false af;go_wp2_with fail;go_quiet (fail)
      have B:Lg V V (V.drewN nq):=below_drewN aq _;have gU:=ae (cA.out.trans (B.mono cA.out.size));clear B;generalize V.drewN nq=U at *;go_wp2_with fail;go_quiet (fail)
      have C:Lg U U (U.drewN nq):=below_drewN aq _;have Q:=ae (gU.out.trans (C.mono gU.out.size));clear C fI kd;generalize U.drewN nq=u at *;have L:Lk (aG u w.heap.size (.slice oa n oc) b):=ae (aB kS.out Q.out);have am:w.heap.size<=u.heap.size:=cp P Q.out.size;have P5:b.length<=100000:=by rw[s.out];omega
      have de:p<u.heap.size:=eg F Q.out.size;have CZ:Lk (u.heap[p]? = IT (Mi #[Kx Mo (x.t.toNat:Int),Kx Mo (x.h.toNat:Int),Kx MJ (x.x.toNat:Int),Kx Mo (x.m.toNat:Int)] 63)):=ae ((Q.out.block _ F).trans S.out);obtain⟨Y,c1,c2,c3⟩:=X.out u CZ.out;go_wp2_with (at_builtin;refine bR rfl _ _ rfl w.heap.size _ b rfl L.out x 1 rfl P5 am ?_);intro v6 W6 I uB;have mo:=ae (IC (al.out.trans (Q.out.mono P)) L.out uB);have nB:u.heap.size<(u.alloc (Mi #[Kx Mo (x.t.toNat:Int),Kx Mo (x.h.toNat:Int),Kx MJ (x.x.toNat:Int),Kx Mo (x.m.toNat:Int)] 63)).heap.size:=ai;have ce:Lk (W6.heap[p]? = IT (Mi #[Kx Mo (x.t.toNat:Int),Kx Mo (x.h.toNat:Int),Kx MJ (x.x.toNat:Int),Kx Mo (x.m.toNat:Int)] 63)):=ae (((uB.1.block p af (λe=>Nm (GC.out p e.symm))).trans ((MapKept.heap_alloc u _).2 p de)).trans CZ.out);have YS:∀y,v6.ownBlock=IT y->p≠y:=λy H e=>by
       rcases uB.2 with h | h
       .rw[h]at H;have:=GC.out y H;omega
       .rw[h]at H;have:=Option.some.inj H;omega
      obtain⟨n1,tQ⟩:∃n1:Nat,n1=n+1:=⟨_,rfl⟩;have EO:(b++[x]).length=n1:=by rw[eh,s.out,tQ];rfl
      obtain⟨E,c6,rfl⟩:∃g c,v6=.slice (IT ⟨g,0,KK⟩) n1 c:=by
       rcases cJ I with⟨t,_⟩|⟨g,c,t,_⟩
       .simp at t
       .exact⟨g,c,by rw[<- EO];exact t⟩
      have ff:p≠E:=YS E rfl;have ac:w.heap.size<=E:=aD I E rfl;have gE:(n1:Int)-1=(n:Int):=af;have i6:n<n1:=af;have YT:n1<=c6/\c6<=maxLen:=by
       rcases cJ I with⟨t,_⟩|⟨g,c,t,_,h2,h3⟩
       .simp at t
       .rw[EO]at t h2;cases t;exact⟨h2,h3⟩
      obtain⟨jj,Qw⟩:=YT;unfold maxLen at Qw;have Hs:Lk (aG W6 w.heap.size (.slice E n1 c6) (b.take n++x::b.drop n)):=ae (by rw[ey (by rw[s.out];exact cg _),GP (by rw[s.out];exact cg _)];exact I)
      have Cm:=ae tQ;clear I uB YS EO tQ nB Y c1 c2 c3;go_wp2;go_loopw [7] (λO W=>∃(d:Nat)(y:aJ),n<=d/\d<=n/\O=d/\aG W w.heap.size (.slice E n1 c6) (b.take d++y::b.drop d)/\Lg w w W/\W.heap[p]? = IT (Mi #[Kx Mo (x.t.toNat:Int),Kx Mo (x.h.toNat:Int),Kx MJ (x.x.toNat:Int),Kx Mo (x.m.toNat:Int)] 63)) (λO _=>(Lo O).toNat)
      case atStart=>exact⟨n,x,hk,cg _,rfl,Hs.out,mo.out,ce.out⟩
      case round=>
       generalize wr=W7 at *;obtain⟨d,y,gt,Qx,rfl,M,xH,J⟩:=hrel;have D:=ae M;have tN:=ae xH;have nu:=ae J;clear M xH J;have K:(b.take d++y::b.drop d).length=n1:=by rw[eh,it,et,ie,s.out,Cm.out];omega
       have PZ:=ae K;clear K;have ci:Lk ((b.take d++y::b.drop d)[d]? = IT y):=ae (by rw[List.getElem?_append_right (by rw[et];omega),et,s.out,tk Qx,Nat.sub_self];rfl)
       obtain⟨p0,p1,p2,p3⟩:=bX (by rw[PZ.out];exact D.out) ci.out;have z0:=cT D.out (d*4);have z1:=cT D.out (d*4+1);have z2:=cT D.out (d*4+2);have z3:=cT D.out (d*4+3);by_cases CQ:n<d
       .omega
       .obtain rfl:d=n:=af
        obtain⟨Y,c1,c2,c3⟩:=X.out W7 nu.out;have l:=mI D.out (i:=d) (by rw[PZ.out];omega) x;rw[EN (by rw[s.out];exact Qx)]at l;have Aq:=ae l;have VI:=ae (nW tN.out ac (d*4) (d*4+1) (d*4+2) (d*4+3) (Kx Mo (x.t.toNat:Int)) (Kx Mo (x.h.toNat:Int)) (Kx MJ (x.x.toNat:Int)) (Kx Mo (x.m.toNat:Int)));have i8:d<n1:=af;clear l;go_wp2;go_roundw
        case rel=>exact⟨i+1,af,by go_num,b.take d++x::b.drop d,Aq.out,Qv.out,by rw[eh,it,et,ie,s.out];omega,VI.out⟩
        case measure=>simp[Lo];omega
  .obtain rfl:N=i:=af
   go_wp2;go_ret;refine⟨_,rfl,?_,HB.out⟩;have h:=qh.out;rw[np.out]at h;rw[<- h.eq];exact HR.out
theorem agK{x y:aJ}:(y.t=x.t/\y.h=x.h/\y.x=x.x/\y.m=x.m)↔y=x:=by cases x;cases y;simp
instance arf:DecidableEq aJ:=λy x=>decidable_of_iff (y.t=x.t/\y.h=x.h/\y.x=x.x/\y.m=x.m) agK
noncomputable section
def aY(es:List aJ)(v:Nat):List aJ:=eJ J0 v (aH J0 es)
def eD(es:List aJ)(v:Nat):List aJ:=eJ Jd v (aH Jd es)
def YU(l:List Nat):List Nat:=l.foldl (λa x=>if x∈a then a else a++[x]) []
def dD(es:List aJ)(v:Nat):List Nat:=YU ((aY es v).map (·.h.toNat)++(eD es v).map (·.t.toNat))
structure sO where
 v:Nat
 k:Nat
 n:List Nat
def Qy(i o s:Nat)(x:bZ):Nat:=(Qr i o s x.l.toNat x.g.toNat).toNat
def nL(es:List aJ)(v:Nat)(x:bZ):sO:=⟨v,Qy (eD es v).length (aY es v).length (ju (aY es) (λ_=>J0) (eD es v) (h9 v)).length x,dD es v⟩
def dy(es:List aJ)(vs:List bZ):List sO:=vs.zipIdx.filterMap λp=>if p.1.r=4294967295 then IT (nL es p.2 p.1) else KK
def dh(a b:sO):Prop:=a.k<b.k\/a.k=b.k/\a.v<b.v
instance(a b:sO):Decidable (dh a b):=by unfold dh;infer_instance
def Cb(c:List sO)(v:Nat):Prop:=∃a∈c,∃b∈c,b.v∈a.n/\a.v≠b.v/\(dh a b/\b.v=v\/¬dh a b/\a.v=v)
instance(cs:List sO)(v:Nat):Decidable (Cb cs v):=by unfold Cb;infer_instance
def jc(a:List sO):List Nat:=(a.map (·.v)).filter λv=>¬Cb a v
def aP(es:List aJ)(vs:List bZ):List Nat:=jc (dy es vs)
def fe(es:List aJ)(ch:List Nat):List aJ:=(aH J0 es).filter λx=>x.t.toNat ∉ ch/\x.h.toNat ∉ ch
def eK(es:List aJ)(ch:List Nat)(v:Nat):List aJ:=ju (aY es) (λw=>decide (w∈ch)) (eD es v) (h9 v)
def gB(es:List aJ)(ch:List Nat):List aJ:=fe es ch++ch.flatMap (eK es ch)
def rh(es:List aJ)(ch:List Nat):List aJ:=ch.flatMap (aY es)
def dU(es:List aJ)(ch:List Nat):List aJ:=ch.flatMap (eD es)
def eX(lv:UInt32)(vs:List bZ)(w:Nat):List bZ:=vs.modify w λx=>⟨x.r,if x.l<lv then lv else x.l,x.g+1⟩
def gq(es:List aJ)(was:List bZ)(done gen:Nat)(vs:List bZ)(i v:Nat):List bZ:=
 (dD es v).foldl (eX (((was[v]?).map (·.l)).getD 0+1)) (vs.modify v λx=>⟨h9 (done+i),h9 (gen+1),x.g⟩)
def dE(es:List aJ)(was:List bZ)(done gen:Nat)(ch:List Nat):List bZ:=ch.zipIdx.foldl (λvs p=>gq es was done gen vs p.2 p.1) was
end
theorem YV{b a:Bool}{l:List aJ}{x:aJ}(h:x∈aH b l):x∈aH a l:=by rw[<- uA b a l]at h;exact((bM b (aH a l)).mem x h).1
theorem lz{b:Type}[DecidableEq b]{l₁:List b}:∀{l₂:List b},l₁.Nodup->(∀x∈l₁,x∈l₂)->l₁.length<=l₂.length:=by
 induction l₁ with
 |nil=>simp
 |cons a l c=>
   intro l₂ h d;obtain⟨s,t,rfl⟩:=List.append_of_mem (d a ai);rw[List.nodup_cons]at h;have:=c (l₂:=s++t) h.2 (λx e=>M2)
   grind
theorem C0{b:Bool}{v:Nat}{l:List aJ}{x:aJ}(h:x∈eJ b v l):x∈l/\fY b x=v:=by grind [eJ]
section
variable {w0 w:KX}{pb db n:Nat}{o o':ay}{d d':Dsk}{L:aL}
theorem Held.kept(h:Held w0 w pb db n o d L):Kept 131072 w0 w pb db n o d L:=⟨h.bh,h.new,h.below,h.dS,h.dead,h.bU⟩
theorem Held.agL{b:KX}(h:Held b w pb db n o d L)(a:Lg w0 w0 b):Held w0 w pb db n o d L:=
 ⟨h.bh,λx t c=>cp a.size (h.new x t c),a.trans (h.below.mono a.size),h.dS,h.dead,h.bU⟩
end
section
variable {C:KX->Prop}{Pd:Nat->J3->KX->Prop}{l h:List Oper}{a0:Act}
structure Ko(C:KX->Prop)(Pd:Nat->J3->KX->Prop)(h:List Oper)(a0:Act)(listed:Array Bool)(a:Act)(w:KX):Prop where
 cls:C w
 Sj:a.tmps.size=a0.tmps.size
 dfr:a.defers=a0.defers
 out:∀k,(∀o∈h,o.dst≠IT k)->a.tmps[k]? = a0.tmps[k]?
 slot:∀(i:Nat)(o:Oper)(k:Nat),h[i]? = IT o->o.dst=IT k->listed.getD i Jd=Jd->∃v,a.tmps[k]? = IT v/\Pd i v w
def NH(P:Program)(Pd:Nat->J3->KX->Prop)(l:List Oper)(i:Nat)(o:Oper)(a:Act)(w:KX):Prop:=Region.wanted o (yielded l.toArray a.tmps)=Jd/\vh P Pd i o a w
theorem Qz{n g:Nat}(hh:h=l.take n)(hn:n<l.length)(hs:Region.sinkB .any l.toArray n=Jd)(hc:Region.chainB .any l.toArray n=Jd)(Z:∀(i:Nat)(o:Oper),h[i]? = IT o->∀e∈o.after,e.on<i)(hd:∀(i j:Nat)(oi y:Oper)(k:Nat),h[i]? = IT oi->h[j]? = IT y->oi.dst=IT k->y.dst=IT k->i=j)(hb:∀o∈h,∀k,o.dst=IT k->k<a0.tmps.size)(A:∀w w',C w->Lg w w w'->C w')(hP:∀i v(w:KX)w',Lg w w w'->Pd i v w->Pd i v w')(z:∀(i:Nat)(o:Oper),h[i]? = IT o->∀a w,C w->lx Pd h a0 o a w->NH P Pd l i o a w)(hL:∀c a w,HeadInv .any l.toArray n c->Ko C Pd h a0 c a w->(∀i,i<n->c.getD i Jd=Jd)->wpAny P .any l.toArray Q g c a w)(f:Nat) :
 ∀(c:Array Bool)(a:Act)(w:KX),HeadInv .any l.toArray n c->Ko C Pd h a0 c a w->(c.toList.take n).count J0=f->wpAny P .any l.toArray Q (f+g) c a w:=by
 have jM:∀i,i<n->h[i]? = l[i]? := λi hi=>by rw[hh,qb hi]
 induction f with
 |zero=>
   intro c a w I m hf;rw[j0];refine hL _ _ _ I m (λi hi=>?_);rw[iD];cases e:c[i]? with
   |none=>rfl
   |some b=>
     cases b with
     |true=>rfl
     |false=>
       exfalso
       have p:J0∈c.toList.take n:=cx (i:=i) (by rw[qb hi,ri];exact e);have:=IN.2 p;omega
 |succ f ih=>
   intro c a w I m hf;have V:c.size=l.length:=by simpa using I.size
   obtain⟨u,x,O⟩:∃u,u<n/\c.getD u Jd=false:=by
    have p:0<(c.toList.take n).count false:=af;obtain⟨u,x⟩:=hY.1 (IN.1 p);have G:u<n:=by have:=(e7.1 x).1;rw[et]at this;omega
    rw[qb G,ri]at x;exact⟨u,G,by rw[iD,x];rfl⟩
   have r:Region.ready .any l.toArray c≠[]:=by
    have Y:∀u,u<n->c.getD u Jd=J0->Region.ready .any l.toArray c≠[]:=by
     intro u;induction u using IF with
     |_ u T=>
       intro x O;by_cases q:∀e∈(l[u]'(af)).after,Region.binds .any e=Jd->c.getD e.on J0=Jd
       .intro S;have:u∈Region.ready .any l.toArray c:=mem_ready.2 ⟨O,l[u]'(af),by simp[show u<l.length by omega],q⟩;rw[S]at this;cases this
       .have:∃e∈(l[u]'(af)).after,c.getD e.on J0=false:=by
         apply Classical.byContradiction;intro al;refine q (λe M _=>?_);cases J:c.getD e.on J0 with
         |true=>rfl
         |false=>exact absurd ⟨e,M,J⟩ al
        obtain⟨e,M,J⟩:=this;have s:=Z u (l[u]'(af)) (by rw[jM u x];exact bk af) e M;refine T e.on s af ?_;rw[iD]at J ⊢;have N:e.on<c.size:=af;rw[wS N]at J ⊢;exact J
    exact Y u x O
   rw[show f+1+g=(f+g)+1 by omega];refine⟨λS=>absurd S r,λi hi=>?_⟩;have N:i<n:=by
    rcases lb i n with p | p
    .exact p
    .exact absurd hi (tail_waits hs hc (by simpa using hn) I _ u rfl x O i p)
   obtain⟨D,o,ho,q⟩:=mem_ready.1 hi;have R:h[i]? = IT o:=by rw[jM i N];simpa using ho
   have L:o∈h:=cx R;have Yl:lx Pd h a0 o a w:=⟨m.out,m.Sj,λe M Le y k B t=>m.slot _ y k B t (by
    have p:=q e M Le;rw[iD]at p ⊢;cases W:c[e.on]? with
    |none=>rw[W]at p;cases p
    |some b=>rw[W]at p;exact p)⟩
   obtain⟨hw,X⟩:=z i o R a w m.cls Yl;unfold wpOp;rw[ho];simp only[hw,if_true];refine .inl (X _ _ (λv w' K U=>ih _ _ _ (I.set hi N) ⟨A _ _ m.cls K,?_,?_,λk t=>?_,λj y k B t F=>?_⟩ ?_))
   .unfold Act.put;cases o.dst with
    |none=>exact m.Sj
    |some d=>simp[m.Sj]
   .unfold Act.put;cases o.dst with
    |none=>exact m.dfr
    |some d=>exact m.dfr
   .unfold Act.put;cases QA:o.dst with
    |none=>exact m.out k t
    |some d=>have r:d≠k:=λe=>t o L (by rw[QA,e]);simp only[A0 r];exact m.out k t
   .by_cases fK:i=j
    .subst fK;rw[R]at B;obtain rfl:=Option.some.inj B;refine⟨v,?_,U⟩;unfold Act.put;rw[t];have H:=hb o L k t;rw[<- m.Sj]at H;simp[H]
    .have ac:c.getD j Jd=true:=by rw[iD,A0 fK]at F;rw[iD];exact F
     obtain⟨u,E,T7⟩:=m.slot j y k B t ac;refine⟨u,?_,hP _ _ _ _ K T7⟩;unfold Act.put;cases QA:o.dst with
     |none=>exact E
     |some d=>have r:d≠k:=λe=>fK (hd i j o y k R B (by rw[QA,e]) t);simp only[A0 r];exact E
   .have xG:c[i]? = IT false:=by
     rw[iD]at D;cases h:c[i]? with
     |none=>rw[h]at D;cases D
     |some b=>rw[h]at D;simp at D;rw[D]
    have s:i<(c.toList.take n).length:=by rw[et,Array.length_toList,V];omega
    rw[Array.toList_setIfInBounds,List.take_set];have p:(c.toList.take n)[i]? = IT false:=by rw[qb N,ri];exact xG
    have W:(c.toList.take n).count J0=((c.toList.take n).set i Jd).count J0+1:=by rw[List.count_set s];rw[bk s]at p;have h3:=Option.some.inj p;rw[h3];have h4:0<(c.toList.take n).count false:=IN.2 (cx (by rw[bk s,h3]));rw[if_pos ag,if_neg ag];omega
    omega
def Sz(l:List Oper)(n:Nat):Bool:=
 l.all (λo=>match o.dst with | some k=>decide (k<n) | none=>Jd) &&
  (kk l.length).all λi=>(kk l.length).all λj=>decide (i=j) || (match (l[i]?).bind (·.dst),(l[j]?).bind (·.dst) with | some a,IT b=>decide (a≠b) | _,_=>Jd)
theorem YW{b:Array Bool}{a:Act}{w:KX}(d:Ko C Pd h a0 b a w)(m:∀i,i<h.length->b.getD i Jd=Jd)(B:Sz h a0.tmps.size=Jd)(y:(h.all λo=>o.dst.isSome)=Jd) :
 ∃vs:List J3,vs.length=h.length/\(∀i v,vs[i]? = IT v->Pd i v w)/\a=jt a0 h vs:=by
 rw[ms]at y;have J:∀(i:Nat)(o:Oper),h[i]? = IT o->∃k,o.dst=IT k:=λi o c=>Option.isSome_iff_exists.1 (y o (cx c));have D:∀(i:Nat)(o:Oper)(k:Nat),h[i]? = IT o->o.dst=IT k->∃v,a.tmps[k]? = IT v/\Pd i v w:=λi o k c g=>d.slot i o k c g (m i (e7.1 c).1);simp only[Sz,j4,ms]at B;obtain⟨L,G⟩:=B;have x:∀(i j:Nat)(u l:Oper)(k:Nat),h[i]? = IT u->h[j]? = IT l->u.dst=IT k->l.dst=IT k->i=j:=λi j u l k hi q H s=>by
  have f:=G i (j3.2 (e7.1 hi).1) j (j3.2 (e7.1 q).1);rw[hi,q]at f;simp only[Option.bind_some,H,s,Bool.or_eq_true,decide_eq_true_eq]at f;rcases f with f | f
  .exact f
  .exact absurd rfl f
 refine⟨h.map λo=>(o.dst.bind (a.tmps[·]?)).getD undef,dj _,λi v z=>?_,?_⟩
 .rw[j1]at z;obtain⟨o,c,rfl⟩:=Option.map_eq_some_iff.1 z;obtain⟨k,g⟩:=J i o c;obtain⟨v,r,F⟩:=D i o k c g;rw[g];simp only[Option.bind_some,r,Option.getD_some];exact F
 .obtain⟨A,K,I⟩:=qi h a0 (h.map λo=>(o.dst.bind (a.tmps[·]?)).getD undef);refine ux (by rw[A,d.Sj]) (by rw[K,d.dfr]) (λk g=>?_);rw[A]at g;by_cases E:∃o∈h,o.dst=IT k
  .obtain⟨o,c,p⟩:=E;obtain⟨i,hi⟩:=hY.1 c;obtain⟨v,r,_⟩:=D i o k hi p;rw[r];refine(AX h a0 _ i o k v hi p ?_ g (λj l q t=>x j i l o k q hi t p)).symm;rw[j1,hi];simp[p,r]
  .have n:∀o∈h,o.dst≠IT k:=λo c e=>E ⟨o,c,e⟩;rw[I k n,d.out k n]
def NI(l:List Oper)(n m:Nat):Bool:=
 decide (n<l.length) && Region.sinkB .any l.toArray n && Region.chainB .any l.toArray n && Sz (l.take n) m && (l.take n).all (λo=>o.dst.isSome) &&
  ((kk n).all λi=>match l[i]? with | some o=>o.after.toList.all (λe=>decide (e.on<i)) | none=>Jd) &&
  Region.seqB .any l.toArray (l.length-n) n ((Array.range l.length).map λi=>decide (i<n))
theorem lA{M:Nat}{w:KX}(C:KX->Prop)(Pd:Nat->J3->KX->Prop)(n:Nat)(O:P.follows .mixedOrders=Jd)(G:NI l n a0.tmps.size=Jd)(hC:C w.drew)(p:∀w w',C w->Lg w w w'->C w')(K:∀i v(w:KX)w',Lg w w w'->Pd i v w->Pd i v w')(f:∀(i:Nat)(o:Oper),(l.take n)[i]? = IT o->∀a w,C w->lx Pd (l.take n) a0 o a w->NH P Pd l i o a w)(s:∀(vs:List J3)w',C w'->vs.length=n->(∀i v,vs[i]? = IT v->Pd i v w')->wpList P l.toArray Q (l.drop n) (jt a0 (l.take n) vs) w'):(Code.region M l.toArray Jd).wp P Q a0 w:=by
 simp only[NI,j4,decide_eq_true_eq]at G;obtain⟨⟨⟨⟨⟨⟨S,hs⟩,N⟩,hrel⟩,Y⟩,y⟩,x⟩:=G;have z:(l.take n).length=n:=by simp;omega
 have hR:=hrel;simp only[Sz,j4,ms]at hrel;obtain⟨U,R⟩:=hrel;rw[ms]at y;refine wp_region_any O ?_;have I:HeadInv .any l.toArray n (xj l.toArray.size J0):=
  ⟨ai,λj J _ r=>(by rw[getD_replicate_false]at r;cases r),λt _ T=>getD_in (by simpa using T) (getD_replicate_false _ _)⟩
 have u:=Qz (P:=P) (C:=C) (Pd:=Pd) (l:=l) (h:=l.take n) (a0:=a0) (n:=n) (g:=l.length-n) (Q:=Q) rfl S hs N (λi o m e Z=>?_) (λi j oi J k hi H W A=>?_) (λo m k V=>?_) p K f
  (λc a w' E q d=>?_) n (xj l.toArray.size J0) a0 w.drew I ⟨hC,rfl,rfl,λ_ _=>rfl,λi o k m _ r=>?_⟩ ?_
 .rw[show n+(l.length-n)=l.toArray.size by simp;omega]at u;exact u
 .have hi:i<n:=by have:=(e7.1 m).1;rw[z]at this;exact this
  have b:=y i (j3.2 hi);rw[qb hi]at m;rw[m]at b;simp only[ms,decide_eq_true_eq]at b;exact b e (by simpa using Z)
 .have b:=R i (j3.2 (e7.1 hi).1) j (j3.2 (e7.1 H).1);rw[hi,H]at b;simp only[Option.bind_some,W,A,Bool.or_eq_true,decide_eq_true_eq]at b;rcases b with b | b
  .exact b
  .exact absurd rfl b
 .have b:=U o m;rw[V]at b;simpa using b
 .have B:c.size=l.length:=by simpa using E.size
  have D:c=(Array.range l.length).map λi=>decide (i<n):=by
   apply Array.ext
   .simp[B]
   .intro i F g2;simp only[Array.getElem_map,Array.getElem_range];by_cases hi:i<n
    .have b:=d i hi;rw[iD,wS F]at b;rw[decide_eq_true hi];exact b
    .have b:=E.tail i af (by simp;omega);rw[iD,wS F]at b;rw[decide_eq_false hi];exact b
  obtain⟨vs,X,L,rfl⟩:=YW q (λi hi=>d i (by rw[z]at hi;exact hi)) hR Y;have:=wpAny_of_seq (P:=P) (md:=.any) (ops:=l.toArray) (Q':=Q) (l.drop n) n c (jt a0 (l.take n) vs) w' (λj=>by simp[List.getElem?_drop]) (by rw[D,ie];exact x) (s vs w' q.cls (by rw[X,z]) L);rwa [ie]at this
 .exfalso
  have hi:i<l.length:=by have:=(e7.1 m).1;rw[z]at this;omega
  rw[iD]at r;simp[hi]at r
 .rw[Array.toList_replicate,List.take_replicate];simp;omega
end
theorem fG{w:KX}{base:Nat}{v:J3}{es:List aJ}(h:aG w base v es):gR w v es:=by
 rcases cJ h with⟨rfl,b⟩|⟨g,cap,rfl,l,k,i⟩
 .obtain⟨a,cap,rfl⟩:=aw h;exact⟨a,cap,rfl,.inl rfl⟩
 .refine⟨IT ⟨g,0,KK⟩,cap,rfl,.inr ⟨g,0,rfl,λj x f=>?_⟩⟩;obtain⟨b,e,c,d⟩:=bX h f;rw[j0];exact⟨b,e,c,d⟩
section
variable {S:Nat->Prop}{w0 w:KX}{pb db n gb gen N ob ib vb:Nat}{o o':ay}{d d':Dsk}{L:aL}
theorem eF.YX(h:eF w o gb pb gen N ob ib vb)(a:Moved S n pb db w o d w' o' d' L')(b:∀x,x<w.heap.size->¬S x):eF w' o' gb pb gen N ob ib vb:=
 ⟨h.raw.moved a h.ogb (b _ h.raw.lt),h.out.moved a h.Yr (b _ h.out.lt),h.vH.moved a h.oib (b _ h.vH.lt),h.wR.moved a h.P9 (b _ h.wR.lt),a.free h.raw.lt h.ogb,a.free h.out.lt h.Yr,a.free h.vH.lt h.oib,a.free h.wR.lt h.P9⟩
def QB(x:aJ):Value:=.agg #[x.t,x.h,x.x,x.m]
theorem QD(f:aV)(h:Held w0 w pb db n o d L)(j:need L<=131072)(a:eF w o gb pb gen N ob ib vb){es:List aJ}(b:aI L (aF 101 gen)=IT (az es fl)):K1 prog 118 #[ptrTo gb] w λe w'=>∃d' o',e=Mk (Ly #[es.length,Kx Mm 0])/\Moved (λ_=>False) n pb db w o d w' o' d' L:=by refine(ED f h.bh a b).mono ?_;rintro e w'⟨c,d',o',⟨x,rfl,g⟩,k,i⟩;grind [Held.wX]
theorem UD(k:aV)(h:Held w0 w pb db n o d L)(m:need L<=131072)(b:eF w o gb pb gen N ob ib vb){es:List aJ}(j:aI L (aF 101 gen)=IT (az es fl)){i:Nat}{x:aJ}(hi:es[i]? = IT x):K1 prog 119 #[ptrTo gb,i] w λe w'=>∃d' o',e=Mk (Ly #[QB x,Kx Mm 0])/\Moved (λ_=>False) n pb db w o d w' o' d' L:=by refine(Ki k h.bh b j hi).mono ?_;rintro e w'⟨c,d',o',y,rfl,a,g,l,-⟩;have f:c=0:=h.wX a g m;subst f;rw[l rfl];exact⟨d',o',rfl,a⟩
def lB(n a db:Nat)(w:KX)(o:ay)(d:Dsk)(L:aL)(ts:List aJ)(e:Lp)(w':KX):Prop:=
 ∃v d' o',e=Mk (Ly #[v,Kx Mm 0])/\Moved (λ_=>False) n a db w o d w' o' d' L/\aG w' w.heap.size v ts/\∀x,v.ownBlock=IT x->o' x=KK
theorem NJ(m:aV)(h:Held w0 w pb db n o d L)(q:need L<=131072)(g:eF w o gb pb gen N ob ib vb){es:List aJ}(l:aI L (aF 101 gen)=IT (az (aH J0 es) Jd))(s:es.length<=1000){v:Nat}(p:v<N)(r:N<=1000):K1 prog 58 #[ptrTo gb,Kx Mo v] w (lB n pb db w o d L (eJ J0 v (aH J0 es))):=by refine(Nh m h.bh g l (B6 J0 es) (by grind [cq]) p af).mono ?_;rintro e w'⟨v',c,d',o',rfl,b,k,a,-⟩;have j:c=0:=h.wX b k q;subst j;obtain⟨f,i⟩:=a rfl;exact⟨v',d',o',rfl,b,f,i⟩
theorem ace(m:aV)(h:Held w0 w pb db n o d L)(q:need L<=131072)(g:eF w o gb pb gen N ob ib vb){es:List aJ}(l:aI L (aF 114 gen)=IT (az (aH Jd es) Jd))(s:es.length<=1000){v:Nat}(p:v<N)(r:N<=1000):K1 prog 59 #[ptrTo gb,Kx Mo v] w (lB n pb db w o d L (eJ Jd v (aH Jd es))):=by refine(Qh m h.bh g l (B6 Jd es) (by grind [cq]) p af).mono ?_;rintro e w'⟨v',c,d',o',rfl,b,k,a,-⟩;have j:c=0:=h.wX b k q;subst j;obtain⟨f,i⟩:=a rfl;exact⟨v',d',o',rfl,b,f,i⟩
theorem UE(g:aV)(h:Held w0 w pb db n o d L)(k:need L<=131072){vs:List bZ}(b:eF w o gb pb gen vs.length ob ib vb)(f:aI L (aF 118 gen)=IT (cH vs fl)){v:Nat}(i:v<vs.length)(a:v<4294967296):K1 prog 56 #[ptrTo gb,Kx Mo v] w λe w'=>∃d' o',e=Mk (Ly #[Qb vs[v],Kx Mm 0])/\Moved (λ_=>False) n pb db w o d w' o' d' L:=by refine(J9 g h.bh b f rfl v i a).mono ?_;rintro e w'⟨c,d',o',rfl,l,j⟩;grind [Held.wX]
end
def aej(l:List UInt8):Nat:=l.foldl (λa b=>a*10+(b.toNat-48)) 0
theorem UF(k:Nat):aej (Lib.decDigits k)=k:=by
 induction k using IF with
 |_ k b=>
   have a:∀j,j<10->(UInt8.ofNat (48+j)).toNat-48=j:=ag;grind [Lib.decDigits,aej]
theorem bG{c b:UInt8}{k a:Nat}(h:k≠a):aF c k≠aF b a:=by grind [aF,UF]
open Go.ChangeMaps (setBlock)
theorem pw{t:TypeId}{a b c}(h:P.underlying t=IT (.func a b c))(f:Fn)(bs d:Array J3)(w:KX):(binOp .eql t (.func f bs d) .nilFunc).run P w=.ok (.bool J0) w:=by
 have e:(Op.equalIn (9999+1) t (.func f bs d) .nilFunc).run P w=.ok J0 w:=by unfold Op.equalIn;simp[run_underlying h,Result.andThen]
 have g:(Op.equal t (.func f bs d) .nilFunc).run P w=.ok J0 w:=e;unfold binOp;simp_all
theorem cj.len{c t e:TypeId}{k:κ->J3}{f:υ->J3}{w:KX}{b:Nat}{m:List (κ×υ)}(h:cj P c k f w b m)(j:P.underlying t=IT (.map c e))(ty:TypeId):(Builtin.len_ #[t] ty #[.map (IT b)]).run P w=.ok m.length w:=by
 obtain⟨es,a,l,i,n,-,d,-⟩:=h;have g:es.size=m.length:=by have:=congrArg List.length d;grind [List.Perm.length_eq]
 rw[<- g];simp[Builtin.len_,run_underlying j,MapKept.run_getObj_map i,goInt,Result.andThen]
theorem G1{g t e:TypeId}{n:κ->J3}{k:υ->J3}(w:KX){ops:Array Oper}{rest:List Oper}{o:Oper}{a:Act}(i:o.guard=KK)(x:Operand)(d:o.op=Op.call { callee:=Callee.builtin Builtin.len,args:=#[x],argTypes:=#[t] })(l:P.underlying t=IT (.map g e))(b:Nat)(m:List (κ×υ))(j:a.eval x=.map (IT b))(h:cj P g n k w b m)(hK:wpList P ops Q rest (a.put o.dst m.length) w):wpList P ops Q (o::rest) a w:=by refine wpList_plain i λp f=>?_;have c:=h.len l o.type;unfold Oper.wp execOp;simp only[d,resolve,invoke,builtin,Sem.run_bind,Sem.run_pure,Result.andThen_ok,List.map_toArray,List.map_cons,List.map_nil,j,c];exact f _ _ hK
abbrev lC(w:KX)(b:Nat)(S:List Nat):Prop:=cj prog 33 jf (λ_:Unit=>DS #[]) w b (S.map λx=>(x,()))
theorem qR{f t e:TypeId}{l:Nat->J3}{j:Unit->J3}(w:KX){ops:Array Oper}{rest:List Oper}{o:Oper}{a:Act}(g:o.guard=KK)(x:Operand)(c:o.op=Op.call { callee:=Callee.builtin Builtin.len,args:=#[x],argTypes:=#[t] })(k:P.underlying t=IT (.map f e))(b:Nat)(d:List Nat)(i:a.eval x=.map (IT b))(h:cj P f l j w b (d.map λx=>(x,())))(hK:wpList P ops Q rest (a.put o.dst d.length) w):wpList P ops Q (o::rest) a w:=
 G1 w g x c k b _ i h (by rw[dj];exact hK)
theorem vt(S:List Nat)(x:Nat):tH (S.map λx=>(x,())) x=decide (x∈S):=by grind [tH,aI]
theorem Kp{S:List Nat}{x:Nat}(h:x ∉ S):aX (S.map λx=>(x,())) x ()=(x::S).map λx=>(x,()):=by grind [aX,rq]
section
variable {S:Nat->Prop}{n pb db:Nat}{w f:KX}{o o' g:ay}{d d' i:Dsk}{L b:aL}
theorem Moved.C5(h:Moved S n pb db w o d w' o' d' L'){B:Nat->Prop}(i:∀b,b<w'.heap.size->B b->o' b=KK/\(S b\/w.heap.size<=b))(g:aN B w' f):Moved S n pb db w o d f o' d' L':=by have c:aN (λb=>b<w'.heap.size/\B b) w' f:=g.mono (λx a j=>⟨a,j⟩);refine⟨h.bh.kept c (λx a e=>ay.eB (i x e.1 e.2).1 a) (λ_ _ h=>h) (λx t a=>eg (h.bh.owned x t a) g.size),h.turn.trans g (λx a e=>?_),h.grow,h.on⟩;grind [eg,size]
structure Ab(n pb db:Nat)(w:KX)(o:ay)(d:Dsk)(L:aL)(N:Nat)(X:Nat->Prop)(fb sb:Nat)(St:List Nat)(m:Aa)(c:Nat)(W:KX)(o':ay)(d':Dsk):Prop where
 fr:∃B,gJ W fb B m c/\∀b,B b->w.heap.size<=b/\b<W.heap.size/\o' b=KK/\b≠sb/\¬X b
 st:lC W sb St
 sg:w.heap.size<=sb/\o' sb=KK
 mv:Moved (λ_=>False) n pb db w o d W o' d' L
 gd:∀p∈m,p.1<N/\p.2<9223372036854775808/\p.1 ∉ St
variable {N fb sb c:Nat}{X:Nat->Prop}{St:List Nat}{m m':Aa}{W W':KX}{B:Nat->Prop}
theorem gJ.more(f:gJ W fb B m c)(h:c<=a):gJ W fb B m a:=by obtain⟨i,d,v,e,f,b,g,r⟩:=f;exact⟨i,d,v,e,f,b,cp g h,r⟩
theorem gJ.keys(f:gJ W fb B m c):(m.map (·.1)).Nodup:=by obtain⟨b,d,v,a,f,_⟩:=f;exact f.far.keys
theorem Ab.below(h:Ab n pb db w o d L N X fb sb St m c W o' d')(e:Lg W W W'):Ab n pb db w o d L N X fb sb St m c W' o' d':=by obtain⟨B,g,f⟩:=h.fr;exact⟨⟨B,g.kept (λb a=>e.block b (f b a).2.1),λb a=>⟨(f b a).1,eg (f b a).2.1 e.size,(f b a).2.2⟩⟩,h.st.kept (e.block _ h.st.lt),h.sg,h.mv.below e,h.gd⟩
theorem Ab.moved(h:Ab n pb db w o d L N X fb sb St m c W o' d')(j:Moved (λ_=>False) n pb db W o' d' w' g i L):Ab n pb db w o d L N X fb sb St m c w' g i:=by obtain⟨B,k,f⟩:=h.fr;refine⟨⟨B,k.kept (λb a=>j.block (f b a).2.1 (f b a).2.2.1 (λe=>e)),λb a=>⟨(f b a).1,eg (f b a).2.1 j.size,j.free (f b a).2.1 (f b a).2.2.1,(f b a).2.2.2⟩⟩,h.st.kept (j.block h.st.lt h.sg.2 (λe=>e)),⟨h.sg.1,j.free h.st.lt h.sg.2⟩,h.mv.trans j (λ_ _ e=>e),h.gd⟩
theorem Ab.turned(h:Ab n pb db w o d L N X fb sb St m c W o' d'){B j:Nat->Prop}(g:∀b,B b->w.heap.size<=b/\b<W.heap.size/\o' b=KK/\b≠sb/\¬X b)(k:aN B W W')(r:gJ W' fb j m' a)(i:∀b,j b->B b\/W.heap.size<=b/\b<W'.heap.size)(l:∀b,X b->b<W.heap.size)(q:∀p∈m',p.1<N/\p.2<9223372036854775808/\p.1 ∉ St):Ab n pb db w o d L N X fb sb St m' a W' o' d'/\∀b,X b->W'.heap[b]? = W.heap[b]? := by
 refine⟨⟨⟨j,r,λb f=>?_⟩,h.st.kept (k.block _ h.st.lt (λe=>(g _ e).2.2.2.1 rfl)),h.sg,h.mv.C5 (λb _ f=>⟨(g b f).2.2.1,.inr (g b f).1⟩) k,q⟩,λb f=>k.block b (l b f) (λe=>(g b e).2.2.2.2 f)⟩;rcases i b f with e | e
 .grind [eg,aN.size]
 .exact⟨cp h.mv.size e.1,e.2,h.mv.bh.fresh e.1,λt=>Nm h.st.lt,λs=>M2⟩
theorem Ab.settled(h:Ab n pb db w o d L N X fb sb St m c W o' d'){v:Nat}(q:v ∉ St){es:Array MapEntry}{a:Nat}(r:cj prog 33 jf (λ_:Unit=>DS #[]) (setBlock W sb (.map es a)) sb (aX (St.map λx=>(x,())) v ()))(k:∀p∈m,p.1≠v) :
 Ab n pb db w o d L N X fb sb (v::St) m c (setBlock W sb (.map es a)) o' d':=by
 obtain⟨B,j,g⟩:=h.fr;have l:(setBlock W sb (.map es a)).heap.size=W.heap.size:=by grind [setBlock]
 refine⟨⟨B,j.kept (λb f=>bm _ (g b f).2.2.2.1),λb f=>⟨(g b f).1,M2,(g b f).2.2⟩⟩,by grind [Kp],h.sg,h.mv.turned h.sg.2 (.inr h.sg.1) ((aN.refl _ W).setBlock _ _ (.inl rfl)),λp i=>⟨(h.gd p i).1,(h.gd p i).2.1,λe=>?_⟩⟩;rcases List.mem_cons.1 e with e | e
 .grind
 .exact(h.gd p i).2.2 e
theorem Ab.wider(h:Ab n pb db w o d L N X fb sb St m c W o' d'){i:Nat->Prop}(k:∀b,i b->b<W.heap.size->X b)(l:c<=a):Ab n pb db w o d L N i fb sb St m a W o' d':=by obtain⟨B,j,f⟩:=h.fr;exact⟨⟨B,j.more l,λb g=>⟨(f b g).1,(f b g).2.1,(f b g).2.2.1,(f b g).2.2.2.1,λe=>(f b g).2.2.2.2 (k b e (f b g).2.1)⟩⟩,h.st,h.sg,h.mv,h.gd⟩
theorem Ab.fresh(h:Ab n pb db w o d L N X fb sb St m c W o' d'):Ab n pb db w o d L N (λb=>W.heap.size<=b) fb sb St m c W o' d':=by obtain⟨B,g,f⟩:=h.fr;exact⟨⟨B,g,λb a=>⟨(f b a).1,(f b a).2.1,(f b a).2.2.1,(f b a).2.2.2.1,λe=>M2⟩⟩,h.st,h.sg,h.mv,h.gd⟩
theorem zC(l:List (Nat×Unit))(x:Nat):((aI l x).map (λ_:Unit=>DS #[])).getD (DS #[])=DS #[]:=by cases aI l x<;>rfl
theorem qo{A:Nat->Bool}{a:List Nat}{dist:Nat}{m:Aa}{ts:List aJ}{x:aJ}(h:ts[j]? = IT x) :
 ft A a dist m (ts.take (j+1))=if dist+x.x.toNat<9223372036854775808/\x.h.toNat ∉ a/\A x.h.toNat=J0 then pq (ft A a dist m (ts.take j)) x.h.toNat (dist+x.x.toNat) else ft A a dist m (ts.take j):=by grind [fh,ft]
theorem UG{m:Aa}{v d:Nat}{p:Nat×Nat}(h:p∈pq m v d):p∈m\/p=(v,d):=by grind [aX,jk,pq]
end
open Go.ChangeMaps (setBlock)
def rP(n a db:Nat)(w:KX)(o:ay)(d:Dsk)(L:aL)(r:Bool)(e:Lp)(w':KX):Prop:=
 ∃d' o',e=Mk (Ly #[.bool r,Kx Mm 0])/\Moved (λ_=>False) n a db w o d w' o' d' L
def NK:Option Obj->Nat
 |some (.map es _)=>es.size
 |_=>0
theorem lC.NK{W:KX}{c:Nat}{b:List Nat}(h:lC W c b):NK W.heap[c]? = b.length:=by obtain⟨es,a,l,f,d,-,e,-⟩:=h;rw[f];have:=congrArg List.length e;simp at this;show es.size=_;rw[this,d.length_eq];simp
theorem IE(w:KX):(zeroValue 207).run prog w=.ok (.agg #[]) w:=Tryz.zeroValue207 w
structure xY(w0 w:KX)(pb db n:Nat)(o:ay)(d:Dsk)(L:aL)(gb gen N ob ib vb:Nat)(es:List aJ)(A:Nat->Bool)(sv av:Nat)(K:Nat->Prop):Prop where
 held:Held w0 w pb db n o d L
 need:need L<=131072
 gr:eF w o gb pb gen N ob ib vb
 file:aI L (aF 101 gen)=IT (az (aH J0 es) Jd)
 len:es.length<=1000
 top:N<=1000
 ends:∀x∈es,x.t.toNat<N/\x.h.toNat<N
 sP:∀b,K b->b<w.heap.size/\o b=KK
 akW:∀W(x:Nat),(∀b,K b->W.heap[b]? = w.heap[b]?)->w.heap.size<=W.heap.size->x<4294967296->K1 prog 172 #[Kx Mo (x:Int),.pointer sv,.pointer av] W λe W'=>e=Mk (.bool (A x))/\Lg W W W'
section
variable {w0 w:KX}{pb db n gb gen N ob ib vb sv av:Nat}{o o':ay}{d d':Dsk}{L:aL}{es:List aJ}{A:Nat->Bool}{K:Nat->Prop}
theorem xY.moved(h:xY w0 w pb db n o d L gb gen N ob ib vb es A sv av K)(c:Moved (λ_=>False) n pb db w o d w' o' d' L):xY w0 w' pb db n o' d' L gb gen N ob ib vb es A sv av K:=
 ⟨h.held.moved c (λ_ e=>e.elim),h.need,h.gr.YX c (λ_ _ e=>e),h.file,h.len,h.top,h.ends,λb a=>⟨eg (h.sP b a).1 c.size,c.free (h.sP b a).1 (h.sP b a).2⟩,
  λW x f i g=>h.akW W x (λb a=>(f b a).trans (c.block (h.sP b a).1 (h.sP b a).2 (λe=>e))) (cp c.size i) g⟩
theorem xY.out(a:aV)(h:xY w0 w pb db n o d L gb gen N ob ib vb es A sv av K){v:Nat}(b:v<N):K1 prog 58 #[ptrTo gb,Kx Mo v] w (lB n pb db w o d L (aY es v)):=
 NJ a h.held h.need h.gr h.file h.len b h.top
theorem EP{es:List aJ}{v:Nat}{x:aJ}(h:x∈aY es v):x∈es/\x.t.toNat=v:=
 ⟨((bM J0 es).mem x (C0 h).1).1,(C0 h).2⟩
theorem qs(es:List aJ)(v:Nat):(aY es v).length<=es.length:=by have:=cq J0 es;exact cp (List.length_filter_le _ _) this
theorem NN(HW:aV)(h:xY w0 w pb db n o d L gb gen N ob ib vb es A sv av K)(u t most:Nat)(hu:u<N):K1 prog 174 #[.func (.func 58) #[ptrTo gb] #[],.func (.func 172) #[] #[.pointer sv,.pointer av],Kx Mo u,Kx Mo t,Kx MJ most] w (rP n pb db w o d L (gj (aY es) A t most 16 [(u,0)] [])):=by
 have H:=ae h;have HN:Lk (N<=1000):=ae h.top;have Yc:Lk (∀W o' d',Moved (λ_=>False) n pb db w o d W o' d' L->∀v,v<N->K1 prog 58 #[ptrTo gb,Kx Mo (v:Int)] W (lB n pb db W o' d' L (aY es v))):=ae (λW o' d' hm v hv=>(H.out.moved hm).out HW hv);clear h;obtain⟨R,HR⟩:∃R,Lk (gj (aY es) A t most 16 [(u,0)] []=R):=⟨_,ae rfl⟩;rw[HR.out];unfold ptrTo at *;have tQ:=pw Tryz.underlying138 (.func 58) #[.pointer gb] #[];have VM:=pw Tryz.underlying187 (.func 172) #[] #[.pointer sv,.pointer av];have tX:∀(t:TypeId)(W:KX),(Instr.makeMap t KK).run prog W=.ok (.map (IT W.heap.size)) (W.alloc (.map #[] 0)):=λ_ _=>rfl;have S:=ae IE;go_enter func174,ntmps174;go_wp2_with fail;clear tQ VM;go_call(Nq w) as e w1⟨rfl,zY,hb1,hs1⟩;obtain⟨B4,oZ,aE⟩:∃B:Nat->Prop,Lk (∀b,B b->w.heap.size<=b/\b<w1.heap.size+2)/\Lk (gJ ((w1.alloc (.map #[] 0)).alloc (Mi #[.pointer w.heap.size,.map (IT w1.heap.size)] 295)) (w1.heap.size+1) B [] 0):=by
  refine⟨λb=>b=w.heap.size\/b=w1.heap.size\/b=w1.heap.size+1,ae (λb a=>af),ae ⟨w.heap.size,w1.heap.size,.slice KK 0 0,[],⟨?_,?_,λj h1 h2=>M2,?_,af,af,af,by simp[B2],by simp[B2]⟩,⟨λv d e=>(by cases e),λy hy=>(by cases hy)⟩,cg _,.inr (.inr rfl),.inl rfl,.inr (.inl rfl),λb e=>(by cases e)⟩⟩
  .grind [World.alloc,ptrTo]
  .exact zY.below (aj.alloc ai _)
  .exact(cj.made w1 prog 33 jf akJ).kept ((MapKept.heap_alloc _ _).2 _ ai)
 have am:Lk (Lg w w ((w1.alloc (.map #[] 0)).alloc (Mi #[.pointer w.heap.size,.map (IT w1.heap.size)] 295))):=ae ((hb1.alloc hb1.size _).alloc (by simp;omega) _);have jh:Lk (((w1.alloc (.map #[] 0)).alloc (Mi #[.pointer w.heap.size,.map (IT w1.heap.size)] 295)).heap.size=w1.heap.size+2):=ae ai;have f:=ae (Nu aE.out af u 0 Xy);clear zY hb1 hs1;unfold ptrTo at *;go_wp2_with fail;go_call f.out as e w5⟨rfl,hf5,vG⟩;obtain⟨sb,zi⟩:=ac w5.heap.size;obtain⟨fb,al⟩:=ac (w1.heap.size+1);have FT:Lk (Ab n pb db w o d L N (λ_=>False) fb sb [] [(u,0)] 1 (w5.alloc (.map #[] 0)) o d):=ae (by
  subst zi al;have SA:=H.out.held.bh;have Y:=jh.out;have zW:=am.out.size;have S8:=vG.size;refine⟨⟨_,hf5.kept (λb a=>(MapKept.heap_alloc _ _).2 b ?_),λb a=>?_⟩,cj.made w5 prog 33 jf (λ_:Unit=>DS #[]),⟨af,SA.fresh af⟩,((Moved.aZ SA am.out).C5 (λb _ a=>⟨SA.fresh (oZ.out b a).1,.inr (oZ.out b a).1⟩) vG).alloc _,λp hp=>?_⟩
  .grind [Hid.out]
  .have h1:w.heap.size<=b/\b<w5.heap.size:=by grind [Hid.out]
   exact⟨h1.1,by simp;omega,SA.fresh h1.1,af,λe=>e⟩
  grind)
 have gt:Lk (sb<(w5.alloc (.map #[] 0)).heap.size):=ae Nc;clear f aE oZ am jh hf5 vG;go_wp2_with fail;rw[<- zi];try rw[<- al]
 clear zi al;generalize w5.alloc (.map #[] 0)=z at *;go_loopw [] (λwr=>∃St m c d' o',Lk (Ab n pb db w o d L N (λ_=>False) fb sb St m c wr o' d')/\Lk (c<=1+St.length*1000/\St.length<=16)/\Lk (gj (aY es) A t most (16-St.length) m St=R)) (λwr=>16-NK wr.heap[sb]?)
 case atStart=>grind [ae]
 case round=>
  obtain⟨St,m,c,d2,o2,Q,HC,R6⟩:=hrel;clear FT;generalize wr=Wr at *;obtain⟨B,hF,hB⟩:=Q.out.fr;have HK:=ae hF.keys;have C:=ae (Ut hF Xy);have FM:=ae hB;clear hF hB;unfold ptrTo A7 at C;go_wp2_with fail;go_call C.out as e w2 (⟨hn,rfl,ht⟩|⟨v,dd,hn,rfl,hF2,ht⟩)
  .have HQ:Lk (rP n pb db w o d L R (Mk (Ly #[.bool J0,Kx Mm 0])) w2):=ae ⟨d2,o2,by
    rw[<- R6.out];cases 16-St.length with
    |zero=>rfl
    |succ k=>rw[gj,hn],Q.out.mv.C5 (λb _ a=>⟨(FM.out b a).2.2.1,.inr (FM.out b a).1⟩) ht⟩
   clear C;go_wp2;go_returns;exact HQ.out
  .have lK:=(xW hn).1;have bd:=Q.out.gd _ lK;have r:Lk (Ab n pb db w o d L N (λ_=>False) fb sb St (b9 m v) c w2 o2 d2):=ae (Q.out.turned FM.out ht hF2 (λb a=>.inl a) (λb a=>a.elim) (λp hp=>Q.out.gd p (jk.1 hp).1)).1;have HV:Lk (v<N/\dd<9223372036854775808/\v ∉ St):=ae bd;have en:Lk (NK Wr.heap[sb]? = St.length):=ae Q.out.st.NK;have q:Lk (R=if St.length=16 then J0 else if most<dd then J0 else if v=t then Jd else gj (aY es) A t most (16-(St.length+1)) (ft A (v::St) dd (b9 m v) (aY es v)) (v::St)):=ae (by
    rw[<- R6.out];by_cases Z:St.length=16
    .rw[if_pos Z,Z];rfl
    .rw[if_neg Z,show 16-St.length=(16-(St.length+1))+1 by have:=HC.out;omega,gj,hn])
   clear C lK bd hn hF2 ht Q FM HK;by_cases jT:most<dd
   .have co:(dd:Int)>most:=af;have HQ:Lk (rP n pb db w o d L R (Mk (Ly #[.bool J0,Kx Mm 0])) w2):=ae ⟨d2,o2,by rw[q.out];simp_all,r.out.mv⟩;go_wp2;go_returns;exact HQ.out
   .have co:¬(dd:Int)>most:=af;by_cases Z:St.length=16
    .have Y:(St.length:Int)=16:=af;have HQ:Lk (rP n pb db w o d L R (Mk (Ly #[.bool J0,Kx Mm 0])) w2):=ae ⟨d2,o2,by rw[q.out,if_pos Z],r.out.mv⟩;go_wp2_with (refine qR _ rfl _ rfl Tryz.underlying205 sb St rfl r.out.st ?_);go_returns;exact HQ.out
    .have Y:¬(St.length:Int)=16:=af;by_cases du:v=t
     .have HQ:Lk (rP n pb db w o d L R (Mk (Ly #[.bool Jd,Kx Mm 0])) w2):=ae ⟨d2,o2,by rw[q.out,if_neg Z,if_neg jT,if_pos du],r.out.mv⟩;have el:(v:Int)=t:=af;go_wp2_with (refine qR _ rfl _ rfl Tryz.underlying205 sb St rfl r.out.st ?_);go_returns;exact HQ.out
     .have el:¬(v:Int)=t:=af;have ER:Lk (gj (aY es) A t most (16-(St.length+1)) (ft A (v::St) dd (b9 m v) (aY es v)) (v::St)=R):=ae (by rw[q.out,if_neg Z,if_neg jT,if_neg du]);have l:=ae (Yc.out w2 o2 d2 r.out.mv v HV.out.1);have fI:Lk (St.length<16):=ae (Nm HC.out);have HG:=ae (iK (k:=v) (No HN.out HV.out));clear q;unfold lB at l;go_wp2_with (refine qR _ rfl _ rfl Tryz.underlying205 sb St rfl r.out.st ?_);go_call l.out as e w3⟨ev,d3,o3,rfl,fD,hown,iG⟩;obtain⟨ea,i,rfl⟩:=aw hown;have gV:Lk (Ab n pb db w o d L N (λb=>(fz ea (aY es v).length i).ownBlock=IT b) fb sb St (b9 m v) c w3 o3 d3):=ae ((r.out.fresh.moved fD).wider (λb a _=>(aA hown b a).2) (cg _));have UB:=ae hown;have pW:Lk (∀b,(fz ea (aY es v).length i).ownBlock=IT b->b≠sb):=ae (λb a=>by have h1:=aA hown b a;have h2:=r.out.st.lt;omega)
      clear fD hown iG l r co Y el;obtain⟨M,hM⟩:=ac ((aY es v).length);rw[<- hM]at gV UB pW ⊢;have HM:Lk (M=(aY es v).length/\M<=1000):=ae ⟨hM,by rw[hM];exact cp (qs es v) H.out.len⟩;clear hM;go_wp2_with (at_mapUpdate;refine fL _ rfl _ _ _ _ rfl 207 cF dP Tryz.underlying205 sb _ rfl gV.out.st v () rfl rfl HG.out ?_;intro ci YZ fZ;have jg:=ae fZ;clear fZ);have jh:=ae (gV.out.settled HV.out.2.2 jg.out (λp hp=>(jk.1 hp).2));have YR:Lk (aG (setBlock w3 sb (.map ci YZ)) w2.heap.size (.slice ea M i) (aY es v)):=ae (bg UB.out (λb a=>bm _ (pW.out b a)));clear jg gV UB pW HG;generalize setBlock w3 sb (.map ci YZ)=W4 at *;go_loopw [72] (λvi wr=>∃(j:Nat)(m':Aa),vi=j/\j<=M/\Lk (Ab n pb db w o d L N (λb=>(fz ea M i).ownBlock=IT b) fb sb (v::St) m' (c+j) wr o3 d3)/\Lk (m'=ft A (v::St) dd (b9 m v) ((aY es v).take j))/\Lk (aG wr w2.heap.size (.slice ea M i) (aY es v))) (λvi _=>M-(Lo vi).toNat)
      case atStart=>exact⟨0,b9 m v,rfl,em _,jh,ae rfl,YR⟩
      case round=>
       obtain⟨j,m',rfl,hj,cE,oy,J⟩:=hrel;clear jh YR;generalize wr=I at *;by_cases gx:j<M
       .have CV:(j:Int)<M:=af;have wj:cf Mm ((j:Int)+1)=(j+1:Nat):=by grind [Hid.out,ax]
        obtain⟨x,hx⟩:∃x,(aY es v)[j]? = IT x:=⟨_,bk Xy⟩;have HX:=ae hx;have F:Lk (x.h.toNat<N/\x.h.toNat<4294967296):=ae ⟨(H.out.ends x (EP (cx hx)).1).2,x.h.toNat_lt⟩;obtain⟨g,rfl⟩:∃g,ea=IT ⟨g,0,KK⟩:=by
         obtain⟨-,⟨h1,h2⟩|⟨g,_,_,h1,_⟩⟩:=J.out
         .grind
         grind
        have dl:Lk (aG I w2.heap.size (.slice (IT ⟨g,0,KK⟩) (aY es v).length i) (aY es v)):=ae Xy;obtain⟨q0,q1,q2,q3⟩:=bX dl.out hx;have U:=ae (iK F.out.2);have iF:=ae (cE.out.below (aq.alloc (cg _) (Mi #[Kx Mo (x.t.toNat:Int),Kx Mo (x.h.toNat:Int),Kx MJ (x.x.toNat:Int),Kx Mo (x.m.toNat:Int)] 63)));have D:Lk (aG (I.alloc (Mi #[Kx Mo (x.t.toNat:Int),Kx Mo (x.h.toNat:Int),Kx MJ (x.x.toNat:Int),Kx Mo (x.m.toNat:Int)] 63)) w2.heap.size (.slice (IT ⟨g,0,KK⟩) M i) (aY es v)):=ae (aB J.out aj);have de:Lk ((I.alloc (Mi #[Kx Mo (x.t.toNat:Int),Kx Mo (x.h.toNat:Int),Kx MJ (x.x.toNat:Int),Kx Mo (x.m.toNat:Int)] 63)).heap[I.heap.size]? = IT (Mi #[Kx Mo (x.t.toNat:Int),Kx Mo (x.h.toNat:Int),Kx MJ (x.x.toNat:Int),Kx Mo (x.m.toNat:Int)] 63)):=ae (Lw _ _);have kQ:=ae (Nv dd x.x.toNat Xy x.x.toNat_lt (I.alloc (Mi #[Kx Mo (x.t.toNat:Int),Kx Mo (x.h.toNat:Int),Kx MJ (x.x.toNat:Int),Kx Mo (x.m.toNat:Int)] 63)));clear hx dl;go_wp2_with fail;go_call kQ.out as e w7⟨rfl,rfl⟩;clear q0 q1 q2 q3 kQ;generalize FW:I.heap.size=xb at *;generalize I.alloc (Mi #[Kx Mo (x.t.toNat:Int),Kx Mo (x.h.toNat:Int),Kx MJ (x.x.toNat:Int),Kx Mo (x.m.toNat:Int)] 63)=z at *;clear FW cE J;have k1:z.cell? ⟨xb,1,KK⟩=IT (Kx Mo (x.h.toNat:Int)):=by rw[au de.out];rfl
        have k2:=(Array.getElem?_eq_some_iff.1 de.out).1;by_cases V:dd+x.x.toNat<9223372036854775808
        .have SB:Qq dd x.x.toNat=Ly #[Kx MJ ((dd+x.x.toNat:Nat):Int),.bool Jd]:=if_pos V;rw[SB];obtain⟨s,hs⟩:=ac (dd+x.x.toNat);rw[<- hs]at V ⊢;have O5:=ae hs;have Xe:=ae V;clear SB hs V;by_cases VU:x.h.toNat∈v::St
         .have UH:Lk (decide (x.h.toNat∈v::St)=Jd):=ae (decide_eq_true VU);have G:=ae VU;clear VU;have P:Lk (Ab n pb db w o d L N (λb=>(fz (IT ⟨g,0,KK⟩) M i).ownBlock=IT b) fb sb (v::St) m' (c+(j+1)) (z.alloc (Mi #[] 207)) o3 d3):=ae ((iF.out.below aj).wider (λ_ e _=>e) af);have T:Lk (aG (z.alloc (Mi #[] 207)) w2.heap.size (.slice (IT ⟨g,0,KK⟩) M i) (aY es v)):=ae (aB D.out aj);have FU:Lk (m'=ft A (v::St) dd (b9 m v) ((aY es v).take (j+1))):=ae (by rw[qo HX.out,if_neg (λe=>e.2.1 G.out)];assumption);go_wp2_with (at_lookup;refine cy _ rfl _ _ _ _ rfl 207 cF dP Tryz.underlying205 (S.out _) sb _ rfl iF.out.st x.h.toNat rfl U.out ?_;rw[zC,vt];try rw[UH.out]);go_roundw
          case rel=>exact⟨j+1,m',by go_num,af,P,FU,T⟩
          grind [Lo]
         .have UH:Lk (decide (x.h.toNat∈v::St)=J0):=ae (decide_eq_false VU);have G:=ae VU;clear VU;have tN:Lk (Lg z z (z.alloc (Mi #[] 207))):=ae aj;have P:=ae (iF.out.below tN.out);have dq:=ae (H.out.akW _ x.h.toNat (λb a=>P.out.mv.block (H.out.sP b a).1 (H.out.sP b a).2 (λe=>e)) P.out.mv.size F.out.2);go_wp2_with (at_lookup;refine cy _ rfl _ _ _ _ rfl 207 cF dP Tryz.underlying205 (S.out _) sb _ rfl iF.out.st x.h.toNat rfl U.out ?_;rw[zC,vt];try rw[UH.out]);go_call dq.out as e w8⟨rfl,vF⟩;have O:=ae (P.out.below vF);have E:=ae (aB (aB D.out tN.out) vF);have k3:w8.cell? ⟨xb,1,KK⟩=IT (Kx Mo (x.h.toNat:Int)):=EI vF (EI tN.out k1);clear dq vF P D k1 k2;by_cases hA:A x.h.toNat=Jd
          .rw[hA];have vR:Lk (m'=ft A (v::St) dd (b9 m v) ((aY es v).take (j+1))):=ae (by rw[qo HX.out,if_neg (λe=>Nc)];assumption);have tR:Lk (Ab n pb db w o d L N (λb=>(fz (IT ⟨g,0,KK⟩) M i).ownBlock=IT b) fb sb (v::St) m' (c+(j+1)) w8 o3 d3):=ae (O.out.wider (λ_ e _=>e) af);clear hA;go_wp2;go_roundw
           case rel=>exact⟨j+1,m',by go_num,af,tR,vR,E⟩
           grind [Lo]
          .have X:A x.h.toNat=false:=Nc;rw[X];obtain⟨B,hF,hB⟩:=O.out.fr;have f:=ae (Nu hF (No HC.out HM.out) x.h.toNat s F.out.2);have FM:=ae hB;have fm:=ae X;clear hF hB hA X;unfold ptrTo EM at f;go_wp2_with fail;go_call f.out as e w9⟨rfl,hf9,ht9⟩;obtain⟨ce,ee⟩:=O.out.turned FM.out ht9 hf9 (λb a=>a) (λb a=>(aA E.out b a).1) (λp hp=>(UG hp).elim (O.out.gd p) (λe=>by rw[e];exact⟨F.out.1,Xe.out,G.out⟩));have tR:Lk (Ab n pb db w o d L N (λb=>(fz (IT ⟨g,0,KK⟩) M i).ownBlock=IT b) fb sb (v::St) (pq m' x.h.toNat s) (c+(j+1)) w9 o3 d3):=ae ce;have ff:=ae (bg E.out (λb a=>ee b a));have Sm:Lk (pq m' x.h.toNat s=ft A (v::St) dd (b9 m v) ((aY es v).take (j+1))):=ae (by rw[qo HX.out,if_pos ⟨by rw[<- O5.out];assumption,G.out,fm.out⟩,<- oy.out,O5.out]);clear f hf9 ht9 ce ee O E k3;go_wp2;go_roundw
           case rel=>exact⟨j+1,_,by go_num,af,tR,Sm,ff⟩
           grind [Lo]
        .have SB:Qq dd x.x.toNat=Ly #[Kx MJ 0,.bool J0]:=if_neg V;rw[SB];have Xe:=ae V;clear SB V;have UH:=ae (Eq.refl 0);have P:Lk (Ab n pb db w o d L N (λb=>(fz (IT ⟨g,0,KK⟩) M i).ownBlock=IT b) fb sb (v::St) m' (c+(j+1)) (z.alloc (Mi #[] 207)) o3 d3):=ae ((iF.out.below aj).wider (λ_ e _=>e) af);have T:Lk (aG (z.alloc (Mi #[] 207)) w2.heap.size (.slice (IT ⟨g,0,KK⟩) M i) (aY es v)):=ae (aB D.out aj);have FU:Lk (m'=ft A (v::St) dd (b9 m v) ((aY es v).take (j+1))):=ae (by rw[qo HX.out,if_neg (λe=>Xe.out e.1)];assumption);go_wp2_with (at_lookup;refine cy _ rfl _ _ _ _ rfl 207 cF dP Tryz.underlying205 (S.out _) sb _ rfl iF.out.st x.h.toNat rfl U.out ?_;rw[zC,vt];try rw[UH.out]);go_roundw
         case rel=>exact⟨j+1,m',by go_num,af,P,FU,T⟩
         grind [Lo]
       .have CV:¬(j:Int)<M:=af;have O:Lk (Ab n pb db w o d L N (λ_=>False) fb sb (v::St) m' (c+j) I o3 d3):=ae (cE.out.wider (λ_ e _=>e.elim) (cg _));have Y0:Lk (gj (aY es) A t most (16-(v::St).length) m' (v::St)=R):=ae Xy
        have eS:Lk (c+j<=1+(v::St).length*1000/\(v::St).length<=16):=ae Xy
        have VQ:Lk (16-NK I.heap[sb]? < 16-NK Wr.heap[sb]?):=ae (by rw[O.out.st.NK,en.out,it];grind [Hid.out])
        clear cE oy J;go_wp2;go_roundw
        case rel=>exact⟨_,_,_,_,_,O,eS,Y0⟩
        assumption
end
section
variable {w0 w:KX}{pb db n gen:Nat}{o o':ay}{d d':Dsk}{L:aL}
theorem Kept.told{q:Nat}(h:Kept q w0 w pb db n o d L){l:List kL}(c:∀p∈l,∃f,aI d.files p.1=IT f/\p.2.2=f.now){p:kL}(g:p∈l){ps:List Pg}(e:aI L p.1=IT (.inl (ps,Jd))):p.2.2=bC (fO p.1) 0 ps:=by obtain⟨f,a,b⟩:=c p g;rw[b];exact h.now e a
end
def sQ(w:KX)(l:List kL)(name:Name)(e:Lp)(w':KX):Prop:=∃p∈l,p.1=name/\e=Mk (Ly #[p.2.1,.bool Jd])/\w=w'
end Go.Proofs.YtofigggbapdfhaaGreatDoor
namespace Go.Proofs
open Go.Shelf
def Tryz.sortPlaces_ren:Go.Shelf.Ren:=⟨λ| 6=>31 | 15=>72 | 14=>71 | 28=>134 | 29=>135 | 20=>126 | 21=>127 | 22=>128 | 23=>129 | 24=>130 | 25=>131 | 26=>132 | 27=>133 | 46=>187 | 47=>188 | 48=>189 | 49=>190 | 50=>191 | 57=>230 | n=>n,λ| 22=>52 | 24=>92 | 25=>94 | 3=>3 | 39=>156 | 0=>0 | 53=>33 | 55=>61 | 4=>4 | 46=>220 | 45=>219 | 50=>224 | 5=>5 | 9=>9 | 66=>264 | 70=>268 | 76=>307 | 77=>54 | n=>n,λ| n=>n⟩
theorem Tryz.sortPlaces:Go.Proofs.SlLaysF0.n6 prog Tryz.sortPlaces_ren:={
 mixed:=ah
 f6:=⟨Tryz.f31.name,ag,func31.trans ar⟩
 f14:=⟨Tryz.f71.name,ag,func71.trans ar⟩
 f15:=func72.trans ar
 f20:=⟨Tryz.f126.name,ag,func126.trans ar⟩
 f21:=⟨Tryz.f127.name,ag,func127.trans ar⟩
 f22:=⟨Tryz.f128.name,ag,func128.trans ar⟩
 f23:=⟨Tryz.f129.name,ag,func129.trans ar⟩
 f24:=⟨Tryz.f130.name,ag,func130.trans ar⟩
 f25:=⟨Tryz.f131.name,ag,func131.trans ar⟩
 f26:=⟨Tryz.f132.name,ag,func132.trans ar⟩
 f27:=⟨Tryz.f133.name,ag,func133.trans ar⟩
 f28:=func134.trans ar
 f29:=func135.trans ar
 f46:=⟨Tryz.f187.name,ag,func187.trans ar⟩
 f47:=func188.trans ar
 f48:=func189.trans ar
 f49:=⟨Tryz.f190.name,ag,func190.trans ar⟩
 f50:=⟨Tryz.f191.name,ag,func191.trans ar⟩
 f57:=⟨Tryz.f230.name,ag,func230.trans ar⟩
 t0:=Tryz.underlying0
 a0:=Tryz.isAgg0
 z0:=Tryz.sizeOf0
 v0:=Tryz.zeroValue0
 t3:=Tryz.underlying3
 a3:=Tryz.isAgg3
 z3:=Tryz.sizeOf3
 v3:=Tryz.zeroValue3
 t4:=Tryz.underlying4
 a4:=Tryz.isAgg4
 z4:=Tryz.sizeOf4
 v4:=Tryz.zeroValue4
 t5:=Tryz.underlying5
 a5:=Tryz.isAgg5
 z5:=Tryz.sizeOf5
 v5:=Tryz.zeroValue5
 t9:=Tryz.underlying9
 a9:=Tryz.isAgg9
 z9:=Tryz.sizeOf9
 v9:=Tryz.zeroValue9
 t22:=Tryz.underlying52
 a22:=Tryz.isAgg52
 z22:=Tryz.sizeOf52
 v22:=Tryz.zeroValue52
 t25:=Tryz.underlying94
 a25:=Tryz.isAgg94
 z25:=Tryz.sizeOf94
 v25:=Tryz.zeroValue94
 t39:=Tryz.underlying156
 a39:=Tryz.isAgg156
 z39:=Tryz.sizeOf156
 v39:=Tryz.zeroValue156
 t45:=Tryz.underlying219
 a45:=Tryz.isAgg219
 z45:=Tryz.sizeOf219
 v45:=Tryz.zeroValue219
 t46:=Tryz.underlying220
 a46:=Tryz.isAgg220
 z46:=Tryz.sizeOf220
 v46:=Tryz.zeroValue220
 t50:=Tryz.underlying224
 a50:=Tryz.isAgg224
 z50:=Tryz.sizeOf224
 v50:=Tryz.zeroValue224
 t53:=Tryz.underlying33
 a53:=Tryz.isAgg33
 z53:=Tryz.sizeOf33
 v53:=Tryz.zeroValue33
 t55:=Tryz.underlying61
 a55:=Tryz.isAgg61
 z55:=Tryz.sizeOf61
 v55:=Tryz.zeroValue61
 t66:=Tryz.underlying264
 a66:=Tryz.isAgg264
 z66:=Tryz.sizeOf264
 v66:=Tryz.zeroValue264
 t70:=Tryz.underlying268
 a70:=Tryz.isAgg268
 z70:=Tryz.sizeOf268
 v70:=Tryz.zeroValue268
 t76:=Tryz.underlying307
 a76:=Tryz.isAgg307
 z76:=Tryz.sizeOf307
 v76:=Tryz.zeroValue307
 t77:=Tryz.underlying54
 a77:=Tryz.isAgg54
 z77:=Tryz.sizeOf54
 v77:=Tryz.zeroValue54 }
end Go.Proofs
namespace Go.Proofs.YtofigggbapdfhaaGreatDoor
open Go Go.RowKit Go.Maps Go.MapKept Go.Sort
open Go.Proofs.Tryz
open Go renaming World->KX,Value->J3,Calls->K1,Ending->Lp,heap_alloc_new->Lw
open Go.RowKit renaming Below->Lg,Hid->Lk,intOf->Lo
open Go.Value renaming int->Kx,tuple->Ly,agg->LV
open Go.Obj renaming cells->Mi
open Go.Ending renaming returned->Mk
open Go.IntKind renaming i64->Mm,u32->Mo,u64->MJ
open Go.IntKind renaming wrap->cf,u32->xf
open Go.RowKit.Below renaming heap_setCell->e8,refl->kp
open Go.Value renaming slice->fz,oneCell'->qn,int->tb
open Go.World renaming ownsRow_nil->gp,block_lt_of_cell?->jK
variable {j k i u:Nat}{ops:Array Oper}{f:Oper}{Q:Exit->Act->KX->Prop}{v':J3}{bs:List UInt8}{w':KX}{rs:List Rec}{vs:List bZ}{L':aL}{y:bZ}{β:Type}{xa ya:Option Addr}
def vu:ByteArray:=⟨#[48,49,50,51,52,53,54,55,56,57]⟩
theorem IG:∀d,d<10->vu.extract d (d+1)=⟨#[UInt8.ofNat (48+d)]⟩:=ag
theorem aci(h:10<=j):Lib.decDigits j=Lib.decDigits (j/10)++[UInt8.ofNat (48+j%10)]:=by rw[Lib.decDigits,dif_neg af]
theorem UI(h:j<10):Lib.decDigits j=[UInt8.ofNat (48+j)]:=by rw[Lib.decDigits,dif_pos h]
theorem acj:∀(n k:Nat),k<10^(n+1)->(Lib.decDigits k).length<=n+1:=by
 intro n;induction n with
 |zero=>intro k a;rw[Lib.decDigits,dif_pos (by simpa using a)];simp
 |succ n ih=>
   intro k a;by_cases b:k<10
   .rw[Lib.decDigits,dif_pos b];simp
   .rw[Lib.decDigits,dif_neg b,eh];have:=ih (k/10) (by rw[Nat.pow_succ]at a;exact Nat.div_lt_of_lt_mul (by rw[Nat.mul_comm];exact a))
    simp;omega
theorem G2(k:Nat)(G:k<=1048576)(w:KX):K1 prog 66 #[k] w λe w'=>e=Mk (.string ⟨(Lib.decDigits k).toArray⟩)/\w=w':=by
 go_enter func66,ntmps66;go_wp2;go_loopw [0,4] (λf z W=>∃(j:Nat)(s:List UInt8),j<=k/\f=j/\z=.string ⟨s.toArray⟩/\Lib.decDigits k=Lib.decDigits j++s/\W=w) (λf _ _=>(Lo f).toNat)
 case atStart=>exact⟨k,[],cg _,rfl,rfl,ai,rfl⟩
 case round=>
  generalize u0=f at *;generalize u4=z at *;obtain⟨j,s,F,rfl,rfl,o,rfl⟩:=hrel;have D:s.length<=7:=by have c:=acj 6 k af;rw[o,eh]at c;omega
  have t:=ae o;clear o;obtain⟨d,u⟩:=ac (j%10);obtain⟨q,v⟩:=ac (j/10);have m:d<10:=af;have y:(j:Int)%10=(d:Int):=af;have I:(j:Int).tmod 10=(d:Int):=by rw[Int.tmod_eq_emod_of_nonneg af];exact y
  have g:(j:Int)/10=(q:Int):=af;have B:(j:Int).tdiv 10=(q:Int):=by rw[Int.tdiv_eq_ediv_of_nonneg af];exact g
  have E:cf Mm (d:Int)=d:=ax af af;have x:cf Mm (q:Int)=q:=ax af af;have C:cf Mm ((d:Int)+1)=(d+1:Nat):=by rw[ax af af];omega
  have r:=ae u;have l:=ae v;clear u v;have n:=ae (IG d m);by_cases h:10<=j
  .have A:(j:Int) >= 10:=af;have i:Lk (Lib.decDigits k=Lib.decDigits q++(UInt8.ofNat (48+d)::s)):=ae (by have c:=t.out;rw[aci h,<- l.out,<- r.out,o0]at c;exact c)
   go_wp2;refine⟨⟨q,UInt8.ofNat (48+d)::s,Nm l.out,rfl,?_,i.out,trivial⟩,?_⟩
   .have:=n.out;unfold vu at this;rw[this];congr 1
   .simp[Lo];have:=l.out;omega
  .have A:¬(j:Int) >= 10:=af;have a:j=d:=Nm r.out;have H:=ae a;clear a;have p:Lk (vu.extract j (j+1)++⟨s.toArray⟩=(⟨(Lib.decDigits k).toArray⟩:ByteArray)):=ae (by
    have b:j<10:=af;rw[t.out,UI b,IG j b];apply ByteArray.ext;simp)
   unfold vu at p;go_wp2;go_ret;exact⟨by rw[<- p.out];rfl,rfl⟩
theorem QF(l:List aJ):∀u∈dH l,u.oneCell'=true:=by
 induction l with
 |nil=>intro u a;cases a
 |cons x l b=>
   intro u a;rw[dH,hS]at a;rcases a with a | a
   .simp[aJ.cells]at a;rcases a with rfl | rfl | rfl | rfl<;>rfl
   .exact b u a
theorem ack{w:KX}{b a n cap:Nat}{es:List aJ}(h:gR w (.slice (IT ⟨b,a,KK⟩) n cap) es):∀j u,(dH es)[j]? = IT u->w.cell? ((⟨b,a,KK⟩:Addr).add j)=IT u:=by
 intro j u f;obtain⟨-,p⟩:=eL h;have m:=aK f;rw[qM]at m;have hi:j/4<es.length:=af;obtain⟨r,g,q,l,o,i,k⟩:=p w aq (j/4) es[j/4] (bk hi);cases q;have c:=oW (bk hi) (j:=j%4) af;rw[show j/4*4+j%4=j by omega,f]at c;rw[br];have d:j%4=0\/j%4=1\/j%4=2\/j%4=3:=af;rcases d with e | e | e | e
 .rw[e]at c;cases c;rw[show a+j=a+j/4*4 by omega];exact l
 .rw[e]at c;cases c;rw[show a+j=a+j/4*4+1 by omega];exact o
 .rw[e]at c;cases c;rw[show a+j=a+j/4*4+2 by omega];exact i
 .rw[e]at c;cases c;rw[show a+j=a+j/4*4+3 by omega];exact k
theorem gL{w:KX}{rest:List Oper}{a:Act}(i:f.guard=KK)(s x:Operand)(y:f.op=.call { callee:=.builtin .append,args:=#[s,x],argTypes:=#[22,22] })(base:Nat)(v:J3)(l:List aJ)(E:a.eval s=v)(d:aG w base v l)(u:J3)(es:List aJ)(C:a.eval x=u)(B:gR w u es)(N:l.length+es.length<=100000)(e:base<=w.heap.size)(k:∀v' w',aG w' base v' (l++es)->gP v w w' v'->wpList prog ops Q rest (a.put f.dst v') w'):wpList prog ops Q (f::rest) a w:=by
 have q:=B;obtain⟨ad,cap,rfl,n⟩:=q;cases ad with
 |some ad=>
   have I:∀j u,(dH es)[j]? = IT u->w.cell? (ad.add j)=IT u:=λj u z=>by
    have F:=aK z;rw[qM]at F;rcases n with t |⟨b,p,r,_⟩
    .omega
    .cases r;exact ack B j u z
   refine ct i s x 22 y base 63 _ 4 24 Tryz.underlying22 uX rfl ag v l.length (dH l) E d ad es.length cap (dH es) C (qM es) I (QF es) (by unfold maxLen;omega) af e (λv' w' h o=>k v' w' ?_ o);unfold aG;rw[qN,eh];exact h
 |none=>
   have t:es=[]:=by
    rcases n with n |⟨b,p,r,_⟩
    .exact sI.1 n
    .cases r
   subst t;obtain⟨i0,D,M,G,L⟩:=info_parts uX;have J:∀ad,(storeCells ad []).run prog w=.ok () w:=λ_=>rfl;obtain⟨va,vc,H⟩:∃va vc,v=.slice va l.length vc:=aw d;subst H;refine wpList_plain i λK hK=>?_;have A:l.length<=vc:=by
    rcases cJ d with⟨h,o⟩|⟨g,c,h,_,o,_⟩
    .rw[h];exact em _
    .cases h;exact o
   have m:(Builtin.append_ #[22,22] f.type #[.slice va l.length vc,.slice KK ([]:List aJ).length cap]).run prog w=.ok (.slice va l.length vc) w:=by
    cases va with
    |none=>simp[Builtin.append_,run_underlying Tryz.underlying22,sizeOf,typeInfo,D,Builtin.lenOf,Builtin.firstCells,A]
    |some va=>simp[Builtin.append_,run_underlying Tryz.underlying22,sizeOf,typeInfo,D,Builtin.lenOf,Builtin.firstCells,J,A]
   unfold Oper.wp execOp;simp only[y,resolve,invoke,builtin,Sem.run_bind,Sem.run_pure,Result.andThen_ok,GO,oj,FP,E,C,m];refine hK _ _ (k _ _ (by rw[nw];exact d) ⟨⟨rfl,rfl,rfl,cg _,λ_ _ _=>rfl⟩,.inl rfl⟩)
theorem uC(w:KX):aG (w.alloc (Mi #[] 63)) w.heap.size (.slice w.heap.size 0 0) []:=
 ⟨by simp[dH],.inr ⟨w.heap.size,0,#[],rfl,cg _,Lw w _,cg _,em _,ai,by simp[dH]⟩⟩
theorem gR.take{w:KX}{a:Option Addr}{n cap:Nat}{es:List aJ}(h:gR w (.slice a n cap) es)(l:k<=es.length):gR w (.slice a k cap) (es.take k):=by
 obtain⟨m,f,i,d⟩:=h;cases i;have g:(es.take k).length=k:=by rw[et];omega
 refine⟨a,cap,by rw[g],?_⟩;rcases d with d |⟨b,e,rfl,d⟩
 .exact .inl af
 .exact .inr ⟨b,e,rfl,λj x c=>d j x (by rw[List.getElem?_take]at c;split at c;exact c;cases c)⟩
theorem gR.drop{w:KX}{b a n cap:Nat}{es:List aJ}(h:gR w (.slice (IT ⟨b,a,KK⟩) n cap) es)(o:k<=es.length)(c:Nat):gR w (.slice (IT ⟨b,a+k*4,KK⟩) (n-k) c) (es.drop k):=by
 obtain⟨p,i,e,d⟩:=h;cases e;have l:(es.drop k).length=es.length-k:=ie ..;refine⟨_,c,by rw[l],?_⟩;rcases d with d |⟨m,g,e,d⟩
 .exact .inl af
 .cases e;refine .inr ⟨b,a+k*4,rfl,λj x f=>?_⟩;rw[F1]at f;have:=d (k+j) x f;rw[show a+k*4+j*4=a+(k+j)*4 by omega];exact this
theorem gR.none{w:KX}{a:Option Addr}{cap:Nat}:gR w (.slice a 0 cap) []:=⟨a,cap,rfl,.inl rfl⟩
theorem bH{a W d:KX}{v:J3}(f:Lg a a W)(g:∀y,v.ownBlock=IT y->a.heap.size<=y)(i:gP v W d v'):Lg a a d/\∀y,v'.ownBlock=IT y->a.heap.size<=y:=by
 obtain⟨b,h⟩:=i;have j:=f.size;refine⟨f.trans ⟨b.os,b.tape,b.output,b.size,λx k=>b.block x af (λe=>?_)⟩,λy c=>?_⟩
 .have:=g x e.symm;omega
 .rcases h with h | h
  .rw[h]at c;exact g y c
  .rw[h]at c;cases c;exact j
def QG(w:KX)(b:Bool)(r:List aJ)(i:Nat)(v:J3)(W:KX):Prop:=∃a:List aJ,aG W w.heap.size v a/\eG b (r.take i) a/\a.length<=i/\Lg w w W
theorem xZ(v:J3)(es:List aJ)(b:Bool)(w:KX)(hv:gR w v es)(hl:es.length<=10000):K1 prog 67 #[v,oQ b] w (mS w (aH b es)):=by
 have am:=ae (Qu v es w hv hl);have FH:(aH J0 es).length<=10000:=cp (cq _ _) hl;have fF:=ae (bM J0 es);have GQ:Lk (∀d,eG b (aH J0 es) d->d=aH b es):=ae (λd h=>by rw[h.eq,uA]);obtain⟨va,vn,vc,rfl⟩:∃a n c,v=.slice a n c:=by obtain⟨a,c,rfl,_⟩:=hv;exact⟨a,_,c,rfl⟩
 clear hv hl;generalize aH J0 es=r at *;obtain⟨bn,Le⟩:∃bn:Int,bn=(oQ b:Int):=⟨_,rfl⟩;have aR:=ae (λW x y=>NC b x y W);rw[<- Le]at aR ⊢;clear Le;go_enter func67,ntmps67;go_wp2_with fail;go_call am.out as e w1⟨rv,rfl,hr1,hb1⟩;have kS:=ae hr1;have cD:=ae hb1;obtain⟨ra,rc,rfl⟩:∃ra rc,rv=.slice ra r.length rc:=aw hr1;have Tz:=ae (fG hr1);obtain⟨-,iB⟩:=eL Tz.out;have HC:=ae iB;have HX:Lk (∀i,i<r.length->∃x,r[i]? = IT x):=ae (λi hi=>⟨_,bk hi⟩);have np:Lk (r.take r.length=r):=ae (ey (cg _));clear iB hr1 hb1 am;generalize hN:r.length=N at *;have HN:=ae hN;clear hN;go_wp2;go_loopw [5,7] (λz m W=>∃i:Nat,i<=N/\m=Kx Mm (i:Int)/\QG w1 b r i z W) (λ_ m _=>N-(Lo m).toNat)
 case atStart=>exact⟨0,em _,rfl,[],gp _ _ _ _,eG.nil _,cg _,kp _ _⟩
 case round=>
  generalize u5=z at *;generalize wr=G at *;obtain⟨i,hi,rfl,d,hr,Eo,ee,hb⟩:=hrel;have HR:=ae hr;have qh:=ae Eo;have Y:=ae hb;have H:w1.heap.size<=G.heap.size:=hb.size;clear hr Eo hb;by_cases U:i<N
  .obtain⟨x,hx⟩:=HX.out i U;have L:=ae hx;have nT:=ae (im hx);obtain⟨re,ro,rfl,-⟩:=HC.out G Y.out i x hx;have Sy:Lk (∀W,Lg G G W->W.cell? ⟨re,ro+i*4,KK⟩=IT (Kx Mo (x.t.toNat:Int))/\W.cell? ⟨re,ro+i*4+1,KK⟩=IT (Kx Mo (x.h.toNat:Int))/\W.cell? ⟨re,ro+i*4+2,KK⟩=IT (Kx MJ (x.x.toNat:Int))/\W.cell? ⟨re,ro+i*4+3,KK⟩=IT (Kx Mo (x.m.toNat:Int))):=ae (λW hB=>by obtain⟨b',o',e,g⟩:=HC.out W (Y.out.trans (hB.mono Y.out.size)) i x L.out;cases e;exact g)
   obtain⟨oa,oc,BM⟩:∃oa oc,z=.slice oa d.length oc:=aw HR.out;subst BM;have OQ:Lk (∀W,Lg G G W->gR W (.slice oa d.length oc) d):=ae (λW hB=>(fG HR.out).below hB);have TH:d.length<=oc/\oc<=maxLen:=by
    rcases cJ HR.out with⟨X,h2⟩|⟨g,c,X,_,h2,h3⟩
    .rw[X];exact⟨em _,by injection h2 with _ _ e3;rw[e3];exact em _⟩
    .cases X;exact⟨h2,h3⟩
   obtain⟨de,P4⟩:=TH;unfold maxLen at P4;have OZ:Lk (∀j,j<d.length->∃o,d[j]? = IT o):=ae (λj F=>⟨_,bk F⟩);have dl:Lk (∀o∈d,pk b o≠pk b x):=ae (λo ho e=>by have X:=(qh.out.mem o ho).1;obtain⟨j,F,rfl⟩:=List.getElem_of_mem X;rw[List.getElem_take]at e;rw[et]at F;have e':pk J0 r[j]=pk J0 x:=j7.2 (j7.1 e);have h2:=gK fF.out.il (show j<i by omega) (bk af) L.out;omega)
   have NG:Lk (x.t≠x.h):=ae (fF.out.mem x (cx L.out)).2.1;clear hx;generalize Wo:d.length=f at *;have t:=ae Wo;clear Wo;go_wp2;go_loopw [8] (λkv W=>∃k:Nat,k<=f/\kv=k/\(∀(j:Nat)(o:aJ),j<k->d[j]? = IT o->pk b o<pk b x)/\Lg G G W) (λkv _=>f-(Lo kv).toNat)
   case atStart=>exact⟨0,em _,rfl,(λj o F=>absurd F (Dc _)),kp _ _⟩
   case round=>
    generalize wr=D at *;obtain⟨k,hk,rfl,CP,al⟩:=hrel;have Sb:=ae CP;have T:=ae al;clear CP al;by_cases yL:k<f
    .obtain⟨o,ho⟩:=OZ.out k yL;have V:=ae ho;clear ho;obtain⟨-,P⟩:=eL (by rw[<- t.out]at OQ;exact OQ.out D T.out);obtain⟨Z,oo,rfl,-⟩:=P D aq k o V.out;have bd:Lk (∀W,Lg D D W->W.cell? ⟨Z,oo+k*4,KK⟩=IT (Kx Mo (o.t.toNat:Int))/\W.cell? ⟨Z,oo+k*4+1,KK⟩=IT (Kx Mo (o.h.toNat:Int))/\W.cell? ⟨Z,oo+k*4+2,KK⟩=IT (Kx MJ (o.x.toNat:Int))/\W.cell? ⟨Z,oo+k*4+3,KK⟩=IT (Kx Mo (o.m.toNat:Int))):=ae (λW hB=>by obtain⟨g',o',e,r⟩:=P W hB k o V.out;cases e;exact r)
     clear P;have QH:=ae (λW=>aR.out W o x);obtain⟨rr,jC⟩:∃r:Bool,r=decide (pk b o<pk b x):=⟨_,rfl⟩;rw[<- jC]at QH;have R6:=ae jC;clear jC;go_wp2_with fail;refine wq D ?_;iterate 8 (refine qz ?_)
     refine qz ?_ (λw' s=>by obtain⟨e0,e1,e2,e3⟩:=bd.out w' s;go_simp<;>rfl);iterate 3 (refine qz ?_)
     refine qz ?_ (λw' s=>by obtain⟨e0,e1,e2,e3⟩:=Sy.out w' (T.out.trans (s.mono T.out.size));go_simp<;>rfl);refine qz ?_;refine qw (λw' s=>(QH.out w').mono λe du ⟨he,hb⟩=>⟨he,s.trans (hb.mono s.size)⟩) ?_;refine qz ?_;refine wpQuiet_nil ?_;intro p A;have gU:=ae (T.out.trans (A.mono T.out.size));clear A QH bd;cases rr with
     |true=>
       have ci:Lk (∀(j:Nat)(o':aJ),j<k+1->d[j]? = IT o'->pk b o'<pk b x):=ae (λj o' F E=>by
        rcases lb j k with h | h
        .exact Sb.out j o' h E
        .obtain rfl:j=k:=af
         rw[V.out]at E;rw[<- Option.some.inj E];exact of_decide_eq_true R6.out.symm)
       go_wp2;go_roundw
       case rel=>exact⟨k+1,af,by go_num,ci.out,gU.out⟩
       case measure=>simp[Lo];omega
     |false=>
       have Qv:Lk (eG b (r.take (i+1)) (d.take k++x::d.drop k)):=ae (by
        rw[nT.out];refine qh.out.lay NG.out (by rw[t.out];exact hk) Sb.out (λj o' F E=>?_);have h0:=dl.out o (cx V.out);have X:=of_decide_eq_false R6.out.symm;rcases Nat.eq_or_lt_of_le F with rfl | U
        .rw[V.out]at E;rw[<- Option.some.inj E];omega
        .have:=gK qh.out.il U V.out E;omega)
       have l:=gU;have Y1:Lk (aG (p.alloc (Mi #[] 63)) w1.heap.size (.slice p.heap.size 0 0) []):=ae (aQ (uC p) (cp H l.out.size));have K:Lk (gR (p.alloc (Mi #[] 63)) (.slice (IT ⟨Z,oo,KK⟩) k oc) (d.take k)):=ae ((OQ.out _ (l.out.alloc l.out.size _)).take (by rw[t.out];exact hk));have J:([]:List aJ).length+(d.take k).length<=100000:=by rw[et,Hl];omega
       have O:w1.heap.size<=(p.alloc (Mi #[] 63)).heap.size:=by have:=l.out.size;simp;omega
       go_wp2_with (at_builtin;refine gL rfl _ _ rfl w1.heap.size _ [] rfl Y1.out _ (d.take k) rfl K.out J O ?_);intro v4 Q B CW;obtain⟨q,u⟩:=bH ((kp p.heap.size p).alloc (cg _) _) (λy hy=>by cases hy;exact cg _) CW;have Gi:Lk (aG Q w1.heap.size v4 (d.take k)):=ae (by rw[<- DP (d.take k)];exact B);have oZ:=ae (l.out.trans (q.mono l.out.size));have MA:=ae q;have PB:=ae u;obtain⟨x0,x1,x2,x3⟩:=Sy.out Q oZ.out;have S:(d.take k).length<=100000:=by rw[et];omega
       have zW:w1.heap.size<=Q.heap.size:=cp H oZ.out.size;clear B CW q u;go_wp2_with (at_builtin;refine bR rfl _ _ rfl w1.heap.size _ (d.take k) rfl Gi.out x 1 rfl S zW ?_);intro v5 W5 Kc J6;obtain⟨R,JU⟩:=bH (MA.out.alloc MA.out.size _) PB.out J6;have xU:=ae Kc;have uY:=ae (l.out.trans (R.mono l.out.size));have I:=ae R;have OT:=ae JU;have S8:w1.heap.size<=W5.heap.size:=cp H uY.out.size;have C:(d.take k++[x]).length+(d.drop k).length<=100000:=by rw[eh,et,ie,lr,t.out];omega
       clear Kc J6 R JU x0 x1 x2 x3;have M:Lk (gR W5 (.slice (IT ⟨Z,oo+k*4,KK⟩) (f-k) (oc-k)) (d.drop k)):=ae (by have:=OQ.out W5 uY.out;exact gR.drop this (by rw[t.out];exact hk) _)
       go_wp2_with (at_builtin;refine gL rfl _ _ rfl w1.heap.size _ (d.take k++[x]) rfl xU.out _ (d.drop k) rfl M.out C S8 ?_);intro v6 W6 Ca uB;obtain⟨Cr,-⟩:=bH I.out OT.out uB;have Hs:Lk (aG W6 w1.heap.size v6 (d.take k++x::d.drop k)):=ae (by exact Ca)
       have Y2:=ae (Y.out.trans (l.out.mono H));have mo:=ae (Y2.out.trans (Cr.mono Y2.out.size));clear Ca uB Cr;go_wp2;go_roundw
       case rel=>exact⟨i+1,af,by go_num,d.take k++x::d.drop k,Hs.out,Qv.out,by rw[eh,it,et,ie,t.out];omega,mo.out⟩
       case measure=>simp[Lo];omega
    .obtain rfl:f=k:=af
     have Qv:Lk (eG b (r.take (i+1)) (d.take f++x::d.drop f)):=ae (by rw[nT.out];refine qh.out.lay NG.out (by rw[t.out];exact cg _) Sb.out (λj o' F E=>?_);have:=aK E;rw[t.out]at this;omega)
     have ce:decide ((f:Int)<f)=false:=decide_eq_false af;have dq:decide (f<f)=false:=decide_eq_false af;rcases Nat.eq_or_lt_of_le de with aE | aE;case' inl=>subst aE
     all_goals
      go_wp2_with fail;go_quiet (fail)
      have A:Lg D D (D.drewN nq):=below_drewN aq _;have l:=ae (T.out.trans (A.mono T.out.size));clear A ce dq;generalize D.drewN nq=p at *;have Y1:Lk (aG (p.alloc (Mi #[] 63)) w1.heap.size (.slice p.heap.size 0 0) []):=ae (aQ (uC p) (cp H l.out.size));have K:=ae ((OQ.out (p.alloc (Mi #[] 63)) (l.out.alloc l.out.size _)).take (k:=f) (by rw[t.out];exact hk));have J:([]:List aJ).length+(d.take f).length<=100000:=by rw[et,Hl];omega
      have O:w1.heap.size<=(p.alloc (Mi #[] 63)).heap.size:=by have:=l.out.size;simp;omega
      go_wp2_with (at_builtin;refine gL rfl _ _ rfl w1.heap.size _ [] rfl Y1.out _ (d.take f) rfl K.out J O ?_);intro v4 Q B CW;obtain⟨q,u⟩:=bH ((kp p.heap.size p).alloc (cg _) _) (λy hy=>by cases hy;exact cg _) CW;have Gi:Lk (aG Q w1.heap.size v4 (d.take f)):=ae (by rw[<- DP (d.take f)];exact B);have oZ:=ae (l.out.trans (q.mono l.out.size));have MA:=ae q;have PB:=ae u;obtain⟨x0,x1,x2,x3⟩:=Sy.out Q oZ.out;have S:(d.take f).length<=100000:=by rw[et];omega
      have zW:w1.heap.size<=Q.heap.size:=cp H oZ.out.size;clear B CW q u;go_wp2_with (at_builtin;refine bR rfl _ _ rfl w1.heap.size _ (d.take f) rfl Gi.out x 1 rfl S zW ?_);intro v5 W5 Kc J6;obtain⟨R,JU⟩:=bH (MA.out.alloc MA.out.size _) PB.out J6;have xU:=ae Kc;have uY:=ae (l.out.trans (R.mono l.out.size));have I:=ae R;have OT:=ae JU;have S8:w1.heap.size<=W5.heap.size:=cp H uY.out.size;have C:(d.take f++[x]).length+(d.drop f).length<=100000:=by rw[eh,et,ie,lr,t.out];omega
      clear Kc J6 R JU x0 x1 x2 x3;have ac:d.drop f=[]:=List.drop_of_length_le (by rw[t.out];exact cg _);have M:=ae ac;have co:=ae C;clear ac C;go_wp2_with (at_builtin;refine gL rfl _ _ rfl w1.heap.size _ (d.take f++[x]) rfl xU.out _ (d.drop f) rfl (by rw[M.out];exact gR.none) co.out S8 ?_);intro v6 W6 Ca uB;obtain⟨Cr,-⟩:=bH I.out OT.out uB;have Hs:Lk (aG W6 w1.heap.size v6 (d.take f++x::d.drop f)):=ae (by exact Ca)
      have Y2:=ae (Y.out.trans (l.out.mono H));have mo:=ae (Y2.out.trans (Cr.mono Y2.out.size));clear Ca uB Cr;go_wp2;go_roundw
      case rel=>exact⟨i+1,af,by go_num,d.take f++x::d.drop f,Hs.out,Qv.out,by rw[eh,it,et,ie,t.out];omega,mo.out⟩
      case measure=>simp[Lo];omega
  .obtain rfl:N=i:=af
   go_wp2;go_ret;refine⟨_,rfl,?_,cD.out.trans (Y.out.mono cD.out.size)⟩;have h:=qh.out;rw[np.out]at h;rw[<- GQ.out _ h];exact aQ HR.out cD.out.size
theorem NP(a b:Nat):iX (a ^^^ b)=iX a ^^^ iX b:=by
 unfold iX;have e:(a ^^^ b)%2=(a%2) ^^^ (b%2):=Nat.xor_mod_two_pow (n:=1);rw[Nat.xor_div_two,e];have d:a%2=0\/a%2=1:=af;have c:b%2=0\/b%2=1:=af;rcases d with d | d<;>rcases c with c | c
 .rw[d,c];simp
 .rw[d,c];simp[xl]
 .rw[d,c,show(1 ^^^ 0:Nat)=1 from rfl];simp only[sE,Nat.mul_zero,Nat.xor_zero];rw[xl,xl,Nat.xor_comm (b/2)]
 .rw[d,c,show(1 ^^^ 1:Nat)=0 from rfl];simp only[sE,Nat.mul_zero,Nat.xor_zero];rw[xl,<- xl 2197175160,Nat.xor_comm 2197175160,xl (b/2),Nat.xor_self,Nat.xor_zero]
theorem Kq(k a b:Nat):dX k (a ^^^ b)=dX k a ^^^ dX k b:=by
 induction k with
 |zero=>rfl
 |succ k c=>rw[dX,dX,dX,c,NP]
theorem ET(k m:Nat):dX k (2^k*m)=m:=by
 induction k generalizing m with
 |zero=>simp[dX]
 |succ k a=>rw[dX,show 2^(k+1)*m=2^k*(2*m) by rw[Nat.pow_succ,Nat.mul_assoc],a];unfold iX;rw[show 2*m/2=m by omega,show 2*m%2=0 by omega];simp
theorem NQ(x:Nat)(b:UInt8):dX 8 (x ^^^ b.toNat)=fM x b:=by
 unfold fM qC;have c:x=2^8*(x/2^8) ^^^ x%2^8:=by
  apply Nat.eq_of_testBit_eq;intro i;rw[Nat.testBit_xor,Nat.testBit_two_pow_mul,Nat.testBit_mod_two_pow];by_cases hi:8<=i
  .rw[Nat.testBit_div_two_pow,show i-8+8=i by omega];have a:¬i<8:=af;simp[hi,a]
  .have a:i<8:=af;simp[hi,a]
 have c:x=2^8*(x/256) ^^^ x%256:=c;conv=>lhs;rw[c,xl]
 rw[Kq,ET]
theorem Y3(x:Nat)(h:x<4294967296):(x%2=1->bits BinOp.xor xf ((x/2:Nat):Int) 2197175160=(iX x:Int))/\(x%2=0->((x/2:Nat):Int)=(iX x:Int)):=by
 constructor
 .intro a;have:=gD Mo 32 ag cM (x/2) 2197175160 af ag;rw[show((2197175160:Nat):Int)=(2197175160:Int) from rfl]at this;rw[this];unfold iX;rw[a]
 .intro a;unfold iX;rw[a];simp
theorem G3(v:J3)(bs:List UInt8)(w:KX)(O:Rd w v bs):K1 prog 186 #[Kx Mo 0,v] w λe w'=>e=Mk (Kx Mo (gX bs:Int))/\w=w':=by
 obtain⟨a,cap,rfl,M,C,p⟩:=O;have I:Lk (∀i,i<bs.length->∃b c x,a=IT ⟨b,c,KK⟩/\bs[i]? = IT x/\w.cell? ⟨b,c+i,KK⟩=IT (bv x)):=ae (λi hi=>by
  rcases p with h0 |⟨b,c,rfl,p⟩
  .omega
  .exact⟨b,c,bs[i],rfl,bk hi,p i hi⟩)
 have J:Lk (∀i x,bs[i]? = IT x->(bs.take (i+1)).foldl fM 4294967295=fM ((bs.take i).foldl fM 4294967295) x):=ae (λi x f=>by have hi:=aK f;rw[bk hi]at f;rw[fh hi,B1,Option.some.inj f];rfl)
 have U:Lk (∀i,(bs.take i).foldl fM 4294967295<4294967296):=ae (λi=>xC _ _ ag);have Q:Lk (gX bs=4294967295-(bs.take bs.length).foldl fM 4294967295):=ae (by rw[ey (cg _)];rfl);unfold maxLen at C;clear p;generalize K:bs.length=N at *;clear K;go_enter func186,ntmps186;go_wp2;go_loopw [5,6] (λr m W=>∃i:Nat,i<=N/\m=Kx Mm (i:Int)/\r=Kx Mo (((bs.take i).foldl fM 4294967295:Nat):Int)/\W=w) (λ_ m _=>N-(Lo m).toNat)
 case atStart=>exact⟨0,em _,rfl,rfl,rfl⟩
 case round=>
  obtain⟨i,hi,rfl,rfl,rfl⟩:=hrel;obtain⟨w9,rfl⟩:∃w9:KX,w9=wr:=⟨_,rfl⟩;have H:=U.out i;by_cases F:i<N
  .obtain⟨b,c,x,rfl,f,d⟩:=I.out i F;have j:=ae (J.out i x f);clear f;obtain⟨z,l⟩:=ac ((bs.take i).foldl fM 4294967295);rw[<- l]at j H ⊢;clear l;unfold bv at d;have S:=x.toNat_lt;have t:bits BinOp.xor xf (z:Int) (x.toNat:Int)=((z ^^^ x.toNat:Nat):Int):=gD Mo 32 ag cM _ _ af af;have R:cf Mo (x.toNat:Int)=x.toNat:=cM _ af af;have h:z ^^^ x.toNat<4294967296:=Nat.xor_lt_two_pow (n:=32) af af;obtain⟨y,u⟩:=ac (z ^^^ x.toNat);rw[<- u]at t h;have L:=ae u;clear u;go_wp2;go_loopw [5,7] (λr B W=>∃k:Nat,k<=8/\B=k/\r=Kx Mo ((dX k y:Nat):Int)/\W=w9) (λ_ B _=>8-(Lo B).toNat)
   case atStart=>exact⟨0,em _,rfl,rfl,rfl⟩
   case round=>
    obtain⟨k,hk,rfl,rfl,rfl⟩:=hrel;by_cases V:k<8
    .have hs:=pK k y h;have G:Lk (dX (k+1) y=iX (dX k y)):=ae rfl;generalize dX k y=s at *;obtain⟨E,q⟩:=Y3 s hs;have D:(s:Int)/2=((s/2:Nat):Int):=af;have Y:s%2=0\/s%2=1:=af;rcases Y with g | g
     .obtain⟨lo,X,e2⟩:∃lo:Nat,(s:Int)%2=(lo:Int)/\¬(lo:Int)=1:=⟨0,af,ag⟩;have HL:=ae (q g);clear E q g D;go_wp2;go_roundw
      case rel=>exact⟨k+1,af,by go_num,by rw[G.out,<- HL.out];rfl,trivial⟩
      case measure=>simp[Lo];omega
     .have X:(s:Int)%2=1:=af;have o:=E g;rw[<- D]at o;clear E q g D;go_wp2;go_roundw
      case rel=>exact⟨k+1,af,by go_num,by rw[G.out],trivial⟩
      case measure=>simp[Lo];omega
    .obtain rfl:k=8:=af
     have Z:Lk (dX 8 y=(bs.take (i+1)).foldl fM 4294967295):=ae (by rw[j.out,L.out,NQ]);go_wp2;go_roundw
     case rel=>exact⟨i+1,af,by go_num,by rw[<- Z.out],trivial⟩
     case measure=>simp[Lo];omega
  .obtain rfl:N=i:=af
   have A:Lk (bits BinOp.xor xf (((bs.take N).foldl fM 4294967295:Nat):Int) 4294967295=((4294967295-(bs.take N).foldl fM 4294967295:Nat):Int)):=ae (by have o:=gD Mo 32 ag cM ((bs.take N).foldl fM 4294967295) 4294967295 af ag;have T:=gD Mo 32 ag cM 4294967295 ((bs.take N).foldl fM 4294967295) ag af;have P:=Dh ((bs.take N).foldl fM 4294967295) H;rw[Nat.xor_comm]at o;exact o.trans (T.symm.trans P))
   go_wp2;go_ret;exact⟨se (by rw[Q.out];exact A.out),rfl⟩
theorem NR{g:Nat}{t:TypeId}{c:Nat×Nat}(vs:List J3):∀{w:KX}{o:Nat}{b:Array J3},w.heap[g]? = IT (Mi b t c)->o+vs.length<=b.size ->
 ∃a,(w.setCells g o vs).heap[g]? = IT (Mi a t c)/\a.size=b.size/\(∀j,j<o->a[j]? = b[j]?)/\(∀j,j<vs.length->a[o+j]? = vs[j]?):=by
 induction vs with
 |nil=>intro w o b h _;exact⟨b,h,rfl,λ_ _=>rfl,λj d=>absurd d (Dc _)⟩
 |cons v vs m=>
   intro w o b h l;rw[it]at l;have f:(w.setCell ⟨g,o,KK⟩ v).heap[g]? = IT (Mi (b.setIfInBounds o v) t c):=by rw[setCell_eq_setRow w g o b _ c v h];exact setRow_heap w g b _ _ c h
   obtain⟨a,n,k,e,i⟩:=m (o:=o+1) f (by rw[FG];omega);refine⟨a,n,by rw[k,FG],λj d=>?_,λj d=>?_⟩
   .rw[e j af,Array.getElem?_setIfInBounds,if_neg af]
   .cases j with
    |zero=>rw[Nat.add_zero,e o af,Array.getElem?_setIfInBounds,if_pos rfl,if_pos af];rfl
    |succ j=>rw[it]at d;rw[show o+(j+1)=o+1+j by omega,i j af];rfl
theorem EU{w:KX}(base ty:Nat)(v:J3)(bs:List UInt8)(h:bN w base v bs)(F:bs≠[])(x:J3)(c:List UInt8)(Y:Rd w x c)(hl:bs.length+c.length<=100000)(l:base<=w.heap.size) :
 ∃v' w',(Builtin.append_ #[46,46] ty #[v,x]).run prog w=.ok v' w'/\bN w' base v' (bs++c)/\w.grownBy w' v.ownBlock/\(v'.ownBlock=v.ownBlock\/v'.ownBlock=IT w.heap.size):=by
 obtain⟨i0,hi,K,i,I⟩:=info_parts jZ;have O:Go.Src prog i0.size 46 x c.length (c.map bv) w:=by
  obtain⟨a,cap,rfl,R,t,B⟩:=Y;rcases B with A |⟨b,X,rfl,B⟩
  .have:c=[]:=sI.1 A;subst this;cases a with
   |none=>exact Go.Src.ofNil w Tryz.underlying46 cap
   |some a=>exact Go.Src.ofSlice w Tryz.underlying46 a 0 cap [] ai (λj u d=>by cases d) (λu J=>by cases J)
  .refine Go.Src.ofSlice w Tryz.underlying46 _ _ cap _ (by rw[i];simp) (λj u d=>?_) (λu J=>?_)
   .have p:j<c.length:=by have:=aK d;rwa [dj]at this
    rw[j1,bk p]at d;rw[br,B j p];simpa using d
   .obtain⟨b,_,rfl⟩:=List.mem_map.1 J;exact jl b
 rcases h with⟨_,A⟩|⟨g,cap,s,y,rfl,L,r,C,Q,N,h6,M⟩
 .exact absurd A F
 .have V:g<w.heap.size:=(ds.1 r).1;have f:(bs++c).length=bs.length+c.length:=eh;by_cases n:bs.length+c.length<=cap
  .have z:=run_append_room_src (P:=prog) (w:=w) 46 46 ty 5 i0 Tryz.underlying46 hi g 0 bs.length cap x c.length (c.map bv) O n (λj d=>by
    rw[dj]at d;rw[i,cell_of_row w g _ s _ y r,sE,j0,wS af];rfl) (λj d=>by
    rw[dj]at d;obtain⟨lo,ac⟩:=y;simp only[World.frozen?,r,Bool.and_eq_false_iff,decide_eq_false_iff_not,i];simp only at C;omega)
   rw[i,sE,j0]at z;obtain⟨H,Z,S,e3,T⟩:=NR (c.map bv) r (o:=bs.length) (by rw[dj];omega);have q:aN (·=g) w (w.setCells g bs.length (c.map bv)):=(aN.refl (·=g) w).setCells g bs.length (c.map bv) (.inl rfl);refine⟨_,_,z,.inr ⟨g,cap,H,y,by rw[f],L,Z,by rw[S];exact C,af,N,af,?_⟩,⟨q.os,q.tape,q.output,q.size,λk G E=>q.block k G (λe=>E (by rw[e];rfl))⟩,.inl rfl⟩;apply List.ext_getElem?;intro j;rw[f];by_cases d:j<bs.length
   .rw[qb af,ri,e3 j d,<- ri,k8,List.getElem?_append_left (by simpa using d),<- M,qb d]
   .by_cases D:j<bs.length+c.length
    .have:=T (j-bs.length) (by rw[dj];omega);rw[show bs.length+(j-bs.length)=j by omega]at this;rw[qb D,ri,this,k8,List.getElem?_append_right (by simp;omega),dj]
    .rw[GW (by rw[et];omega),GW (by simp;omega)]
  .have m:∀j u,(bs.map bv)[j]? = IT u->w.drew.cell? ((⟨g,0,KK⟩:Addr).add j)=IT u:=λj u d=>by
    have p:j<bs.length:=by have:=aK d;rwa [dj]at this
    rw[j1,bk p]at d;show w.cell? _=_;rw[br,j0,bN.cells (.inr ⟨g,cap,s,y,rfl,L,r,C,Q,N,h6,M⟩) p];simpa using d
   have U:=run_firstCells_some (P:=prog) w.drew i0.size bs.length ⟨g,0,KK⟩ bs.length cap (bs.map bv) (by rw[i];simp) m;have z:=run_append_grow_src (P:=prog) (w:=w) 46 46 ty 5 i0 (Kx .u8 0) Tryz.underlying46 hi K (IT ⟨g,0,KK⟩) bs.length cap (bs.map bv) U x c.length (c.map bv) O af af (growslice_fits af (by rw[I];omega));have W:=grownCap_ge w (bs.length+c.length) cap 5;have t:grownCap w (bs.length+c.length) cap 5<=maxLen:=grownCap_le_maxLen w (bs.length+c.length) cap 5 (by unfold maxLen;omega);refine⟨_,_,z,.inr ⟨w.heap.size,_,_,(0,0),by rw[f],l,Lw w.drew _,.inl rfl,by rw[f];exact W,t,?_,?_⟩,⟨rfl,rfl,rfl,ai,λk G _=>(MapKept.heap_alloc w.drew _).2 k G⟩,.inr rfl⟩
   .simp only[Array.size_append,List.size_toArray,size_zeroCells,eh,dj];have hz:(tb IntKind.u8 0).cells.size=1:=rfl;rw[hz];omega
   .simp only[Array.toList_append];rw[f,List.take_append_of_le_length ai,ey ai,k8]
theorem zD{w:KX}{rest:List Oper}{a:Act}(e:f.guard=KK)(s y:Operand)(m:f.op=.call { callee:=.builtin .append,args:=#[s,y],argTypes:=#[46,46] })(base:Nat)(v:J3)(bs:List UInt8)(o:a.eval s=v)(h:bN w base v bs)(d:bs≠[])(x:J3)(c:List UInt8)(p:a.eval y=x)(l:Rd w x c)(j:bs.length+c.length<=100000)(b:base<=w.heap.size)(k:∀v' w',bN w' base v' (bs++c)->gP v w w' v'->wpList prog ops Q rest (a.put f.dst v') w'):wpList prog ops Q (f::rest) a w:=by refine wpList_plain e λK hK=>?_;obtain⟨v',w',q,i,g,n⟩:=EU base f.type v bs h d x c l j b;unfold Oper.wp execOp;simp only[m,resolve,invoke,builtin,Sem.run_bind,Sem.run_pure,Result.andThen_ok,GO,oj,FP,o,p,q];exact hK _ _ (k v' w' i ⟨g,n⟩)
theorem EW(v:J3)(bs:List UInt8)(w:KX)(b:Rd w v bs):K1 prog 125 #[v] w λe w'=>e=Mk (Kx Mo (gX bs:Int))/\w=w':=by have a:=ae (G3 v bs w b);go_enter func125,ntmps125;go_wp2_with fail;go_call a.out as e w1⟨rfl,rfl⟩;go_wp2;go_ret;exact⟨rfl,rfl⟩
theorem QI(s:ByteArray)(w:KX)(d:s.size<=1000):K1 prog 70 #[.string s] w λe w'=>e=Mk (Kx Mo (fO s:Int))/\Lg w w w':=by have c:=ae (EW _ _ _ (qD w s d));have a:=ae (Joins.below_bytesWorld w.heap.size w 5 s (cg _));have b:=λW=>Lib.run_convert_string_bytes (P:=prog) W 9 46 5 s Tryz.underlying9 Tryz.underlying46 Tryz.underlying5;go_enter func70,ntmps70;go_wp2_with fail;go_call c.out as e w1⟨rfl,rfl⟩;go_wp2_with fail;go_ret;exact⟨rfl,a.out⟩
theorem acn{x:Nat}(h:x<65536):le x 4=le x 2++le 0 2:=by
 have a:x/256/256=0:=af;simp only[le,Nat.pow_zero,Nat.div_one,Nat.pow_succ,Nat.one_mul,DP,List.cons_append];rw[show 256*256=65536 from rfl,show 65536*256=16777216 from rfl,show x/65536=0 by omega,show x/16777216=0 by omega]
theorem Kr(tag a:Nat)(bs:List UInt8)(h:bs.length<=240):cG tag a bs=le tag 4++le a 4++le bs.length 4++bs++ei (240-bs.length) 0:=by unfold cG lX;rw[acn (x:=bs.length) af];simp only[o0]
def Cc(w:KX)(bs:List UInt8)(e:Lp)(w':KX):Prop:=
 ∃v',e=Mk (Ly #[v',Kx Mm 0])/\bN w' w.heap.size v' bs/\Lg w w w'
def ak2:J3->Nat
 | .slice _ n _=>n
 |_=>0
theorem bN.shape{w:KX}{base:Nat}{v:J3}(h:bN w base v bs):∃a cap,v=.slice a bs.length cap/\bs.length<=cap/\cap<=maxLen:=by
 rcases h with⟨rfl,rfl⟩|⟨g,cap,c,e,rfl,_,_,_,d,b,_⟩
 .exact⟨KK,0,rfl,cg _,em _⟩
 .exact⟨_,cap,rfl,d,b⟩
theorem NS{a W b:KX}{v:J3}(d:Lg a a W)(e:bN W a.heap.size v bs)(c:gP v W b v'):Lg a a b:=
 (bH d (λy f=>(e.lt y f).1) c).1
theorem NT(tag b:Nat)(v:J3)(bs:List UInt8)(w:KX)(hv:Rd w v bs)(F:bs.length<=240)(ht:tag<4294967296)(hn:b<4294967296):K1 prog 69 #[Kx Mo tag,Kx Mo b,v] w (Cc w (cP tag b bs)):=by
 have hr:Lk (∀W,Lg w w W->Rd W v bs):=ae λW h=>hv.below h;obtain⟨a,cap,rfl,V,I,hc⟩:=hv;clear hc;unfold maxLen at I;have f:=ae xT;have m:Lk (cG tag b bs=le tag 4++le b 4++le bs.length 4++bs++ei (240-bs.length) 0):=ae (Kr tag b bs F);have T:Lk (cP tag b bs=cG tag b bs++le (gX (cG tag b bs)) 4):=ae rfl;have H:Lk ((cG tag b bs).length=252):=ae (iH tag b bs F);have am:=ry (cG tag b bs);generalize cG tag b bs=d at *;have X:Lk (∀u W,Rd W u d->K1 prog 125 #[u] W λe w'=>e=Mk (Kx Mo (gX d:Int))/\W=w'):=ae (λu W h=>EW u d W h);generalize gX d=M at *;generalize cP tag b bs=p at *;have jC:=ae (bN.nil w w.heap.size).rd;obtain⟨N,U⟩:=ac bs.length;have J:=ae U;rw[<- U]at F V m ⊢;clear U;go_enter func69,ntmps69;go_wp2_with fail;go_call(f.out (.slice KK 0 0) [] tag 4 w (.inl rfl) af jC.out ag) as e1 w1⟨v1,rfl,hb1,oh⟩;have R:=ae oh;have kS:=ae hb1;clear hb1 oh;go_wp2_with fail;refine(f.out v1 (le tag 4) b 4 w1 (.inl rfl) af kS.out.rd (by rw[bL];omega)).mono ?_;rintro e2 w2⟨v2,rfl,o,vL⟩;have A:=ae (R.out.trans (vL.mono R.out.size));have ve:=ae o;clear o vL kS R;go_wp2_with fail;refine(f.out v2 (le tag 4++le b 4) N 4 w2 (.inl rfl) af ve.out.rd (by rw[eh,bL,bL];omega)).mono ?_;rintro e3 w3⟨v3,rfl,n,Fz⟩;have y:=ae (A.out.trans (Fz.mono A.out.size));have S:=ae (n.base A.out.size);have eM:=ae (hr.out w3 y.out);clear n Fz ve A;have P5:(le tag 4++le b 4++le N 4).length+bs.length<=100000:=by simp only[eh,bL];rw[<- J.out];omega
 have s:le tag 4++le b 4++le N 4≠[]:=λe=>by have:=congrArg List.length e;simp[bL]at this
 go_wp2_with (at_builtin;refine zD rfl _ _ rfl w.heap.size _ _ rfl S.out s _ _ rfl (by rw[J.out];exact eM.out) P5 y.out.size ?_);intro v4 w4 x CW;have zZ:=ae (NS y.out S.out CW);obtain⟨c,E⟩:=ac (le tag 4++le b 4++le N 4++bs);have Gi:Lk (bN w4 w.heap.size v4 c):=ae (by rw[E];simpa[o0]using x);have i:Lk ((le tag 4++le b 4++le N 4++bs).length=12+N):=ae (by simp only[eh,bL];rw[<- J.out]);clear x CW P5 s S eM y;rw[<- E]at i m;clear E;go_wp2;go_loopw [8] (λpv W=>∃j:Nat,j<=240-N/\bN W w.heap.size pv (c++ei j 0)/\Lg w w W) (λpv _=>252-ak2 pv)
 case atStart=>exact⟨0,em _,by simpa using Gi.out,zZ.out⟩
 case round=>
  generalize wr=W at *;obtain⟨j,hj,L,hB⟩:=hrel;obtain⟨pa,P,rfl,Q,K⟩:=L.shape;unfold maxLen at K;have z:=ae L;have l:=ae hB;have g:(c++ei j (0:UInt8)).length=12+N+j:=by rw[eh,i.out,pn]
  rw[g]at z Q ⊢;have X9:=ae g;clear L hB g;by_cases al:j<240-N
  .have G:=l.out.size;have C:(c++ei j (0:UInt8)).length<=100000:=by rw[X9.out];omega
   go_wp2_with (at_builtin;refine nH rfl _ _ rfl w.heap.size _ _ rfl (z.out.alloc _) 0 W.heap.size 1 rfl ?c1 C ?c2 ?_);case c1=>simp[bv]
   case c2=>simp;omega
   intro v5 w5 kR Pr;have uY:Lk (bN w5 w.heap.size v5 (c++ei (j+1) 0)):=ae (by rw[List.replicate_succ',<- o0];simpa[o0]using kR)
   have Z:Lk (Lg w w w5):=ae ((l.out.alloc G _).grown Pr (by simp;omega) (λk hk=>(z.out.lt k hk).1));have VH:ak2 v5=12+N+j+1:=by obtain⟨a5,c5,rfl,-⟩:=uY.out.shape;show List.length _=_;rw[eh,i.out,pn];omega
   have D:=ae VH;clear kR Pr VH;go_wp2;go_roundw
   case rel=>exact⟨j+1,af,uY.out,Z.out⟩
   case measure=>rw[D.out];show 252-(12+N+j+1)<252-(12+N+j);omega
  .have q:j=240-N:=af;have O:Lk (bN W w.heap.size (.slice pa (12+N+j) P) d):=ae (by rw[m.out,<- q];exact z.out)
   have r:12+N+j=252:=af;rw[r]at O ⊢;clear q r;have Y:=ae (X.out (.slice pa 252 P) W O.out.rd);go_wp2_with fail;go_call Y.out as e w'⟨rfl,rfl⟩;go_wp2_with fail;refine(f.out (.slice pa 252 P) d M 4 W (.inl rfl) af O.out.rd (by rw[H.out];omega)).mono ?_;rintro e6 w6⟨v6,rfl,Cr,t⟩;have B:=ae (l.out.trans (t.mono l.out.size));have Hs:Lk (bN w6 w.heap.size v6 p):=ae (by rw[T.out];exact Cr.base l.out.size);clear Cr t;go_wp2;go_ret2;exact⟨_,rfl,Hs.out,B.out⟩
theorem take_one{b:Type}{l:List b}{x:b}(h:l[i]? = IT x):l.take (i+1)=l.take i++[x]:=by have a:=(e7.1 h).1;rw[bk a]at h;rw[fh a,Option.some.inj h]
def iq(w:KX)(v:J3)(rs:List Rec):Prop:=
 ∃a cap,v=.slice a rs.length cap/\rs.length<=cap/\cap<=maxLen/\∀(i:Nat)(r:Rec),rs[i]? = IT r->∃g b,a=IT ⟨g,0,KK⟩/\w.cell? ⟨g,i,KK⟩=IT b/\Rd w b r
theorem iq.below{w:KX}{v:J3}(h:iq w v rs)(b:Lg w w w'):iq w' v rs:=by obtain⟨a,cap,rfl,e,j,c⟩:=h;refine⟨a,cap,rfl,e,j,λi r k=>?_⟩;obtain⟨g,f,m,l,d⟩:=c i r k;exact⟨g,f,m,bq b l,d.below b⟩
def my(w:KX)(base:Nat)(v:J3)(rs:List Rec):Prop:=
 ∃l:List (J3×Rec),l.map (·.2)=rs/\w.ownsRow base 46 1 v l.length (l.map (·.1))/\∀p∈l,bN w base p.1 p.2
theorem my.rd{w:KX}{base:Nat}{v:J3}(h:my w base v rs):iq w v rs:=by
 obtain⟨l,rfl,b,j⟩:=h;have a:(l.map (·.2)).length=l.length:=dj _;have d:=b;obtain⟨_,⟨rfl,e⟩|⟨g,cap,k,rfl,o,n,f,m,s,q⟩⟩:=d
 .refine⟨KK,0,by rw[a,e],by rw[a];omega,em _,λi r hi=>?_⟩;have:=aK hi;omega
 .refine⟨_,cap,by rw[a],by rw[a];exact f,m,λi r hi=>?_⟩;rw[j1]at hi;obtain⟨p,c,rfl⟩:=Option.map_eq_some_iff.1 hi;refine⟨g,p.1,rfl,?_,(j p (cx c)).rd⟩;have:=World.ownsRow.cells b (g:=g) rfl i p.1 (by rw[j1,c];rfl);rwa [br,j0]at this
theorem QJ:(prog.info? 46).map (λi=>(i.zero,i.size,i.bytes))=IT (IT (.slice KK 0 0),1,24):=ah
theorem bN.block{w:KX}{base:Nat}{v:J3}(h:bN w base v bs)(a:v.ownBlock=IT k):∃c b,w.heap[k]? = IT (Mi c 5 b):=by
 rcases h with⟨rfl,_⟩|⟨g,cap,e,b,rfl,f,d,_⟩
 .cases a
 .cases a;exact⟨_,_,d⟩
theorem bN.one{w:KX}{base:Nat}{v:J3}(h:bN w base v bs):v.oneCell'=true:=by rcases h with⟨rfl,_⟩|⟨g,cap,a,b,rfl,d,c,_⟩<;>rfl
theorem qu{w:KX}{rest:List Oper}{a:Act}(q:f.guard=KK)(s x:Operand)(H:f.op=.call { callee:=.builtin .append,args:=#[s,x],argTypes:=#[87,87] })(base:Nat)(v:J3)(rs:List Rec)(M:a.eval s=v)(h:my w base v rs)(d:J3)(r:Rec)(D:bN w base d r)(c:Nat)(I:a.eval x=.slice w.heap.size 1 c)(F:rs.length<=100000)(o:base<=w.heap.size)(k:∀v' w',my w' base v' (rs++[r])->gP v (w.alloc (Mi #[d] 46)) w' v'->wpList prog ops Q rest (a.put f.dst v') w') :
 wpList prog ops Q (f::rest) a (w.alloc (Mi #[d] 46)):=by
 obtain⟨l,rfl,b,L⟩:=h;have P:l.length<=100000:=by rwa [dj]at F
 refine ct q s x 87 H base 46 _ 1 24 Tryz.underlying87 QJ rfl ag v l.length (l.map (·.1)) M (World.ownsRow.alloc b _) ⟨w.heap.size,0,KK⟩ 1 c [d] I rfl (λj u i=>?_) (λu K=>by rw[kj.1 K];exact D.one) (by unfold maxLen;omega) af (by simp;omega) (λv' w' n C=>k v' w' ⟨l++[(d,r)],ai,by rw[k8,eh];exact n,λp m=>?_⟩ C)
 .rw[br,j0];match j,i with
  |0,i=>cases i;simp
  |j+1,i=>cases i
 .have t:bN w base p.1 p.2:=by
   rcases hS.1 m with m | m
   .exact L p m
   .rw[kj.1 m];exact D
  obtain⟨E,_⟩:=C;refine t.kept (λy A=>?_);have z:=(t.lt y A).2;refine(E.block y (by simp;omega) (λe=>?_)).trans ((MapKept.heap_alloc w _).2 y z);obtain⟨R,O,N⟩:=t.block A;obtain⟨_,⟨n,_⟩|⟨g,cap,J,G,_,B,_⟩⟩:=b
  .rw[n]at e;cases e
  .rw[G]at e;cases e;rw[N]at B;cases B
def sS(w:KX)(rs:List Rec)(e:Lp)(w':KX):Prop:=∃v,e=Mk v/\iq w' v rs/\Lg w w w'
def NU(w:KX)(rs:List Rec)(i:Nat)(v:J3)(W:KX):Prop:=my W w.heap.size v (rs.take i)/\Lg w w W
theorem my.nil(w:KX)(base:Nat):my w base (.slice KK 0 0) []:=⟨[],rfl,gp _ _ _ _,λ_ a=>nomatch a⟩
theorem lD(v:J3)(es:List aJ)(w:KX)(B:gR w v es)(hl:es.length<=10000):K1 prog 30 #[v] w (sS w (es.map aJ.bytes)):=by
 have E:=ae B;obtain⟨a,cap,rfl,-⟩:=B;have R:Lk ((es.map aJ.bytes).take es.length=es.map aJ.bytes):=ae (ey ai);generalize t:es.length=N at *;have J:=ae t;clear t;go_enter func30,ntmps30;go_wp2;go_loopw [3,4] (λz m W=>∃i:Nat,i<=N/\m=i/\NU w (es.map aJ.bytes) i z W) (λ_ m _=>N-(Lo m).toNat)
 case atStart=>exact⟨0,em _,rfl,my.nil _ _,kp _ _⟩
 case round=>
  generalize u3=z at *;generalize wr=W at *;obtain⟨i,hi,rfl,G,K⟩:=hrel;have r:=ae G;have g:=ae K;clear G K;by_cases s:i<N
  .have L:i<es.length:=by rw[J.out];exact s
   obtain⟨x,q⟩:∃x,es[i]? = IT x:=⟨_,bk L⟩;have V:Lk ((es.map aJ.bytes).take (i+1)=(es.map aJ.bytes).take i++[x.bytes]):=ae (take_one (by rw[j1,q];rfl));obtain⟨-,f⟩:=eL (by rw[<- J.out]at E;exact E.out.below g.out);obtain⟨be,oe,rfl,P,M,T,Q⟩:=f W aq i x q;clear f q L;have H:=ae (B0 x W);have c:((es.map aJ.bytes).take i).length<=100000:=by rw[et];omega
   have n:=ae c;clear c;generalize x.bytes=u at *;go_wp2_with fail;go_call H.out as e W1⟨rv,rfl,hb1,oh⟩;have D:=ae (g.out.trans (oh.mono g.out.size));obtain⟨S,X,rfl,-⟩:=hb1.shape;have j:=ae (hb1.base g.out.size);generalize u.length=U at *;have A:Lk (my W1 w.heap.size z ((es.map aJ.bytes).take i)):=ae (by obtain⟨l,O,o,C⟩:=r.out;exact⟨l,O,aB o oh,λp I=>(C p I).kept (λy k=>oh.block y ((C p I).lt y k).2)⟩)
   have d:w.heap.size<=W1.heap.size:=D.out.size;have c:=n.out;clear hb1 oh H P M T Q r;go_wp2_with (at_builtin;refine qu rfl _ _ rfl w.heap.size z _ rfl A.out (.slice S U X) u j.out 1 rfl c d ?_);intro v2 F h b;have ve:Lk (my F w.heap.size v2 ((es.map aJ.bytes).take (i+1))):=ae (by rw[V.out];exact h);have Y:Lk (Lg w w F):=ae (bH (D.out.alloc d _) (λy k=>by obtain⟨_,_,o,_⟩:=A.out;exact aD o y k) b).1
   clear h b c;go_wp2;go_roundw
   case rel=>exact⟨i+1,af,by go_num,ve.out,Y.out⟩
   case measure=>simp[Lo];omega
  .obtain rfl:N=i:=af
   have Z:Lk (iq W z (es.map aJ.bytes)):=ae (by have:=r.out.rd;rwa [R.out]at this)
   go_wp2;go_ret;exact⟨_,rfl,Z.out,g.out⟩
def A8(w:KX)(bs:List UInt8)(e:Lp)(w':KX):Prop:=∃v,e=Mk v/\w'.ownsRow w.heap.size 5 1 v bs.length (bs.map bv)/\Lg w w w'
theorem QK{p:Nat}(c:1<=p)(b:p*k<rs.length)(tag:Nat):bC tag 0 ((bf p rs).take (k+1))=bC tag 0 ((bf p rs).take k)++cP tag k ((rs.drop (p*k)).take p).flatten:=by
 have a:(bf p rs)[k]? = IT ((rs.drop (p*k)).take p).flatten:=by rw[jq c,if_pos b]
 have d:=aK a;rw[take_one a,jD,j0,et,Nat.min_eq_left af];show _=_++_;rw[show bC tag k [((rs.drop (p*k)).take p).flatten]=cP tag k ((rs.drop (p*k)).take p).flatten++[] from rfl,nw]
def vw(w:KX)(tag p:Nat)(rs:List Rec)(k:Nat)(v:J3)(W:KX):Prop:=
 ∃n,n=(bC tag 0 ((bf p rs).take k)).length/\W.ownsRow w.heap.size 5 1 v n ((bC tag 0 ((bf p rs).take k)).map bv)/\Lg w w W
def NV(w:KX)(p:Nat)(rs:List Rec)(k j:Nat)(v:J3)(W:KX):Prop:=
 ∃n,n=(((rs.drop (p*k)).take j).flatten).length/\W.ownsRow w.heap.size 5 1 v n ((((rs.drop (p*k)).take j).flatten).map bv)
theorem iL(name:Name)(hn:name.size<=1000)(v:J3)(p sz:Nat)(rs:List Rec)(w:KX)(hv:iq w v rs)(hs:iA sz rs)(hl:rs.length<=10000)(hp:p=fw sz)(d:1<=sz/\sz<=240):K1 prog 29 #[.string name,v,p] w (A8 w (bC (fO name) 0 (bf (fw sz) rs))):=by
 rw[<- hp];have zY:1<=p:=by rw[hp];exact sq d.1 d.2
 have I5:sz*p<=240:=by rw[hp];exact sr sz
 have gE:p<=240:=cp (GE _ d.1) I5;have Z:=ae I5;have Jw:=ae hs;have HV:Lk (∀W,Lg w w W->iq W v rs):=ae (λW a=>hv.below a);have am:Lk (kJ (bf p rs)):=ae (by rw[hp];exact Gm hs);have Tn:=ae (λW=>QI name W hn);have De:fO name<4294967296:=ry _;have el:Lk (∀(k:Nat)u bs W,Rd W u bs->bs.length<=240->k<4294967296->K1 prog 69 #[Kx Mo (fO name:Int),Kx Mo (k:Int),u] W (Cc W (cP (fO name) k bs))):=ae (λk u bs W f a hk=>NT _ k u bs W f a De hk);have ff:Lk (∀k,p*k<rs.length->bC (fO name) 0 ((bf p rs).take (k+1))=bC (fO name) 0 ((bf p rs).take k)++cP (fO name) k ((rs.drop (p*k)).take p).flatten):=ae (λk hk=>QK zY hk _);have JL:Lk (∀k,(bC (fO name) 0 ((bf p rs).take k)).length=256*min k (bf p rs).length):=ae (λk=>by rw[dM _ (am.out.take k),et]);have WS:Lk ((bf p rs).length<=rs.length):=ae (by
  rw[dG];rcases lb rs.length (cN p rs.length) with h | h
  .have:=(eR (n:=rs.length) zY).1 h;have:=GE rs.length (show 0<p by omega);omega
  .exact h)
 have GQ:Lk (∀k,rs.length<=p*k->(bf p rs).take k=bf p rs):=ae (λk hk=>ey (by
  rw[dG];rcases lb k (cN p rs.length) with h | h
  .have:=(eR zY).1 h;omega
  .exact h))
 obtain⟨va,vc,rfl,gt,eS,-⟩:=hv;unfold maxLen at eS;clear hp hs d De I5 am;generalize fO name=tag at *;have VB:∀k:Nat,(p:Int)*k=((p*k:Nat):Int):=λk=>by rw[Int.natCast_mul]
 have FX:=ae VB;clear VB;generalize hN:rs.length=N at *;have HN:=ae hN;clear hN;go_enter func29,ntmps29;go_wp2;go_loopw [7,8] (λz kv W=>∃k:Nat,p*k<=N+p/\k<=N/\kv=Kx Mm (k:Int)/\vw w tag p rs k z W) (λ_ kv _=>N-(Lo kv).toNat)
 case atStart=>exact⟨0,af,em _,rfl,0,rfl,gp _ _ _ _,kp _ _⟩
 case round=>
  generalize u7=z at *;generalize wr=W at *;obtain⟨k,LJ,i8,rfl,on,vQ,f,a⟩:=hrel;have ci:=ae vQ;have HR:=ae f;have HB:=ae a;have hz:w.heap.size<=W.heap.size:=a.size;have TE:on<=256*N:=by
   rw[vQ,JL.out];have:=WS.out;have:min k (bf p rs).length<=N:=af
   omega
  clear f a vQ;have eO:=FX.out k;obtain⟨q,hq⟩:=ac (p*k);rw[<- hq]at eO LJ;have tW:cf Mm ((q:Nat):Int)=q:=ax af af;have J:=ae hq;clear hq;by_cases fI:q<N
  .have dA:(p:Int)*((k:Int)+1)=((q+p:Nat):Int):=by rw[Int.mul_add,eO,Int.mul_one,Int.natCast_add]
   have dl:cf Mm ((q+p:Nat):Int)=(q+p:Nat):=ax af af;obtain⟨A,I⟩:=ac (q+p);rw[<- I]at dA dl;have C:=ae I;have iS:A<=N+240:=af;have i6:q<A:=af;clear I;go_wp2;go_loopw [9,10] (λaE m s=>∃j:Nat,q+j<=A/\q+j<=N/\m=Kx Mm ((q+j:Nat):Int)/\NV w p rs k j aE s/\vw w tag p rs k z s/\(∀b,aE.ownBlock=IT b->z.ownBlock≠IT b)) (λ_ m _=>N-(Lo m).toNat)
   case atStart=>exact⟨0,af,af,rfl,⟨0,ai,by simpa using gp W w.heap.size _ 1⟩,⟨on,ci.out,HR.out,HB.out⟩,λb a=>by cases a⟩
   case round=>
    generalize u9=pv at *;generalize wr=s at *;obtain⟨j,OW,jj,rfl,⟨bn,Le,Q⟩,⟨o,Xl,O,H⟩,T8⟩:=hrel;have E:=ae Le;have F:=ae Q;have Ty:=ae Xl;have l:=ae O;have i:=ae H;have bd:=ae T8;have Y:w.heap.size<=s.heap.size:=H.size;have V:bn<=sz*p:=by have du:iA sz ((rs.drop (p*k)).take j):=(Jw.out.drop _).take _;rw[Le,pP du];refine Nat.mul_le_mul_left _ ?_;rw[et];have:=C.out;omega
    have dq:bn<=240:=cp V Z.out;clear Le Q Xl O H T8 V;by_cases B:q+j<N/\q+j<A
    .obtain⟨t,de⟩:=B;have oL:q+j<rs.length:=by rw[HN.out];exact t
     obtain⟨r,f⟩:∃r,rs[q+j]? = IT r:=⟨_,bk oL⟩;obtain⟨a',c',BM,-,-,c⟩:=HV.out s i.out;obtain⟨g,rv,rfl,hc,vP⟩:∃g rv,va=IT ⟨g,0,KK⟩/\s.cell? ⟨g,q+j,KK⟩=IT rv/\Rd s rv r:=by cases BM;exact c _ r f
     have OQ:=ae vP;have FH:r.length=sz:=Jw.out r (cx f);have io:sz<=240:=cp (Nat.le_mul_of_pos_right _ zY) Z.out;have nT:Lk (((rs.drop (p*k)).take (j+1)).flatten=((rs.drop (p*k)).take j).flatten++r):=ae (by rw[take_one (x:=r) (by rw[F1,<- J.out];exact f),List.flatten_append];simp)
     have tu:bn+r.length<=100000:=af;have gx:Lk (r.length=sz):=ae FH;clear BM c vP f oL FH;go_wp2_with (at_builtin;refine gY rfl _ _ 46 rfl w.heap.size 5 Tryz.underlying46 jZ pv bn _ rfl F.out _ r rfl OQ.out ?c1 ?c2 ?_);case c1=>omega
     case c2=>exact Y
     intro v2 W2 co G T;have cA:Lk (NV w p rs k (j+1) v2 W2):=ae (by refine⟨bn+r.length,by rw[nT.out,eh,<- E.out],?_⟩;rw[nT.out,k8,List.map_flatten,List.map_take,List.map_drop];exact co)
     have tq:Lk (vw w tag p rs k z W2):=ae ⟨o,Ty.out,bg l.out (λy hy=>G.block y (aA l.out y hy).1 (λe=>bd.out y e.symm hy)),i.out.grown G Y (aD F.out)⟩;have JQ:Lk (∀b,v2.ownBlock=IT b->z.ownBlock≠IT b):=ae (λb a he=>by
      rcases T with e | e
      .rw[e]at a;exact bd.out b a he
      .rw[e]at a;have h1:=Option.some.inj a;have h2:=(aA l.out b he).1;omega)
     clear co G T hc tu;go_wp2;go_roundw
     case rel=>exact⟨j+1,af,af,by go_num,cA.out,tq.out,JQ.out⟩
     case measure=>simp[Lo];omega
    .have K:Lk (((rs.drop (p*k)).take j).flatten=((rs.drop (p*k)).take p).flatten):=ae (by
      congr 1;rcases lb (q+j) A with h | h
      .have h1:q+j=N:=af;rw[ey,ey]
       .rw[ie,HN.out,<- J.out];have:=C.out;omega
       .rw[ie,HN.out,<- J.out];omega
      .have:j=p:=Nm C.out
       rw[this])
     have OO:k<N:=No (GE k (show 0<p by omega)) J.out;have kd:cf Mo (k:Int)=k:=cM _ af af;have en:Lk (Rd s pv (((rs.drop (p*k)).take p).flatten)):=ae (by rw[<- K.out];have:=F.out;rw[E.out]at this;exact fp this)
     have U:Lk ((((rs.drop (p*k)).take p).flatten).length<=240):=ae (by rw[<- K.out,<- E.out];exact dq);have X:=ae (ff.out k (by rw[<- J.out];exact fI));have PZ:Lk ((cP tag k (((rs.drop (p*k)).take p).flatten)).length=256):=ae (dW _ _ _ U.out);clear K;generalize ((rs.drop (p*k)).take p).flatten=pg at *;have S:¬(q+j<N/\q+j<A):=B;clear B;by_cases t:q+j<N;all_goals
      first
       | (have de:¬q+j<A:=λh=>S ⟨t,h⟩)
       |skip
      clear S;go_wp2_with fail;go_call(Tn.out _) as e W2⟨rfl,hb2⟩;have D:=ae (i.out.trans (hb2.mono i.out.size));have R:=ae (aB l.out hb2);have tX:=ae (el.out k pv pg W2 (en.out.below hb2) U.out af);clear hb2;go_wp2_with fail;go_call tX.out as e W3⟨pv3,rfl,hb3,Fz⟩;have L:=ae (D.out.trans (Fz.mono D.out.size));have P:=ae (aB R.out Fz);have uT:=ae hb3.rd;have al:w.heap.size<=W3.heap.size:=L.out.size;clear hb3 Fz tX D R;have i7:o<=256*N:=by
       rw[Ty.out,JL.out];have:=WS.out;have:min k (bf p rs).length<=N:=af
       omega
      go_wp2_with (at_builtin;refine gY rfl _ _ 46 rfl w.heap.size 5 Tryz.underlying46 jZ z o _ rfl P.out _ (cP tag k pg) rfl uT.out ?c1 ?c2 ?_);case c1=>rw[PZ.out];omega
      case c2=>exact al
      intro v4 W4 ce M _;have fm:Lk (vw w tag p rs (k+1) v4 W4):=ae (by refine⟨o+(cP tag k pg).length,by rw[X.out,eh,<- Ty.out],?_,L.out.grown M al (aD P.out)⟩;rw[X.out,k8];exact ce)
      have ee:Lk (p*(k+1)<=N+p):=ae (by rw[Nat.mul_add,sE,<- J.out];omega)
      clear ce M;go_wp2;go_roundw
      case rel=>exact⟨k+1,ee.out,af,by go_num,fm.out⟩
      case measure=>simp[Lo];omega
  .have HE:Lk (W.ownsRow w.heap.size 5 1 z (bC tag 0 (bf p rs)).length ((bC tag 0 (bf p rs)).map bv)):=ae (by have h1:=HR.out;rw[ci.out]at h1;rwa [GQ.out k (by rw[<- J.out];omega)]at h1)
   go_wp2;go_ret;exact⟨_,rfl,HE.out,HB.out⟩
theorem mU(c:UInt8)(k:Nat)(C:k<=1048576)(w:KX):K1 prog 27 #[c,k] w λe w'=>e=Mk (.string (aF c k))/\Lg w w w':=by
 have n:Lk (∀W,Lg w w W->K1 prog 66 #[k] W λe w'=>∃v,e=Mk v/\Lg W W w'/\v=.string ⟨(Lib.decDigits k).toArray⟩):=ae (λW J=>by refine(G2 k C W).mono ?_;rintro e w'⟨rfl,rfl⟩;exact⟨_,rfl,kp _ _,rfl⟩)
 have U:¬(k:Int)<0:=af;have u:Lk ((⟨#[c,46]⟩:ByteArray)++⟨(Lib.decDigits k).toArray⟩=aF c k):=ae (by unfold aF;apply ByteArray.ext;simp)
 have p:Lk (∀(W:KX)(g:Nat),W.cell? g=c->W.cell? ⟨g,1,KK⟩=IT (Kx .u8 46)->Sem.run prog (convert 46 9 (.slice g 2 2)) W=.ok (.string ⟨#[c,46]⟩) W):=ae (λW g r l=>
  run_convert_bytes_back (P:=prog) _ 46 9 5 ⟨g,0,KK⟩ 2 [c,46] Tryz.underlying46 Tryz.underlying5 Tryz.underlying9 (λj z=>by
   rw[br,j0];match j,z with
   |0,_=>exact r
   |1,_=>exact l))
 have T:(Lib.decDigits k).length<=7:=(AY 6 k af).2;generalize Lib.decDigits k=H at *;generalize aF c k=full at *;go_enter func27,ntmps27;go_wp2;refine uw (Lg w w) (CY c k H full) ah ah aq.drew (λK M l A=>l.trans (A.mono l.size)) Ey ?_ ?_
 .intro i o b a W I d;match i,b with
  |0,b=>cases b;have r:=d.old 0 rfl rfl;refine bS (v:=c) (w':=W) ?_ aq rfl;go_simp
  |1,b=>cases b;obtain⟨N,O,rfl⟩:=d.get 0 rfl rfl rfl;refine bS (v:=.slice (IT ⟨W.heap.size,0,KK⟩) 2 2) (w':=W.alloc (Mi #[c,Kx .u8 46] 5)) ?_ aj ⟨W.heap.size,rfl,ai,ai⟩;go_simp
  |2,b=>cases b;obtain⟨R,V,g,rfl,E,c1⟩:=d.get 1 rfl rfl rfl;have L:=p.out W g E c1;refine bS (v:=.string ⟨#[c,46]⟩) (w':=W) ?_ aq rfl;go_simp
  |3,b=>cases b;have l:=d.old 1 rfl rfl;refine bS (v:=k) (w':=W) ?_ aq rfl;go_simp
  |4,b=>cases b;obtain⟨D,F,rfl⟩:=d.get 3 rfl rfl rfl;refine gC (f:=66) (args:=#[k]) ?_ (n.out W I);go_simp
  |5,b=>cases b;obtain⟨v9,S,rfl⟩:=d.get 2 rfl rfl rfl;obtain⟨B,y,rfl⟩:=d.get 4 rfl rfl rfl;refine bS (v:=.string full) (w':=W) ?_ aq rfl;rw[<- u.out];go_simp;omega
  |6,b=>cases b;obtain⟨x,Q,rfl⟩:=d.get 5 rfl rfl rfl;refine bS (v:=.string full) (w':=W) ?_ aq rfl;go_simp
  |_+7,b=>cases b
 .intro m a W h s;have G:=ae h.cls;obtain⟨vs,q,t,rfl⟩:=Sk h s ah ah;match vs,q with
  | [v0,v1,v2,v3,v4,v5,v6],_=>obtain rfl:=t 6 v6 rfl;clear t q s h;simp only[jt];go_simp;go_wp2;go_ret;exact⟨rfl,G.out⟩
theorem NW(e:bZ)(w:KX):K1 prog 124 #[LV #[e.r,e.l,e.g]] w (vr w e.bytes):=by
 have b:=ae xT;have F:=e.r.toNat_lt;have J:=e.l.toNat_lt;have H:=e.g.toNat_lt;have k:Lk (e.bytes=le e.r.toNat 4++le e.l.toNat 4++le e.g.toNat 4):=ae rfl;generalize e.bytes=bs at *;generalize e.r.toNat=c at *;generalize e.l.toNat=d at *;generalize e.g.toNat=f at *;go_enter func124,ntmps124;have l:Lk (Lg w w (w.alloc (Mi #[Kx Mo c,Kx Mo d,Kx Mo f] 110))):=ae aj;have s:Lk ((w.alloc (Mi #[Kx Mo c,Kx Mo d,Kx Mo f] 110)).heap[w.heap.size]? = IT (Mi #[Kx Mo c,Kx Mo d,Kx Mo f] 110)):=ae (Lw w _);have y:=ae (bN.nil (w.alloc (Mi #[Kx Mo c,Kx Mo d,Kx Mo f] 110)) w.heap.size).rd;go_wp2_with fail;generalize w.alloc (Mi #[Kx Mo c,Kx Mo d,Kx Mo f] 110)=w0 at *;have a:Lk (∀W,Lg w0 w0 W->W.cell? w.heap.size=IT (Kx Mo c)/\W.cell? ⟨w.heap.size,1,KK⟩=IT (Kx Mo d)/\W.cell? ⟨w.heap.size,2,KK⟩=IT (Kx Mo f)):=ae (λW E=>by have z:=(E.block _ (bD s.out)).trans s.out;refine⟨?_,?_,?_⟩<;>rw[au z]<;>rfl)
 refine(b.out (.slice KK 0 0) [] c 4 w0 (.inl rfl) af y.out ag).mono ?_;rintro K o⟨u,rfl,g,r⟩;have m:=ae r;have t:=ae g;obtain⟨-,x,-⟩:=a.out o m.out;clear g r;go_wp2_with fail;refine(b.out u (le c 4) d 4 o (.inl rfl) af t.out.rd (by rw[bL];omega)).mono ?_;rintro G q⟨v2,rfl,h,p⟩;have j:=ae (m.out.trans (p.mono m.out.size));have D:=ae h;obtain⟨-,-,C⟩:=a.out q j.out;clear h p x;go_wp2_with fail;refine(b.out v2 (le c 4++le d 4) f 4 q (.inl rfl) af D.out.rd (by rw[eh,bL,bL];omega)).mono ?_;rintro I B⟨v4,rfl,i,n⟩;have v:=ae (j.out.trans (n.mono j.out.size));have A:Lk (bN B w.heap.size v4 bs):=ae (by rw[k.out];exact i.base (cp l.out.size j.out.size));clear i n C;go_wp2;go_ret;exact⟨_,rfl,A.out,l.out.trans (v.out.mono l.out.size)⟩
theorem A9{w:KX}{a:Option Addr}{n cap:Nat}(h:xV w (.slice a n cap) vs):n=vs.length/\∀W,Lg w w W->∀(i:Nat)(x:bZ),vs[i]? = IT x->∃b c,a=IT ⟨b,c,KK⟩/\W.cell? ⟨b,c+i*3,KK⟩=x.r/\W.cell? ⟨b,c+i*3+1,KK⟩=x.l/\W.cell? ⟨b,c+i*3+2,KK⟩=x.g:=by
 have o:n=vs.length:=by obtain⟨p,d,m,_⟩:=h;cases m;rfl
 refine⟨o,λW g i x f=>?_⟩;obtain⟨p,d,j,e⟩:=h.below g;cases j;rcases e with q |⟨b,c,k,l⟩
 .have:=aK f;omega
 .exact⟨b,c,k,l i x f⟩
theorem CI(v:J3)(es:List bZ)(w:KX)(B:xV w v es)(hl:es.length<=10000):K1 prog 68 #[v] w (sS w (es.map bZ.bytes)):=by
 have E:=ae B;obtain⟨a,cap,rfl,-⟩:=B;have Q:Lk ((es.map bZ.bytes).take es.length=es.map bZ.bytes):=ae (ey ai);generalize t:es.length=N at *;have J:=ae t;clear t;go_enter func68,ntmps68;go_wp2;go_loopw [3,4] (λz m W=>∃i:Nat,i<=N/\m=i/\NU w (es.map bZ.bytes) i z W) (λ_ m _=>N-(Lo m).toNat)
 case atStart=>exact⟨0,em _,rfl,my.nil _ _,kp _ _⟩
 case round=>
  generalize u3=z at *;generalize wr=W at *;obtain⟨i,hi,rfl,G,K⟩:=hrel;have r:=ae G;have g:=ae K;clear G K;by_cases s:i<N
  .have L:i<es.length:=by rw[J.out];exact s
   obtain⟨x,q⟩:∃x,es[i]? = IT x:=⟨_,bk L⟩;have U:Lk ((es.map bZ.bytes).take (i+1)=(es.map bZ.bytes).take i++[x.bytes]):=ae (take_one (by rw[j1,q];rfl));obtain⟨-,f⟩:=A9 (by rw[<- J.out]at E;exact E.out.below g.out);obtain⟨be,oe,rfl,P,M,S⟩:=f W aq i x q;clear f q L;have H:=ae (NW x W);have c:((es.map bZ.bytes).take i).length<=100000:=by rw[et];omega
   have n:=ae c;clear c;generalize x.bytes=u at *;go_wp2_with fail;go_call H.out as e W1⟨rv,rfl,hb1,oh⟩;have D:=ae (g.out.trans (oh.mono g.out.size));obtain⟨R,V,rfl,-⟩:=hb1.shape;have j:=ae (hb1.base g.out.size);generalize u.length=T at *;have A:Lk (my W1 w.heap.size z ((es.map bZ.bytes).take i)):=ae (by obtain⟨l,O,o,C⟩:=r.out;exact⟨l,O,aB o oh,λp I=>(C p I).kept (λy k=>oh.block y ((C p I).lt y k).2)⟩)
   have d:w.heap.size<=W1.heap.size:=D.out.size;have c:=n.out;clear hb1 oh H P M S r;go_wp2_with (at_builtin;refine qu rfl _ _ rfl w.heap.size z _ rfl A.out (.slice R T V) u j.out 1 rfl c d ?_);intro v2 F h b;have Z:Lk (my F w.heap.size v2 ((es.map bZ.bytes).take (i+1))):=ae (by rw[U.out];exact h);have X:Lk (Lg w w F):=ae (bH (D.out.alloc d _) (λy k=>by obtain⟨_,_,o,_⟩:=A.out;exact aD o y k) b).1
   clear h b c;go_wp2;go_roundw
   case rel=>exact⟨i+1,af,by go_num,Z.out,X.out⟩
   case measure=>simp[Lo];omega
  .obtain rfl:N=i:=af
   have Y:Lk (iq W z (es.map bZ.bytes)):=ae (by have:=r.out.rd;rwa [Q.out]at this)
   go_wp2;go_ret;exact⟨_,rfl,Y.out,g.out⟩
theorem gW.rd{w:KX}{v:J3}(h:gW w v vs):xV w v vs:=by obtain⟨a,cap,rfl,g,i,h⟩:=h;refine⟨a,cap,rfl,h.imp id ?_⟩;rintro⟨b,c,rfl,f⟩;refine⟨b,c,rfl,λj x d=>?_⟩;have e:=aK d;rw[bk e]at d;obtain rfl:=Option.some.inj d;exact f j e
theorem cell_of_heap{w:KX}{b o:Nat}(h:w'.heap[b]? = w.heap[b]?):w'.cell? ⟨b,o,KK⟩=w.cell? ⟨b,o,KK⟩:=by unfold World.cell?;rw[h]
theorem gR.other{w:KX}{v:J3}{es:List aJ}(h:gR w v es)(k:∀b,v.ownBlock=IT b->w'.heap[b]? = w.heap[b]?):gR w' v es:=by obtain⟨a,cap,rfl,h⟩:=h;refine⟨a,cap,rfl,h.imp id ?_⟩;rintro⟨b,d,rfl,m⟩;have c:∀o,w'.cell? ⟨b,o,GT⟩=w.cell? ⟨b,o,GT⟩:=λo=>cell_of_heap (k b rfl);refine⟨b,d,rfl,λj x l=>?_⟩;obtain⟨i,f,g,e⟩:=m j x l;exact⟨(c _).trans i,(c _).trans f,(c _).trans g,(c _).trans e⟩
theorem xV.other{w:KX}{v:J3}(h:xV w v vs)(i:∀b,v.ownBlock=IT b->w'.heap[b]? = w.heap[b]?):xV w' v vs:=by obtain⟨a,cap,rfl,h⟩:=h;refine⟨a,cap,rfl,h.imp id ?_⟩;rintro⟨b,c,rfl,l⟩;have d:∀o,w'.cell? ⟨b,o,KK⟩=w.cell? ⟨b,o,KK⟩:=λo=>cell_of_heap (i b rfl);refine⟨b,c,rfl,λj x k=>?_⟩;obtain⟨g,e,f⟩:=l j x k;exact⟨(d _).trans g,(d _).trans e,(d _).trans f⟩
theorem zE(b:Bool)(k:Nat)(l:List aJ)(x:aJ):eJ b k (l++[x])=eJ b k l++(if fY b x=k then [x] else []):=by
 unfold eJ;rw[List.filter_append,List.filter_cons,List.filter_nil];by_cases h:fY b x=k
 .rw[if_pos (decide_eq_true h),if_pos h]
 .rw[if_neg (by simpa using h),if_neg h]
theorem QL(G g:J3)(es:List aJ)(k:Nat)(w:KX)(z:gR w G es)(M:es.length<=1000):K1 prog 50 #[LV #[G,g],Kx Mo k] w (mS w (eJ J0 k es)):=by
 have K:=ae z;obtain⟨E,q⟩:=ac es.length;obtain⟨j,o,I,-⟩:=z;rw[<- q]at I M;subst I;obtain⟨-,D⟩:=eL K.out;have L:=ae D;have Z:Lk (∀i,i<E->∃x,es[i]? = IT x):=ae (λi hi=>⟨_,bk (by rw[<- q];exact hi)⟩);have Q:Lk (es.take E=es):=ae (by rw[q];exact List.take_length);have T:Lk (∀i x,es[i]? = IT x->eJ J0 k (es.take (i+1))=eJ J0 k (es.take i)++(if fY J0 x=k then [x] else [])):=ae (λi x c=>by rw[im c,zE]);have Lh:Lk (∀i,(eJ J0 k (es.take i)).length<=1000):=ae (λi=>cp (kq _ _) (by rw[et];omega));have h:Lk (Lg w w (w.alloc (Mi #[.slice j E o,g] 39))):=ae aj;have H:Lk ((w.alloc (Mi #[.slice j E o,g] 39)).heap[w.heap.size]? = IT (Mi #[.slice j E o,g] 39)):=ae (Lw w _);clear q D;go_enter func50,ntmps50;go_wp2;generalize w.alloc (Mi #[.slice j E o,g] 39)=W0 at *;have A:Lk (∀W,Lg W0 W0 W->W.cell? w.heap.size=IT (.slice j E o)):=ae (λW J=>by have c:=(J.block _ (bD H.out)).trans H.out;rw[au c];rfl)
 obtain⟨bb,t⟩:=ac w.heap.size;rw[<- t]at A ⊢;have FM:=ae t;clear t;go_loopw [5,6] (λv m W=>∃i:Nat,i<=E/\m=Kx Mm (i:Int)/\aG W W0.heap.size v (eJ J0 k (es.take i))/\Lg W0 W0 W) (λ_ m _=>E-(Lo m).toNat)
 case atStart=>exact⟨0,em _,rfl,gp _ _ _ _,kp _ _⟩
 case round=>
  generalize u5=v at *;generalize wr=W at *;obtain⟨i,hi,rfl,C,e⟩:=hrel;have l:=ae C;have d:=ae e;clear C e;have V:=A.out W d.out;by_cases u:i<E
  .obtain⟨x,c⟩:=Z.out i u;have B:=ae (T.out i x c);obtain⟨xb,xo,rfl,N,U,O,X⟩:=L.out W (h.out.trans (d.out.mono h.out.size)) i x c;clear c;by_cases a:x.t.toNat=k
   .subst a;have r:(eJ J0 x.t.toNat (es.take i)).length<=100000:=cp (Lh.out i) ag;have F:W0.heap.size<=W.heap.size:=d.out.size;have s:Lk (eJ J0 x.t.toNat (es.take (i+1))=eJ J0 x.t.toNat (es.take i)++[x]):=ae (by rw[B.out,if_pos];rfl);go_wp2_with (at_builtin;refine bR rfl _ _ rfl W0.heap.size _ _ rfl l.out x 1 rfl r F ?_);intro v2 w2 b f;rw[<- s.out]at b;have R:=ae b;have cA:=ae (bH (d.out.alloc F _) (λy P=>(aA l.out y P).2) f).1;clear b f N U O X V;go_wp2;go_roundw
    case rel=>exact⟨i+1,af,by go_num,R.out,cA.out⟩
    case measure=>simp[Lo];omega
   .have n:¬((x.t.toNat:Int)=k):=af;have F6:decide ((x.t.toNat:Int)=k)=false:=decide_eq_false n;have OM:((x.t.toNat:Int) == k)=false:=by rw[beq_eq_false_iff_ne];exact n
    have s:Lk (eJ J0 k (es.take (i+1))=eJ J0 k (es.take i)):=ae (by have p:¬fY J0 x=k:=a;rw[B.out,if_neg p,nw])
    clear a;go_wp2;go_roundw
    case rel=>exact⟨i+1,af,by go_num,by rw[s.out];exact l.out,d.out⟩
    case measure=>simp[Lo];omega
  .obtain rfl:E=i:=af
   have Y:Lk (aG W w.heap.size v (eJ J0 k es)):=ae (by have p:=l.out;rw[Q.out]at p;exact aQ p h.out.size)
   have S:=ae (h.out.trans (d.out.mono h.out.size));clear l;go_wp2;go_ret;exact⟨_,rfl,Y.out,S.out⟩
theorem UK(G g:J3)(es:List aJ)(k:Nat)(w:KX)(z:gR w G es)(M:es.length<=1000):K1 prog 51 #[LV #[G,g],Kx Mo k] w (mS w (eJ Jd k es)):=by
 have K:=ae z;obtain⟨E,q⟩:=ac es.length;obtain⟨j,o,I,-⟩:=z;rw[<- q]at I M;subst I;obtain⟨-,D⟩:=eL K.out;have L:=ae D;have Z:Lk (∀i,i<E->∃x,es[i]? = IT x):=ae (λi hi=>⟨_,bk (by rw[<- q];exact hi)⟩);have Q:Lk (es.take E=es):=ae (by rw[q];exact List.take_length);have T:Lk (∀i x,es[i]? = IT x->eJ Jd k (es.take (i+1))=eJ Jd k (es.take i)++(if fY Jd x=k then [x] else [])):=ae (λi x c=>by rw[im c,zE]);have Lh:Lk (∀i,(eJ Jd k (es.take i)).length<=1000):=ae (λi=>cp (kq _ _) (by rw[et];omega));have h:Lk (Lg w w (w.alloc (Mi #[.slice j E o,g] 39))):=ae aj;have H:Lk ((w.alloc (Mi #[.slice j E o,g] 39)).heap[w.heap.size]? = IT (Mi #[.slice j E o,g] 39)):=ae (Lw w _);clear q D;go_enter func51,ntmps51;go_wp2;generalize w.alloc (Mi #[.slice j E o,g] 39)=W0 at *;have A:Lk (∀W,Lg W0 W0 W->W.cell? w.heap.size=IT (.slice j E o)):=ae (λW J=>by have c:=(J.block _ (bD H.out)).trans H.out;rw[au c];rfl)
 obtain⟨bb,t⟩:=ac w.heap.size;rw[<- t]at A ⊢;have FM:=ae t;clear t;go_loopw [5,6] (λv m W=>∃i:Nat,i<=E/\m=Kx Mm (i:Int)/\aG W W0.heap.size v (eJ Jd k (es.take i))/\Lg W0 W0 W) (λ_ m _=>E-(Lo m).toNat)
 case atStart=>exact⟨0,em _,rfl,gp _ _ _ _,kp _ _⟩
 case round=>
  generalize u5=v at *;generalize wr=W at *;obtain⟨i,hi,rfl,C,e⟩:=hrel;have l:=ae C;have d:=ae e;clear C e;have V:=A.out W d.out;by_cases u:i<E
  .obtain⟨x,c⟩:=Z.out i u;have B:=ae (T.out i x c);obtain⟨xb,xo,rfl,N,U,O,X⟩:=L.out W (h.out.trans (d.out.mono h.out.size)) i x c;clear c;by_cases a:x.h.toNat=k
   .subst a;have r:(eJ Jd x.h.toNat (es.take i)).length<=100000:=cp (Lh.out i) ag;have F:W0.heap.size<=W.heap.size:=d.out.size;have s:Lk (eJ Jd x.h.toNat (es.take (i+1))=eJ Jd x.h.toNat (es.take i)++[x]):=ae (by rw[B.out,if_pos];rfl);go_wp2_with (at_builtin;refine bR rfl _ _ rfl W0.heap.size _ _ rfl l.out x 1 rfl r F ?_);intro v2 w2 b f;rw[<- s.out]at b;have R:=ae b;have cA:=ae (bH (d.out.alloc F _) (λy P=>(aA l.out y P).2) f).1;clear b f N U O X V;go_wp2;go_roundw
    case rel=>exact⟨i+1,af,by go_num,R.out,cA.out⟩
    case measure=>simp[Lo];omega
   .have n:¬((x.h.toNat:Int)=k):=af;have F6:decide ((x.h.toNat:Int)=k)=false:=decide_eq_false n;have OM:((x.h.toNat:Int) == k)=false:=by rw[beq_eq_false_iff_ne];exact n
    have s:Lk (eJ Jd k (es.take (i+1))=eJ Jd k (es.take i)):=ae (by have p:¬fY Jd x=k:=a;rw[B.out,if_neg p,nw])
    clear a;go_wp2;go_roundw
    case rel=>exact⟨i+1,af,by go_num,by rw[s.out];exact l.out,d.out⟩
    case measure=>simp[Lo];omega
  .obtain rfl:E=i:=af
   have Y:Lk (aG W w.heap.size v (eJ Jd k es)):=ae (by have p:=l.out;rw[Q.out]at p;exact aQ p h.out.size)
   have S:=ae (h.out.trans (d.out.mono h.out.size));clear l;go_wp2;go_ret;exact⟨_,rfl,Y.out,S.out⟩
def cC(name:Name)(sz:Nat)(rs:List Rec):List UInt8:=bC (fO name) 0 (bf (fw sz) rs)
def lF(w:KX)(v:J3)(bs:List UInt8):Prop:=∃base,w.ownsRow base 5 1 v bs.length (bs.map bv)
section
variable {w:KX}{v:J3}
theorem lF.below(h:lF w v bs)(a:Lg w w w'):lF w' v bs:=h.imp λ_ h=>aB h a
theorem lF.rd(h:lF w v bs):Rd w v bs:=h.elim λ_ h=>fp h
theorem lF.slice(h:lF w v bs):∃a c,v=.slice a bs.length c:=h.elim λ_ h=>aw h
end
def zF(h:Nat)(j m:J3)(a c d:Name)(e f:List aJ)(vs:List bZ):Nat->J3->KX->Prop
 |0,v,_=>v=.string a
 |1,v,_=>v=.string a
 |2,v,_=>v=.pointer h
 |3,v,_=>v=j
 |4,v,W=>gR W v e
 |5,v,W=>iq W v (e.map aJ.bytes)
 |6,v,W=>lF W v (cC a 20 (e.map aJ.bytes))
 |7,v,W=>∃b,v=LV #[.string a,b]/\lF W b (cC a 20 (e.map aJ.bytes))
 |8,v,_=>v=.string c
 |9,v,_=>v=.string c
 |10,v,_=>v=.pointer h
 |11,v,_=>v=j
 |12,v,W=>gR W v f
 |13,v,W=>iq W v (f.map aJ.bytes)
 |14,v,W=>lF W v (cC c 20 (f.map aJ.bytes))
 |15,v,W=>∃b,v=LV #[.string c,b]/\lF W b (cC c 20 (f.map aJ.bytes))
 |16,v,_=>v=.string d
 |17,v,_=>v=.string d
 |18,v,_=>v=.pointer (IT ⟨h,1,KK⟩)
 |19,v,_=>v=m
 |20,v,W=>iq W v (vs.map bZ.bytes)
 |21,v,W=>lF W v (cC d 12 (vs.map bZ.bytes))
 |22,v,W=>∃b,v=LV #[.string d,b]/\lF W b (cC d 12 (vs.map bZ.bytes))
 |_,v,W=>∃g k i l,v=.slice (IT ⟨g,0,KK⟩) 3 3/\W.heap[g]? = IT (Mi #[.string a,k,.string c,i,.string d,l] 50)/\lF W k (cC a 20 (e.map aJ.bytes))/\lF W i (cC c 20 (f.map aJ.bytes))/\lF W l (cC d 12 (vs.map bZ.bytes))/\h<g
theorem NY{d:Nat}{f m:J3}{c e k:Name}{j l:List aJ}(i:Nat)(v:J3)(w w':KX)(a:Lg w w w')(h:zF d f m c e k j l vs i v w):zF d f m c e k j l vs i v w':=by
 match i,h with
 |0,h=>exact h
 |1,h=>exact h
 |2,h=>exact h
 |3,h=>exact h
 |4,h=>exact gR.below h a
 |5,h=>exact iq.below h a
 |6,h=>exact lF.below h a
 |7,⟨b,h1,h2⟩=>exact⟨b,h1,h2.below a⟩
 |8,h=>exact h
 |9,h=>exact h
 |10,h=>exact h
 |11,h=>exact h
 |12,h=>exact gR.below h a
 |13,h=>exact iq.below h a
 |14,h=>exact lF.below h a
 |15,⟨b,h1,h2⟩=>exact⟨b,h1,h2.below a⟩
 |16,h=>exact h
 |17,h=>exact h
 |18,h=>exact h
 |19,h=>exact h
 |20,h=>exact iq.below h a
 |21,h=>exact lF.below h a
 |22,⟨b,h1,h2⟩=>exact⟨b,h1,h2.below a⟩
 |_+23,⟨g,b1,b2,b3,h1,h2,h3,h4,h5,h6⟩=>exact⟨g,b1,b2,b3,h1,(a.block _ (bD h2)).trans h2,h3.below a,h4.below a,h5.below a,h6⟩
def NZ(w:KX)(d i k:Name)(h f j:List UInt8)(e:Lp)(w':KX):Prop:=
 ∃g b a c,e=Mk (.slice (IT ⟨g,0,KK⟩) 3 3)/\w'.heap[g]? = IT (Mi #[.string d,b,.string i,a,.string k,c] 50)/\lF w' b h/\lF w' a f/\lF w' c j/\Lg w w w'/\w.heap.size<g
theorem Ks(t q:J3)(es:List aJ)(vs:List bZ)(k:Nat)(w:KX)(hg:gR w t es)(O:xV w q vs)(l:es.length<=1000)(j:vs.length<=1000)(N:k<=1048576):K1 prog 28 #[LV #[t,q],k] w (NZ w (aF 101 k) (aF 114 k) (aF 118 k) (cC (aF 101 k) 20 ((aH J0 es).map aJ.bytes)) (cC (aF 114 k) 20 ((aH Jd es).map aJ.bytes)) (cC (aF 118 k) 12 (vs.map bZ.bytes))):=by
 have HG:=ae hg;have HV:=ae O;have bd:=ae (λW=>mU 101 k N W);have dl:=ae (λW=>mU 114 k N W);have en:=ae (λW=>mU 118 k N W);have U:=bO (ly 101 ag N);have P:=bO (ly 114 ag N);have R:=bO (ly 118 ag N);obtain⟨z,x⟩:=ac (aH J0 es);obtain⟨B,A⟩:=ac (aH Jd es);have ci:z.length<=1000:=by rw[x];exact cp (cq _ _) l
 have al:B.length<=1000:=by rw[A];exact cp (cq _ _) l
 have ce:Lk (∀W,Lg w w W->K1 prog 67 #[t,Kx Mm 0] W (mS W z)):=ae (λW s=>by rw[x];exact xZ t es J0 W (HG.out.below s) af);have el:Lk (∀W,Lg w w W->K1 prog 67 #[t,Kx Mm 1] W (mS W B)):=ae (λW s=>by rw[A];exact xZ t es Jd W (HG.out.below s) af);have am:Lk (∀W u,gR W u z->K1 prog 30 #[u] W (sS W (z.map aJ.bytes))):=ae (λW u m=>lD u z W m af);have co:Lk (∀W u,gR W u B->K1 prog 30 #[u] W (sS W (B.map aJ.bytes))):=ae (λW u m=>lD u B W m af);have aE:Lk (∀W,Lg w w W->K1 prog 68 #[q] W (sS W (vs.map bZ.bytes))):=ae (λW s=>CI q vs W (HV.out.below s) af);have du:Lk (∀W u,iq W u (z.map aJ.bytes)->K1 prog 29 #[.string (aF 101 k),u,Kx Mm 12] W (A8 W (cC (aF 101 k) 20 (z.map aJ.bytes)))):=ae (λW u m=>iL _ U u 12 20 _ W m (dN _) (by rw[dj];omega) ag ag);have ee:Lk (∀W u,iq W u (B.map aJ.bytes)->K1 prog 29 #[.string (aF 114 k),u,Kx Mm 12] W (A8 W (cC (aF 114 k) 20 (B.map aJ.bytes)))):=ae (λW u m=>iL _ P u 12 20 _ W m (dN _) (by rw[dj];omega) ag ag);have de:Lk (∀W u,iq W u (vs.map bZ.bytes)->K1 prog 29 #[.string (aF 118 k),u,Kx Mm 20] W (A8 W (cC (aF 118 k) 12 (vs.map bZ.bytes)))):=ae (λW u m=>iL _ R u 20 12 _ W m (qj _) (by rw[dj];omega) ag ag);rw[<- x,<- A];clear x A ci al l j hg O U P R;generalize aF 101 k=H at *;generalize aF 114 k=G at *;generalize aF 118 k=J at *;have fF:Lk (Lg w w (w.alloc (Mi #[t,q] 39))):=ae aj;have UJ:Lk ((w.alloc (Mi #[t,q] 39)).heap[w.heap.size]? = IT (Mi #[t,q] 39)):=ae (Lw w _);obtain⟨C,E,F,VW⟩:∃a n c,t=.slice a n c:=by obtain⟨a,c,h,-⟩:=HG.out;exact⟨a,_,c,h⟩
 obtain⟨M,L,K,dq⟩:∃a n c,q=.slice a n c:=by obtain⟨a,c,h,-⟩:=HV.out;exact⟨a,_,c,h⟩
 subst VW;subst dq;go_enter func28,ntmps28;go_wp2_with fail;generalize w.alloc (Mi #[.slice C E F,.slice M L K] 39)=W0 at *;have T:Lk (∀W,Lg W0 W0 W->W.cell? w.heap.size=IT (.slice C E F)/\W.cell? ⟨w.heap.size,1,KK⟩=IT (.slice M L K)):=ae (λW s=>by have hx:=(s.block _ (bD UJ.out)).trans UJ.out;refine⟨?_,?_⟩<;>rw[au hx]<;>rfl)
 obtain⟨Y,r9⟩:=ac w.heap.size;rw[<- r9]at T ⊢;have FM:=ae r9;clear r9;go_call(bd.out W0) as e w1⟨rfl,hb1⟩;have cD:=ae hb1;clear hb1;go_wp2_with fail;go_call(dl.out w1) as e w2⟨rfl,hb2⟩;have cA:=ae (cD.out.trans (hb2.mono cD.out.size));clear hb2;go_wp2_with fail;go_call(en.out w2) as e w3⟨rfl,hb3⟩;have gU:=ae (cA.out.trans (hb3.mono cA.out.size));clear hb3;go_wp2;refine lA (Lg W0 W0) (zF Y (.slice C E F) (.slice M L K) H G J z B vs) 24 ah ah gU.out.drew (λw1 w2 l j=>l.trans (j.mono l.size)) NY ?_ ?_
 .intro i o b a W Z d;have s:=fF.out.trans (Z.mono fF.out.size);match i,b with
  |0,b=>cases b;have D:=d.old 5 rfl rfl;refine⟨rfl,bS (v:=.string H) (w':=W) ?_ aq rfl⟩;go_simp
  |1,b=>cases b;have D:=d.old 5 rfl rfl;refine⟨rfl,bS (v:=.string H) (w':=W) ?_ aq rfl⟩;go_simp
  |2,b=>cases b;have D:=d.old 2 rfl rfl;refine⟨rfl,bS (v:=.pointer (IT ⟨Y,0,KK⟩)) (w':=W) ?_ aq rfl⟩;go_simp
  |3,b=>cases b;obtain⟨u,m,rfl⟩:=d.get 2 rfl rfl rfl;obtain⟨c0,c1⟩:=T.out W Z;refine⟨rfl,bS (v:=.slice C E F) (w':=W) ?_ aq rfl⟩;go_simp
  |4,b=>
    cases b;obtain⟨u,m,rfl⟩:=d.get 3 rfl rfl rfl;refine⟨rfl,gC (f:=67) (args:=#[.slice C E F,Kx Mm 0]) ?_ ((ce.out W s).mono ?_)⟩
    .go_simp
    .rintro e w'⟨v,rfl,l,j⟩;exact⟨v,rfl,j,fG l⟩
  |5,b=>
    cases b;obtain⟨u,m,y⟩:=d.get 4 rfl rfl rfl;refine⟨rfl,gC (f:=30) (args:=#[u]) ?_ ((am.out W u y).mono ?_)⟩
    .go_simp
    .rintro e w'⟨v,rfl,l,j⟩;exact⟨v,rfl,j,l⟩
  |6,b=>
    cases b;obtain⟨I,p,rfl⟩:=d.get 1 rfl rfl rfl;obtain⟨u,m,y⟩:=d.get 5 rfl rfl rfl;refine⟨rfl,gC (f:=29) (args:=#[.string H,u,Kx Mm 12]) ?_ ((du.out W u y).mono ?_)⟩
    .go_simp
    .rintro e w'⟨v,rfl,l,j⟩;exact⟨v,rfl,j,_,l⟩
  |7,b=>cases b;obtain⟨I,p,rfl⟩:=d.get 0 rfl rfl rfl;obtain⟨u2,T7,j⟩:=d.get 6 rfl rfl rfl;have r:=j;obtain⟨V,bc,rfl⟩:=j.slice;refine⟨rfl,bS (v:=LV #[.string H,.slice V _ bc]) (w':=W) ?_ aq ⟨_,rfl,r⟩⟩;go_simp
  |8,b=>cases b;have D:=d.old 6 rfl rfl;refine⟨rfl,bS (v:=.string G) (w':=W) ?_ aq rfl⟩;go_simp
  |9,b=>cases b;have D:=d.old 6 rfl rfl;refine⟨rfl,bS (v:=.string G) (w':=W) ?_ aq rfl⟩;go_simp
  |10,b=>cases b;have D:=d.old 2 rfl rfl;refine⟨rfl,bS (v:=.pointer (IT ⟨Y,0,KK⟩)) (w':=W) ?_ aq rfl⟩;go_simp
  |11,b=>cases b;obtain⟨u,m,rfl⟩:=d.get 10 rfl rfl rfl;obtain⟨c0,c1⟩:=T.out W Z;refine⟨rfl,bS (v:=.slice C E F) (w':=W) ?_ aq rfl⟩;go_simp
  |12,b=>
    cases b;obtain⟨u,m,rfl⟩:=d.get 11 rfl rfl rfl;refine⟨rfl,gC (f:=67) (args:=#[.slice C E F,Kx Mm 1]) ?_ ((el.out W s).mono ?_)⟩
    .go_simp
    .rintro e w'⟨v,rfl,l,j⟩;exact⟨v,rfl,j,fG l⟩
  |13,b=>
    cases b;obtain⟨u,m,y⟩:=d.get 12 rfl rfl rfl;refine⟨rfl,gC (f:=30) (args:=#[u]) ?_ ((co.out W u y).mono ?_)⟩
    .go_simp
    .rintro e w'⟨v,rfl,l,j⟩;exact⟨v,rfl,j,l⟩
  |14,b=>
    cases b;obtain⟨I,p,rfl⟩:=d.get 9 rfl rfl rfl;obtain⟨u,m,y⟩:=d.get 13 rfl rfl rfl;refine⟨rfl,gC (f:=29) (args:=#[.string G,u,Kx Mm 12]) ?_ ((ee.out W u y).mono ?_)⟩
    .go_simp
    .rintro e w'⟨v,rfl,l,j⟩;exact⟨v,rfl,j,_,l⟩
  |15,b=>cases b;obtain⟨I,p,rfl⟩:=d.get 8 rfl rfl rfl;obtain⟨u2,T7,j⟩:=d.get 14 rfl rfl rfl;have r:=j;obtain⟨V,bc,rfl⟩:=j.slice;refine⟨rfl,bS (v:=LV #[.string G,.slice V _ bc]) (w':=W) ?_ aq ⟨_,rfl,r⟩⟩;go_simp
  |16,b=>cases b;have D:=d.old 7 rfl rfl;refine⟨rfl,bS (v:=.string J) (w':=W) ?_ aq rfl⟩;go_simp
  |17,b=>cases b;have D:=d.old 7 rfl rfl;refine⟨rfl,bS (v:=.string J) (w':=W) ?_ aq rfl⟩;go_simp
  |18,b=>cases b;have D:=d.old 2 rfl rfl;refine⟨rfl,bS (v:=.pointer (IT ⟨Y,1,KK⟩)) (w':=W) ?_ aq rfl⟩;go_simp
  |19,b=>cases b;obtain⟨u,m,rfl⟩:=d.get 18 rfl rfl rfl;obtain⟨c0,c1⟩:=T.out W Z;refine⟨rfl,bS (v:=.slice M L K) (w':=W) ?_ aq rfl⟩;go_simp
  |20,b=>
    cases b;obtain⟨u,m,rfl⟩:=d.get 19 rfl rfl rfl;refine⟨rfl,gC (f:=68) (args:=#[.slice M L K]) ?_ ((aE.out W s).mono ?_)⟩
    .go_simp
    .rintro e w'⟨v,rfl,l,j⟩;exact⟨v,rfl,j,l⟩
  |21,b=>
    cases b;obtain⟨I,p,rfl⟩:=d.get 17 rfl rfl rfl;obtain⟨u,m,y⟩:=d.get 20 rfl rfl rfl;refine⟨rfl,gC (f:=29) (args:=#[.string J,u,Kx Mm 20]) ?_ ((de.out W u y).mono ?_)⟩
    .go_simp
    .rintro e w'⟨v,rfl,l,j⟩;exact⟨v,rfl,j,_,l⟩
  |22,b=>cases b;obtain⟨I,p,rfl⟩:=d.get 16 rfl rfl rfl;obtain⟨u2,T7,j⟩:=d.get 21 rfl rfl rfl;have r:=j;obtain⟨V,bc,rfl⟩:=j.slice;refine⟨rfl,bS (v:=LV #[.string J,.slice V _ bc]) (w':=W) ?_ aq ⟨_,rfl,r⟩⟩;go_simp
  |23,b=>cases b;obtain⟨I,p,b1,rfl,l⟩:=d.get 7 rfl rfl rfl;obtain⟨u2,T7,b2,rfl,j⟩:=d.get 15 rfl rfl rfl;obtain⟨u3,eS,b3,rfl,h3⟩:=d.get 22 rfl rfl rfl;have k1:=l;have k2:=j;have k3:=h3;obtain⟨x1,y1,rfl⟩:=l.slice;obtain⟨x2,y2,rfl⟩:=j.slice;obtain⟨x3,y3,rfl⟩:=h3.slice;have hb:∀ob,Lg W W (W.alloc ob):=λob=>aq.alloc (cg _) ob;refine⟨rfl,bS (v:=.slice (IT ⟨W.heap.size,0,KK⟩) 3 3) (w':=W.alloc (Mi #[.string H,.slice x1 _ y1,.string G,.slice x2 _ y2,.string J,.slice x3 _ y3] 50)) ?_ (hb _) ⟨W.heap.size,_,_,_,rfl,Lw W _,k1.below (hb _),k2.below (hb _),k3.below (hb _),jK _ _ (T.out W Z).1⟩⟩;go_simp
  |_+24,b=>cases b
 .intro us w4 Q S m;obtain⟨v,q,g,b1,b2,b3,rfl,q1,q2,q3,q4,q5⟩:∃v,us[23]? = IT v/\zF Y (.slice C E F) (.slice M L K) H G J z B vs 23 v w4:=⟨_,bk af,m 23 _ (bk af)⟩;have OX:=ae (fF.out.trans (Q.mono fF.out.size));have X:=ae (And.intro q1 (And.intro q2 (And.intro q3 (And.intro q4 q5))));clear m Q q1 q2 q3 q4 q5;match us,S with
  | [u0,I,u2,u3,u4,u5,u6,u7,u8,u9,u10,u11,u12,u13,u14,u15,u16,u17,u18,u19,u20,u21,u22,u23],_=>obtain rfl:u23=.slice g 3 3:=Option.some.inj q;clear q;simp only[jt,ii,j2,ot,qd];go_simp;go_wp2;go_ret;exact⟨g,b1,b2,b3,rfl,X.out.1,X.out.2.1,X.out.2.2.1,X.out.2.2.2.1,OX.out,FM.out▸X.out.2.2.2.2⟩
theorem gR.moved{n l db:Nat}{w:KX}{o o':ay}{d d':Dsk}{v:J3}{es:List aJ}(h:gR w v es)(e:Moved (λ_=>False) n l db w o d w' o' d' L')(c:∀b,v.ownBlock=IT b->o b=GT):gR w' v es:=by obtain⟨a,cap,rfl,h⟩:=h;refine⟨a,cap,rfl,h.imp id ?_⟩;rintro⟨b,f,rfl,q⟩;refine⟨b,f,rfl,λj x p=>?_⟩;obtain⟨m,i,k,g⟩:=q j x p;exact⟨e.cell m (c b rfl) (λh=>h),e.cell i (c b rfl) (λh=>h),e.cell k (c b rfl) (λh=>h),e.cell g (c b rfl) (λh=>h)⟩
theorem agW(k:Nat)(l:List aJ):eJ Jd k (aH J0 l)=eJ Jd k (aH Jd l):=by
 have a:∀(b:Bool)(x:aJ),x∈eJ Jd k (aH b l)->x∈eJ Jd k (aH (!b) l):=λb x c=>by grind [eJ,YV]
 refine DI (f:=pk J0) ?_ ?_ M2
 .exact(bM J0 l).il.filter _
 .have d:(eJ Jd k (aH Jd l)).Pairwise (λx y=>pk Jd x<pk Jd y):=(bM Jd l).il.filter _;grind [CU,eJ,ze,fY]
structure iM(w0 w:KX)(pb db n:Nat)(o:ay)(d:Dsk)(L:aL)(gb gen N ob ib vb:Nat)(es:List aJ):Prop where
 held:Held w0 w pb db n o d L
 need:need L<=131072
 gr:eF w o gb pb gen N ob ib vb
 file:aI L (aF 101 gen)=IT (az (aH J0 es) Jd)
 N0:aI L (aF 114 gen)=IT (az (aH Jd es) Jd)
 len:es.length<=1000
 top:N<=1000
 ends:∀x∈es,x.t.toNat<N/\x.h.toNat<N
structure N1(w:KX)(o:ay)(av:J3)(A:Nat->Bool)(K:Nat->Prop):Prop where
 ex:∃f cs,av=.func (.func f) #[] cs/\(∀args W,Sem.run prog (callFunc f args) W=.ok (.enter f args) W) /\
  ∀W(x:Nat),(∀b,K b->W.heap[b]? = w.heap[b]?)->w.heap.size<=W.heap.size->x<4294967296->K1 prog f (#[Kx Mo x]++cs) W λe W'=>e=Mk (.bool (A x))/\Lg W W W'
 old:∀b,K b->b<w.heap.size/\o b=KK
section
variable {w0 w W:KX}{pb db n gb gen N ob ib vb c r:Nat}{o o':ay}{d d':Dsk}{L:aL}{es:List aJ}{A:Nat->Bool}{K:Nat->Prop}{av:J3}
theorem iM.moved(h:iM w0 w pb db n o d L gb gen N ob ib vb es)(a:Moved (λ_=>False) n pb db w o d w' o' d' L):iM w0 w' pb db n o' d' L gb gen N ob ib vb es:=
 ⟨h.held.moved a M2,h.need,h.gr.YX a M2,h.file,h.N0,h.len,h.top,h.ends⟩
theorem N1.moved(h:N1 w o av A K)(c:Moved (λ_=>False) n pb db w o d w' o' d' L):N1 w' o' av A K:=by obtain⟨f,g,rfl,i,j⟩:=h.ex;exact⟨⟨f,g,rfl,i,λW x k m l=>j W x (λb a=>(k b a).trans (c.block (h.old b a).1 (h.old b a).2 (λe=>e))) (cp c.size m) l⟩,λb a=>⟨eg (h.old b a).1 c.size,c.free (h.old b a).1 (h.old b a).2⟩⟩
theorem iM.out(a:aV)(h:iM w0 w pb db n o d L gb gen N ob ib vb es){v:Nat}(b:v<N):K1 prog 58 #[ptrTo gb,Kx Mo v] w (lB n pb db w o d L (aY es v)):=
 NJ a h.held h.need h.gr h.file h.len b h.top
theorem iM.vH(a:aV)(h:iM w0 w pb db n o d L gb gen N ob ib vb es){v:Nat}(b:v<N):K1 prog 59 #[ptrTo gb,Kx Mo v] w (lB n pb db w o d L (eD es v)):=
 ace a h.held h.need h.gr h.N0 h.len b h.top
theorem SC{es:List aJ}{v:Nat}{x:aJ}(h:x∈eD es v):x∈es/\x.h.toNat=v:=
 ⟨((bM Jd es).mem x (C0 h).1).1,(C0 h).2⟩
theorem EX(es:List aJ)(v:Nat):(eD es v).length<=es.length:=by have:=cq Jd es;exact cp (kq _ _) this
abbrev zG(a:Nat):Value:=.func (.func 58) #[ptrTo a] #[]
abbrev Kt(a:Nat):Value:=.func (.func 59) #[ptrTo a] #[]
def uD(n a db:Nat)(w:KX)(o:ay)(d:Dsk)(L:aL)(es:List aJ)(v:Nat)(e:Lp)(w':KX):Prop:=
 ∃m z d' o',e=Mk (Ly #[m,z,Kx Mm 0])/\Moved (λ_=>False) n a db w o d w' o' d' L/\aG w' w.heap.size m (eD es v)/\aG w' w.heap.size z (aY es v)/\∀x,m.ownBlock=IT x\/z.ownBlock=IT x->o' x=KK
theorem N2(j:aV)(h:iM w0 w pb db n o d L gb gen N ob ib vb es){v:Nat}(k:v<N):K1 prog 108 #[zG gb,Kt gb,Kx Mo v] w (uD n pb db w o d L es v):=by have i:=ae (h.vH j k);have l:Lk (∀W o' d',Moved (λ_=>False) n pb db w o d W o' d' L->K1 prog 58 #[ptrTo gb,Kx Mo v] W (lB n pb db W o' d' L (aY es v))):=ae (λW o' d' s=>(h.moved s).out j k);clear h;unfold ptrTo lB at *;go_enter func108,ntmps108;go_wp2_with fail;go_call i.out as e w1⟨m,d1,o1,rfl,eO,mJ,xG⟩;have a:=ae (l.out _ _ _ eO);have f:=ae eO;have c:=ae mJ;have g:=ae xG;clear eO mJ xG i;go_wp2_with fail;go_call a.out as e w2⟨z,d2,o2,rfl,dA,mK,hf2⟩;have p:Lk (uD n pb db w o d L es v (Mk (Ly #[m,z,Kx Mm 0])) w2):=ae ⟨m,z,d2,o2,rfl,f.out.trans dA M2,dA.ownsRow c.out (λb r=>⟨g.out b r,λe=>e⟩),aQ mK f.out.size,λx q=>q.elim (λe=>dA.free (aA c.out x e).1 (g.out x e)) (hf2 x)⟩;clear dA mK hf2 a;go_wp2;go_returns;exact p.out
theorem SD(h:N1 w o av A K)(v x:Nat)(s:x<4294967296)(i:∀b,K b->W.heap[b]? = w.heap[b]?)(l:w.heap.size<=W.heap.size){u t2:TypeId}(m:W.heap[c]? = IT (Mi #[Kx Mo v] u))(a:W.heap[r]? = IT (Mi #[av] t2)):K1 prog 172 #[Kx Mo x,.pointer c,.pointer r] W λe q=>e=Mk (.bool (x == v || A x))/\Lg W W q:=by
 obtain⟨f,n,rfl,g,j⟩:=h.ex;have z:W.cell? c=IT (Kx Mo v):=by rw[au m];rfl
 have c1:W.cell? r=IT (.func (.func f) #[] n):=by rw[au a];rfl
 have k:=ae (j W x i l s);clear h j i l m a;by_cases d:x=v
 .subst d;go_enter func172,ntmps172;go_wp2;go_ret;exact⟨ai,kp _ _⟩
 .have y:¬(x:Int)=v:=af;have t:Lk ((x == v || A x)=A x):=ae M2;rw[t.out];go_enter func172,ntmps172;go_wp2_with fail;go_call k.out as e W1⟨rfl,hb⟩;have p:=ae hb;clear hb k;go_wp2;go_ret;exact⟨Nc,p.out⟩
end
section
variable {w0 w W W':KX}{pb db n gb gen N ob ib vb c r:Nat}{o o' q h:ay}{d d' s:Dsk}{L:aL}{es e t acc:List aJ}{A:Nat->Bool}{K:Nat->Prop}{av lv m z:J3}
structure FY(n pb db:Nat)(w:KX)(o:ay)(d:Dsk)(L:aL)(W0:KX)(K2:Nat->Prop)(lv:J3)(acc:List aJ)(W:KX)(o':ay)(d':Dsk):Prop where
 mv:Moved (λ_=>False) n pb db w o d W o' d' L
 keep:∀b,K2 b->W.heap[b]? = W0.heap[b]? /\ b<W.heap.size/\w.heap.size<=b/\o' b=KK
 row:aG W w.heap.size lv acc
 own:∀b,lv.ownBlock=IT b->¬K2 b/\o' b=KK
variable {W0:KX}{K2:Nat->Prop}
theorem FY.below(h:FY n pb db w o d L W0 K2 lv acc W o' d')(c:Lg W W W'):FY n pb db w o d L W0 K2 lv acc W' o' d':=
 ⟨h.mv.below c,λb a=>⟨(c.block b (h.keep b a).2.1).trans (h.keep b a).1,eg (h.keep b a).2.1 c.size,(h.keep b a).2.2⟩,aB h.row c,h.own⟩
theorem FY.moved(h:FY n pb db w o d L W0 K2 lv acc W o' d')(c:Moved (λ_=>False) n pb db W o' d' W' q s L):FY n pb db w o d L W0 K2 lv acc W' q s:=
 ⟨h.mv.trans c (λ_ _ e=>e),λb a=>⟨(c.block (h.keep b a).2.1 (h.keep b a).2.2.2 (λe=>e)).trans (h.keep b a).1,eg (h.keep b a).2.1 c.size,(h.keep b a).2.2.1,c.free (h.keep b a).2.1 (h.keep b a).2.2.2⟩,
  c.ownsRow h.row (λb f=>⟨(h.own b f).2,λe=>e⟩),λb f=>⟨(h.own b f).1,c.free (aA h.row b f).1 (h.own b f).2⟩⟩
theorem FY.CG(h:FY n pb db w o d L W0 K2 lv acc W o' d'){y:aJ}{c:J3}{m:Obj}(p:aG W' w.heap.size c (acc++[y]))(i:gP lv (W.alloc m) W' c):FY n pb db w o d L W0 K2 c (acc++[y]) W' o' d':=by
 obtain⟨q,l,j,k⟩:=i.moved h.mv (λx g=>⟨(h.own x g).2,(aA h.row x g).2⟩);refine⟨q,λb a=>⟨(j b (h.keep b a).2.1 (λe=>(h.own b e).1 a)).trans (h.keep b a).1,eg (h.keep b a).2.1 k,(h.keep b a).2.2⟩,p,λb f=>⟨λa=>?_,(l b f).1⟩⟩;rcases i.2 with e | e
 .grind [own]
 .rw[e]at f;cases f;have:=(h.keep _ a).2.1;simp at this;omega
theorem FY.alf(h:FY n pb db w o d L W0 K2 lv acc W o' d')(x:Nat)(g:x<W.heap.size)(i:w.heap.size<=x)(f:o' x=KK)(c:lv.ownBlock≠IT x):FY n pb db w o d L W (λb=>K2 b\/b=x) lv acc W o' d':=
 ⟨h.mv,λb a=>⟨rfl,a.elim (λe=>(h.keep b e).2) (λe=>M2)⟩,h.row,λb a=>⟨λe=>e.elim (h.own b a).1 (λe=>c (e▸a)),(h.own b a).2⟩⟩
theorem FY.narrow{f:J3}{c:List aJ}{x:Nat}(h:FY n pb db w o d L W0 K2 lv acc W o' d')(k:FY n pb db w o d L W (λb=>K2 b\/b=x) f c W' q s):FY n pb db w o d L W0 K2 f c W' q s:=
 ⟨k.mv,λb a=>⟨(k.keep b (.inl a)).1.trans (h.keep b a).1,(k.keep b (.inl a)).2⟩,k.row,λb a=>⟨λe=>(k.own b a).1 (.inl e),(k.own b a).2⟩⟩
def zH(n b db:Nat)(w:KX)(o:ay)(d:Dsk)(L:aL)(a:List aJ)(e:Lp)(w':KX):Prop:=
 ∃v d' o',e=Mk (Ly #[v,Kx Mm 0])/\Moved (λ_=>False) n b db w o d w' o' d' L/\gR w' v a/\∀x,v.ownBlock=IT x->o' x=KK/\w.heap.size<=x/\x<w'.heap.size
theorem Y6{w:KX}{base:Nat}{l:List aJ}{a:Option Addr}{cap:Nat}(h:aG w base (.slice a l.length cap) l):gR w (.slice a l.length l.length) l:=by
 rcases cJ h with⟨rfl,e⟩|⟨g,c,e,-,-,-⟩
 .cases e;exact⟨_,_,rfl,.inl rfl⟩
 .cases e;exact⟨_,_,rfl,.inr ⟨g,0,rfl,λj x b=>by grind [bX]⟩⟩
theorem Y7{a:Option Addr}{cap:Nat}(b:k<=cap)(w:KX):K1 prog 175 #[.slice a k cap] w λe w'=>e=Mk (.slice a k k)/\w'=w:=by go_enter func175,ntmps175;go_wp2;go_ret;simp
theorem vy{a:Type}{l:List a}{f:a->List β}{x:a}(h:l[j]? = IT x):(l.take (j+1)).flatMap f=(l.take j).flatMap f++f x:=by grind [fh]
theorem jw{a:Type}{l:List a}{f:a->Option β}{x:a}(h:l[j]? = IT x):(l.take (j+1)).filterMap f=(l.take j).filterMap f++(f x).toList:=by grind [fh]
theorem N3{a:Type}{f:a->List β}{c:Nat}(g:∀x,(f x).length<=c){l:List a}(b:l.length<=i):(l.flatMap f).length<=i*c:=by
 refine cp ?_ (IR c b);induction l generalizing i with
 |nil=>simp
 |cons x l d=>have e:=d (cg _);grind [Nat.succ_mul]
theorem wZ(HW:aV)(h:iM w0 w pb db n o d L gb gen N ob ib vb es)(ha:N1 w o av A K)(v:UInt32)(hv:v.toNat<N)(sU:(eD es v.toNat).length*(aY es v.toNat).length<=100000):K1 prog 106 #[zG gb,Kt gb,av,v] w (zH n pb db w o d L (ju (aY es) A (eD es v.toNat) v)):=by
 have H:=ae h;obtain⟨f,Z,rfl,-⟩:=ha.ex;have HA:=ae ha;have io:=ae sU;clear h ha sU;obtain⟨R,HR⟩:∃R,Lk (ju (aY es) A (eD es v.toNat) v=R):=⟨_,ae rfl⟩;rw[HR.out];have tQ:=pw Tryz.underlying138 (.func 58) #[.pointer gb] #[];have VM:=pw Tryz.underlying138 (.func 59) #[.pointer gb] #[];have i8:=pw Tryz.underlying187 (.func f) #[] Z;have cD:Lk (Lg w w ((w.alloc (Mi #[.func (.func f) #[] Z] 187)).alloc (Mi #[v] 33))):=ae (aj.alloc ai _);have ko:Lk (((w.alloc (Mi #[.func (.func f) #[] Z] 187)).alloc (Mi #[v] 33)).heap[w.heap.size]? = IT (Mi #[.func (.func f) #[] Z] 187)/\((w.alloc (Mi #[.func (.func f) #[] Z] 187)).alloc (Mi #[v] 33)).heap[w.heap.size+1]? = IT (Mi #[v] 33)/\((w.alloc (Mi #[.func (.func f) #[] Z] 187)).alloc (Mi #[v] 33)).heap.size=w.heap.size+2):=ae (by grind [World.alloc])
 have s:=ae (N2 HW (H.out.moved (Moved.aZ H.out.held.bh cD.out)) hv);have Y8:Lk (∀W o' d',Moved (λ_=>False) n pb db w o d W o' d' L->iM w0 W pb db n o' d' L gb gen N ob ib vb es/\N1 W o' (.func (.func f) #[] Z) A K):=ae (λW o' d' hm=>⟨H.out.moved hm,HA.out.moved hm⟩);unfold uD zG Kt at *;unfold ptrTo at *;go_enter func106,ntmps106;go_wp2_with fail;go_call s.out as e w2⟨m,z,d2,o2,rfl,dA,Dv,mK,hf2⟩;obtain⟨ia,ic,rfl⟩:=aw Dv;obtain⟨oa,oc,rfl⟩:=aw mK;obtain⟨C,Lc⟩:=ac ((eD es v.toNat).length);obtain⟨u,VJ⟩:=ac ((aY es v.toNat).length);rw[<- Lc]at Dv hf2 ⊢;rw[<- VJ]at mK hf2 ⊢;have HM:Lk (C=(eD es v.toNat).length/\u=(aY es v.toNat).length/\C<=1000/\u<=1000):=ae ⟨Lc,VJ,by rw[Lc];exact cp (EX _ _) H.out.len,by rw[VJ];exact cp (qs _ _) H.out.len⟩;clear Lc VJ;rw[ko.out.2.2]at Dv mK;obtain⟨c,Ww⟩:=ac (w.heap.size+1);obtain⟨r,co⟩:=ac w.heap.size;have fV:Lk (FY n pb db w o d L w2 (λb=>b=c\/b=r\/(fz ia C ic).ownBlock=IT b\/(fz oa u oc).ownBlock=IT b) (.slice KK 0 0) [] w2 o2 d2):=ae (by
  have hz:=ko.out.2.2;have ld:=dA.size;have ew:∀b,w.heap.size<=b->o b=none:=λb s=>H.out.held.bh.fresh s;refine⟨(Moved.aZ H.out.held.bh cD.out).trans dA (λ_ _ e=>e),λb s=>⟨rfl,?_⟩,gp _ _ _ _,λb s=>by cases s⟩;rcases s with rfl | rfl | e | e
  .exact⟨af,af,dA.free af (ew _ af)⟩
  .exact⟨af,af,dA.free af (ew _ af)⟩
  .have:=aA Dv b e;exact⟨this.1,af,hf2 b (.inl e)⟩
  .have:=aA mK b e;exact⟨this.1,af,hf2 b (.inr e)⟩)
 have HK:Lk (aG w2 (w.heap.size+2) (.slice ia C ic) (eD es v.toNat)/\aG w2 (w.heap.size+2) (.slice oa u oc) (aY es v.toNat)/\w2.heap[c]? = IT (Mi #[v] 33)/\w2.heap[r]? = IT (Mi #[.func (.func f) #[] Z] 187)):=ae (by have ew:∀b,w.heap.size<=b->o b=none:=λb s=>H.out.held.bh.fresh s;exact⟨Dv,mK,by rw[Ww];exact dA.heap ko.out.2.1 (ew _ af) (λe=>e),by rw[co];exact dA.heap ko.out.1 (ew _ af) (λe=>e)⟩)
 clear dA Dv mK hf2 cD ko s tQ VM i8;go_wp2;rw[<- Ww,<- co];clear Ww co;go_loopw [8,50] (λvl vi wr=>∃(i:Nat)(acc:List aJ)(d':Dsk)(o':ay),vi=i/\i<=C/\Lk (FY n pb db w o d L w2 (λb=>b=c\/b=r\/(fz ia C ic).ownBlock=IT b\/(fz oa u oc).ownBlock=IT b) vl acc wr o' d')/\Lk (acc=((eD es v.toNat).take i).flatMap (λa=>(aY es v.toNat).filterMap (ky (aY es) A v a)))) (λ_ vi _=>C-(Lo vi).toNat)
 case atStart=>exact⟨0,[],d2,o2,rfl,em _,fV,ae rfl⟩
 case round=>
  obtain⟨i,acc,d3,o3,rfl,hi,F,ce⟩:=hrel;clear fV;generalize wr=Q at *;obtain⟨la,lc,rfl⟩:=aw F.out.row;by_cases lw:i<C
  .have iS:(i:Int)<C:=af;have wi:cf Mm ((i:Int)+1)=(i+1:Nat):=by grind [Hid.out,ax]
   obtain⟨a,ha⟩:∃x,(eD es v.toNat)[i]? = IT x:=⟨_,bk Xy⟩;have jj:=ae ha;have U:Lk (a.t.toNat<N/\a.t.toNat<4294967296/\a.x.toNat<18446744073709551616):=ae ⟨(H.out.ends a (SC (cx ha)).1).1,a.t.toNat_lt,a.x.toNat_lt⟩;obtain⟨gi,rfl⟩:∃g,ia=IT ⟨g,0,KK⟩:=by
    obtain⟨-,⟨M,h2⟩|⟨g,_,_,M,_⟩⟩:=HK.out.1
    .grind
    grind
   have j:aG Q (w.heap.size+2) (.slice gi (eD es v.toNat).length ic) (eD es v.toNat):=by rw[<- HM.out.1];exact bg HK.out.1 (λb s=>(F.out.keep b (.inr (.inr (.inl s)))).1)
   obtain⟨q0,q1,q2,q3⟩:=bX j ha;have jh:=ae (F.out.below (aq.alloc (cg _) (Mi #[Kx Mo (a.t.toNat:Int),Kx Mo (a.h.toNat:Int),Kx MJ (a.x.toNat:Int),Kx Mo (a.m.toNat:Int)] 63)));have V:Lk ((Q.alloc (Mi #[Kx Mo (a.t.toNat:Int),Kx Mo (a.h.toNat:Int),Kx MJ (a.x.toNat:Int),Kx Mo (a.m.toNat:Int)] 63)).heap[Q.heap.size]? = IT (Mi #[Kx Mo (a.t.toNat:Int),Kx Mo (a.h.toNat:Int),Kx MJ (a.x.toNat:Int),Kx Mo (a.m.toNat:Int)] 63)):=ae (Lw _ _);obtain⟨xa,T⟩:=ac Q.heap.size;have cE:Lk (FY n pb db w o d L (Q.alloc (Mi #[Kx Mo (a.t.toNat:Int),Kx Mo (a.h.toNat:Int),Kx MJ (a.x.toNat:Int),Kx Mo (a.m.toNat:Int)] 63)) (λb=>(b=c\/b=r\/(fz (IT ⟨gi,0,KK⟩) C ic).ownBlock=IT b\/(fz oa u oc).ownBlock=IT b)\/b=xa) (.slice la acc.length lc) acc (Q.alloc (Mi #[Kx Mo (a.t.toNat:Int),Kx Mo (a.h.toNat:Int),Kx MJ (a.x.toNat:Int),Kx Mo (a.m.toNat:Int)] 63)) o3 d3):=ae (jh.out.alf xa Nc (by rw[T];exact F.out.mv.size) (F.out.mv.bh.fresh af) (λe=>Nm ((aA F.out.row _ e).1)));rw[<- T]at V;clear j ha;go_wp2_with fail;rw[<- T];clear q0 q1 q2 q3 T;generalize Q.alloc (Mi #[Kx Mo (a.t.toNat:Int),Kx Mo (a.h.toNat:Int),Kx MJ (a.x.toNat:Int),Kx Mo (a.m.toNat:Int)] 63)=W4 at *;have x0:W4.cell? xa=IT (Kx Mo (a.t.toNat:Int)):=by rw[au V.out];rfl
   have x1:=(ds.1 V.out).1;go_step3
   go_wp2_with fail;go_step3
   go_wp2_with fail;clear x0 x1;have UL:Lk (∀lv acc W o' d',FY n pb db w o d L W4 (λb=>(b=c\/b=r\/(fz (IT ⟨gi,0,KK⟩) C ic).ownBlock=IT b\/(fz oa u oc).ownBlock=IT b)\/b=xa) lv acc W o' d'->(W.heap[c]? = IT (Mi #[v] 33)/\W.heap[r]? = IT (Mi #[.func (.func f) #[] Z] 187))/\W.heap[xa]? = IT (Mi #[Kx Mo (a.t.toNat:Int),Kx Mo (a.h.toNat:Int),Kx MJ (a.x.toNat:Int),Kx Mo (a.m.toNat:Int)] 63)/\aG W (w.heap.size+2) (.slice oa u oc) (aY es v.toNat)/\∀x:Nat,x<4294967296->K1 prog 172 #[Kx Mo (x:Int),.pointer c,.pointer r] W λe W'=>e=Mk (.bool (x == v.toNat || A x))/\Lg W W W'):=ae (λlv acc W o' d' hs=>by have k1:=(hs.keep c (.inl (.inl rfl))).1.trans ((jh.out.keep c (.inl rfl)).1.trans HK.out.2.2.1);have k2:=(hs.keep r (.inl (.inr (.inl rfl)))).1.trans ((jh.out.keep r (.inr (.inl rfl))).1.trans HK.out.2.2.2);exact⟨⟨k1,k2⟩,(hs.keep xa (.inr rfl)).1.trans V.out,bg HK.out.2.1 (λb s=>(hs.keep b (.inl (.inr (.inr (.inr s))))).1.trans (jh.out.keep b (.inr (.inr (.inr s)))).1),λx E=>SD (Y8.out _ _ _ hs.mv).2 v.toNat x E (λ_ _=>rfl) (cg _) k1 k2⟩)
   go_loopw [8,58] (λvl vk wr=>∃(k:Nat)(t:List aJ)(d':Dsk)(o':ay),vk=k/\k<=u/\Lk (FY n pb db w o d L W4 (λb=>(b=c\/b=r\/(fz (IT ⟨gi,0,KK⟩) C ic).ownBlock=IT b\/(fz oa u oc).ownBlock=IT b)\/b=xa) vl t wr o' d')/\Lk (t=acc++((aY es v.toNat).take k).filterMap (ky (aY es) A v a))) (λ_ vk _=>u-(Lo vk).toNat)
   case atStart=>exact⟨0,acc,d3,o3,rfl,em _,cE,ae ai⟩
   case round=>
    obtain⟨k,t,d6,o6,rfl,hk,iF,O⟩:=hrel;clear cE;generalize wr=W6 at *;obtain⟨ma,mc,rfl⟩:=aw iF.out.row;by_cases kw:k<u
    .have CX:(k:Int)<u:=af;have wk:cf Mm ((k:Int)+1)=(k+1:Nat):=by have:=HM.out;rw[ax]<;>omega
     obtain⟨b,s⟩:∃x,(aY es v.toNat)[k]? = IT x:=⟨_,bk (Nm HM.out)⟩;have D:=ae s;have en:Lk (b.h.toNat<N/\b.h.toNat<4294967296/\b.x.toNat<18446744073709551616):=ae ⟨(H.out.ends b (EP (cx s)).1).2,b.h.toNat_lt,b.x.toNat_lt⟩;obtain⟨gg,rfl⟩:∃g,oa=IT ⟨g,0,KK⟩:=by
      obtain⟨-,⟨M,h2⟩|⟨g,_,_,M,_⟩⟩:=HK.out.2.1
      .simp_all
      simp_all
     have j:aG W6 (w.heap.size+2) (.slice gg (aY es v.toNat).length oc) (aY es v.toNat):=by rw[<- HM.out.2.1];exact(UL.out _ _ _ _ _ iF.out).2.2.1
     obtain⟨q0,q1,q2,q3⟩:=bX j s;have lL:=ae (iF.out.below (aq.alloc (cg _) (Mi #[Kx Mo (b.t.toNat:Int),Kx Mo (b.h.toNat:Int),Kx MJ (b.x.toNat:Int),Kx Mo (b.m.toNat:Int)] 63)));have ci:Lk ((W6.alloc (Mi #[Kx Mo (b.t.toNat:Int),Kx Mo (b.h.toNat:Int),Kx MJ (b.x.toNat:Int),Kx Mo (b.m.toNat:Int)] 63)).heap[W6.heap.size]? = IT (Mi #[Kx Mo (b.t.toNat:Int),Kx Mo (b.h.toNat:Int),Kx MJ (b.x.toNat:Int),Kx Mo (b.m.toNat:Int)] 63)):=ae (Lw _ _);clear j s;by_cases c1:a.t.toNat=b.h.toNat
     .have i7:(a.t.toNat:Int)=b.h.toNat:=af;have C1:=ae c1;clear c1;have B:ky (aY es) A v a b=none:=by unfold ky;exact if_pos (.inl C1.out)
      have J:Lk (t=acc++((aY es v.toNat).take (k+1)).filterMap (ky (aY es) A v a)):=ae (by rw[jw D.out,B,O.out];simp);clear B;go_wp2;go_roundw
      case rel=>exact⟨k+1,t,d6,o6,by go_num,af,lL,J⟩
      case measure=>simp[Lo];omega
     .have i7:¬(a.t.toNat:Int)=b.h.toNat:=af;have C1:=ae c1;clear c1;have dl:=ae ((UL.out _ _ _ _ _ lL.out).2.2.2 _ U.out.2.1);go_wp2_with fail;go_call dl.out as e w8⟨rfl,vF⟩;have lJ:=ae (lL.out.below vF);have am:=ae ((vF.block _ (ds.1 ci.out).1).trans ci.out);clear q0 q1 q2 q3 dl vF lL ci;by_cases c2:(a.t.toNat == v.toNat || A a.t.toNat)=Jd
      .rw[c2];have C2:=ae c2;clear c2;have B:ky (aY es) A v a b=none:=by unfold ky;exact if_pos (.inr (.inl C2.out))
       have J:Lk (t=acc++((aY es v.toNat).take (k+1)).filterMap (ky (aY es) A v a)):=ae (by rw[jw D.out,B,O.out];simp);clear B;go_wp2;go_roundw
       case rel=>exact⟨k+1,t,d6,o6,by go_num,af,lJ,J⟩
       case measure=>simp[Lo];omega
      .have ff:(a.t.toNat == v.toNat || A a.t.toNat)=false:=Nc;rw[ff];have C2:=ae c2;clear c2 ff;have fI:=ae ((UL.out _ _ _ _ _ lJ.out).2.2.2 _ en.out.2.1);go_wp2_with fail;go_call fI.out as e w9⟨rfl,J8⟩;have tR:=ae (lJ.out.below J8);have el:=ae ((J8.block _ (ds.1 am.out).1).trans am.out);clear fI J8 lJ am;by_cases c3:(b.h.toNat == v.toNat || A b.h.toNat)=Jd
       .rw[c3];have C3:=ae c3;clear c3;have B:ky (aY es) A v a b=none:=by unfold ky;exact if_pos (.inr (.inr (.inl C3.out)))
        have J:Lk (t=acc++((aY es v.toNat).take (k+1)).filterMap (ky (aY es) A v a)):=ae (by rw[jw D.out,B,O.out];simp);clear B;go_wp2;go_roundw
        case rel=>exact⟨k+1,t,d6,o6,by go_num,af,tR,J⟩
        case measure=>simp[Lo];omega
       .have eS:(b.h.toNat == v.toNat || A b.h.toNat)=false:=Nc;rw[eS];have C3:=ae c3;clear c3 eS;generalize FW:W6.heap.size=xb at *;clear FW;have y2:w9.cell? ⟨xb,2,KK⟩=IT (Kx MJ (b.x.toNat:Int)):=by rw[au el.out];rfl
        have y3:w9.cell? ⟨xa,2,KK⟩=IT (Kx MJ (a.x.toNat:Int)):=by rw[au (UL.out _ _ _ _ _ tR.out).2.1];rfl
        have kQ:=ae (Nv a.x.toNat b.x.toNat U.out.2.2 en.out.2.2 w9);go_wp2_with fail;go_call kQ.out as e VP⟨rfl,rfl⟩;clear y2 y3 kQ;by_cases jU:a.x.toNat+b.x.toNat<9223372036854775808
        .obtain⟨X,hX⟩:∃X:UInt64,X.toNat=a.x.toNat+b.x.toNat:=⟨nM (a.x.toNat+b.x.toNat),by rw[UInt64.toNat_ofNat'];omega⟩;have SB:Qq a.x.toNat b.x.toNat=Ly #[X,.bool Jd]:=by rw[hX];exact if_pos jU
         rw[SB];have I:=ae hX;have Xe:=ae jU;clear SB jU hX;have G:=ae ((Y8.out _ _ _ tR.out.mv).1.out HW U.out.1);unfold lB ptrTo at G;go_wp2_with fail;go_call G.out as e w11⟨ev,d11,o11,rfl,ali,hown,-⟩;obtain⟨ea,ec,rfl⟩:=aw hown;obtain⟨M3,Y⟩:=ac ((aY es a.t.toNat).length);rw[<- Y]at hown ⊢;have EY:=ae (tR.out.moved ali);have fm:=ae hown;have fH:Lk (M3=(aY es a.t.toNat).length/\M3<=1000):=ae ⟨Y,by rw[Y];exact cp (qs _ _) H.out.len⟩;clear ali hown Y G tR el;go_wp2_with fail;go_loopw [98] (λvq wr=>∃q:Nat,vq=Kx Mm (q:Int)/\q<=M3/\Lk (FY n pb db w o d L W4 (λb=>(b=c\/b=r\/(fz (IT ⟨gi,0,KK⟩) C ic).ownBlock=IT b\/(fz (IT ⟨gg,0,KK⟩) u oc).ownBlock=IT b)\/b=xa) (.slice ma t.length mc) t wr o11 d11)/\Lk (aG wr VP.heap.size (.slice ea M3 ec) (aY es a.t.toNat))/\Lk (∀y∈(aY es a.t.toNat).take q,¬(y.h.toNat=b.h.toNat/\y.x.toNat<=X.toNat))) (λvq _=>M3-(Lo vq).toNat)
         case atStart=>exact⟨0,rfl,em _,EY,fm,ae ai⟩
         case round=>
          obtain⟨q,rfl,hq,S,Y9,bd⟩:=hrel;clear EY fm;generalize wr=Wq at *;by_cases kl:q<M3
          .have gE:(q:Int)<M3:=af;have wq:cf Mm ((q:Int)+1)=(q+1:Nat):=by have:=fH.out;rw[ax]<;>omega
           obtain⟨y,hy⟩:∃x,(aY es a.t.toNat)[q]? = IT x:=⟨_,bk (Nm fH.out)⟩;have HY:=ae hy;obtain⟨ge,rfl⟩:∃g,ea=IT ⟨g,0,KK⟩:=by
            obtain⟨-,⟨M,h2⟩|⟨g,_,_,M,_⟩⟩:=Y9.out
            .simp_all
            simp_all
           have j:aG Wq VP.heap.size (.slice ge (aY es a.t.toNat).length ec) (aY es a.t.toNat):=by rw[<- fH.out.1];assumption
           obtain⟨q0,q1,q2,q3⟩:=bX j hy;have dq:Lk (Lg Wq Wq (Wq.alloc (Mi #[Kx Mo (y.t.toNat:Int),Kx Mo (y.h.toNat:Int),Kx MJ (y.x.toNat:Int),Kx Mo (y.m.toNat:Int)] 63))):=ae aj;have P:=ae (S.out.below dq.out);have ee:=ae (aB Y9.out dq.out);clear j hy;by_cases e1:y.h.toNat=b.h.toNat/\y.x.toNat<=X.toNat
           .have z1:((y.h.toNat:Int) == b.h.toNat)=true:=Nc;have z2:(y.x.toNat:Int)<=X.toNat:=af;have uh:Lk (∃x∈aY es a.t.toNat,x.h.toNat=b.h.toNat/\x.x.toNat<=a.x.toNat+b.x.toNat):=ae ⟨y,cx HY.out,e1.1,by rw[<- I.out];omega⟩;clear e1;have B:ky (aY es) A v a b=none:=by unfold ky;exact if_pos (.inr (.inr (.inr (.inr (.inl uh.out)))))
            have J:Lk (t=acc++((aY es v.toNat).take (k+1)).filterMap (ky (aY es) A v a)):=ae (by rw[jw D.out,B,O.out];simp);clear B;go_wp2;go_roundw
            case rel=>exact⟨k+1,t,d11,o11,by go_num,af,P,J⟩
            case measure=>simp[Lo];omega
           .have gt:Lk (∀y∈(aY es a.t.toNat).take (q+1),¬(y.h.toNat=b.h.toNat/\y.x.toNat<=X.toNat)):=ae (λlE hz=>by
             obtain⟨hl,ke⟩:=e7.1 HY.out;rw[fh hl,hS,kj]at hz;rcases hz with hz | rfl
             .exact bd.out lE hz
             simp_all)
            by_cases z0:y.h.toNat=b.h.toNat
            .have z2:¬(y.x.toNat:Int)<=X.toNat:=λh=>e1 ⟨af,af⟩;have z1:((y.h.toNat:Int) == b.h.toNat)=true:=Nc;clear e1 z0;go_wp2;go_roundw
             case rel=>exact⟨q+1,by go_num,af,P,ee,gt⟩
             case measure=>simp[Lo];omega
            .have z1:¬(y.h.toNat:Int)=b.h.toNat:=af;clear e1 z0;go_wp2;go_roundw
             case rel=>exact⟨q+1,by go_num,af,P,ee,gt⟩
             case measure=>simp[Lo];omega
          .have gE:¬(q:Int)<M3:=af;have pW:Lk (¬∃x∈aY es a.t.toNat,x.h.toNat=b.h.toNat/\x.x.toNat<=a.x.toNat+b.x.toNat):=ae (λ⟨y,M,h2⟩=>bd.out y (by rw[ey (Nm fH.out)];exact M) (by rw[I.out];exact h2));have Za:xY w0 Wq pb db n o11 d11 L gb gen N ob ib vb es (λx=>x == v.toNat || A x) c r (λx=>K x\/x=c\/x=r):=by
            obtain⟨hn,de⟩:=Y8.out _ _ _ S.out.mv;obtain⟨⟨k1,k2⟩,-,-,-⟩:=UL.out _ _ _ _ _ S.out;refine⟨hn.held,hn.need,hn.gr,hn.file,hn.len,hn.top,hn.ends,λx E=>?_,λW x hk hs E=>SD de v.toNat x E (λb s=>hk b (.inl s)) hs ((hk c (.inr (.inl rfl))).trans k1) ((hk r (.inr (.inr rfl))).trans k2)⟩;rcases E with E | rfl | rfl
            .exact de.old x E
            .exact⟨(S.out.keep _ (.inl (.inl rfl))).2.1,(S.out.keep _ (.inl (.inl rfl))).2.2.2⟩
            .exact⟨(S.out.keep _ (.inl (.inr (.inl rfl)))).2.1,(S.out.keep _ (.inl (.inr (.inl rfl)))).2.2.2⟩
           have hf:=ae (NN HW Za a.t.toNat b.h.toNat X.toNat U.out.1);unfold rP ptrTo at hf;clear Za Y9 bd;go_wp2_with fail;go_call hf.out as e w13⟨d13,o13,rfl,alm⟩;have P:=ae (S.out.moved alm);clear hf alm S;by_cases al:gj (aY es) (λx=>x == v.toNat || A x) b.h.toNat X.toNat 16 [(a.t.toNat,0)] []=Jd
           .rw[al];have aE:Lk (gj (aY es) (λx=>x == v.toNat || A x) b.h.toNat (a.x.toNat+b.x.toNat) 16 [(a.t.toNat,0)] []=Jd):=ae (by rw[<- I.out];omega);clear al;have B:ky (aY es) A v a b=none:=by unfold ky;exact if_pos (.inr (.inr (.inr (.inr (.inr aE.out)))))
            have J:Lk (t=acc++((aY es v.toNat).take (k+1)).filterMap (ky (aY es) A v a)):=ae (by rw[jw D.out,B,O.out];simp);clear B;go_wp2;go_roundw
            case rel=>exact⟨k+1,t,d13,o13,by go_num,af,P,J⟩
            case measure=>simp[Lo];omega
           .have Mj:gj (aY es) (λx=>x == v.toNat || A x) b.h.toNat X.toNat 16 [(a.t.toNat,0)] []=false:=Nc;rw[Mj];have aE:Lk (¬gj (aY es) (λx=>x == v.toNat || A x) b.h.toNat (a.x.toNat+b.x.toNat) 16 [(a.t.toNat,0)] []=Jd):=ae (by rw[<- I.out];omega);have kd:Lk (ky (aY es) A v a b=IT ⟨a.t,b.h,X,v⟩):=ae (by
             have e0:nM (a.x.toNat+b.x.toNat)=X:=by rw[<- I.out];simp
             unfold ky;dsimp only;rw[if_neg,e0];rintro(h | h | h | h | h | h)
             .omega
             .exact C2.out h
             .exact C3.out h
             .exact h Xe.out
             .exact pW.out h
             .exact aE.out h)
            have X9:Lk (t.length<=100000):=ae (by
             have M:acc.length<=i*u:=by rw[ce.out];exact N3 (λx=>No (kt (ky (aY es) A v x) (aY es v.toNat)) HM.out) (by rw[et];omega)
             have h2:(((aY es v.toNat).take k).filterMap (ky (aY es) A v a)).length<=k:=cp (kt _ _) (by rw[et];omega);have h3:(i+1)*u<=C*u:=IR _ af;rw[Nat.succ_mul]at h3;have h4:=io.out;rw[O.out,eh];have:=HM.out;rw[<- this.1,<- this.2.1]at h4;omega)
            have Jw:Lk (w.heap.size<=w13.heap.size):=ae P.out.mv.size;have k5:w13.cell? c=v:=by rw[au (UL.out _ _ _ _ _ P.out).1.1];rfl
            clear al Mj pW;go_wp2_with (at_builtin;refine bR rfl _ _ rfl w.heap.size _ t rfl P.out.row ⟨a.t,b.h,X,v⟩ 1 rfl X9.out Jw.out ?_);intro ks li gx du;have x7:=ae (P.out.CG gx du);have i6:Lk (t++[⟨a.t,b.h,X,v⟩]=acc++((aY es v.toNat).take (k+1)).filterMap (ky (aY es) A v a)):=ae (by rw[jw D.out,kd.out,O.out];simp);clear gx du P;go_wp2;go_roundw
            case rel=>exact⟨k+1,_,d13,o13,by go_num,af,x7,i6⟩
            case measure=>simp[Lo];omega
        .have SB:Qq a.x.toNat b.x.toNat=Ly #[Kx MJ 0,.bool J0]:=if_neg jU;rw[SB];have Xe:=ae jU;clear SB jU;have B:ky (aY es) A v a b=none:=by unfold ky;exact if_pos (.inr (.inr (.inr (.inl Xe.out))))
         have J:Lk (t=acc++((aY es v.toNat).take (k+1)).filterMap (ky (aY es) A v a)):=ae (by rw[jw D.out,B,O.out];simp);clear B;go_wp2;go_roundw
         case rel=>exact⟨k+1,t,d6,o6,by go_num,af,tR,J⟩
         case measure=>simp[Lo];omega
    .have CX:¬(k:Int)<u:=af;have lL:=ae (jh.out.narrow iF.out);have YI:Lk (t=((eD es v.toNat).take (i+1)).flatMap (λa=>(aY es v.toNat).filterMap (ky (aY es) A v a))):=ae (by rw[vy jj.out,O.out,ce.out,ey (l:=aY es v.toNat) (Nm HM.out)])
     clear iF O;go_wp2;go_roundw
     case rel=>exact⟨i+1,t,d6,o6,by go_num,af,lL,YI⟩
     case measure=>simp[Lo];omega
  .have iS:¬(i:Int)<C:=af;have LL:acc.length<=lc:=by
    obtain⟨-,⟨M,h2⟩|⟨_,_,_,M,-,-,h7,-⟩⟩:=F.out.row
    .omega
    grind
   have HQ:Lk (zH n pb db w o d L R (Mk (Ly #[.slice la acc.length acc.length,Kx Mm 0])) Q):=ae ⟨_,d3,o3,rfl,F.out.mv,by
    have e:acc=R:=by rw[ce.out,<- HR.out,ey Xy];rfl
    subst e;exact Y6 F.out.row,λx E=>by
    cases la with
    |none=>cases E
    |some p=>exact⟨(F.out.own x E).2,(aA F.out.row x E).2,(aA F.out.row x E).1⟩⟩
   have yM:=ae (Y7 (a:=la) LL Q);clear LL;go_wp2_with fail;go_call yM.out as e w4⟨rfl,rfl⟩;clear yM;go_wp2;go_returns;exact HQ.out
end
theorem QN(args:Array J3)(w:KX):Sem.run prog (callFunc 107 args) w=.ok (.enter 107 args) w:=by go_simp
theorem QO(x:Nat)(w:KX):K1 prog 107 #[Kx Mo x] w λe w'=>e=Mk (.bool J0)/\w'=w:=by go_enter func107,ntmps107;go_wp2;go_ret;simp
theorem ag0(w:KX)(o:ay):N1 w o (.func (.func 107) #[] #[]) (λ_=>J0) (λ_=>False):=
 ⟨⟨_,_,rfl,QN,λW x _ _ _=>(QO x W).mono λ_ _ ⟨b,a⟩=>⟨b,a▸kp _ _⟩⟩,M2⟩
section
variable {w0 w W:KX}{pb db n gb gen N ob ib vb:Nat}{o o':ay}{d d':Dsk}{L:aL}{es:List aJ}
def IJ(n a db:Nat)(w:KX)(o:ay)(d:Dsk)(L:aL)(i k c:Nat)(e:Lp)(w':KX):Prop:=
 ∃d' o',e=Mk (Ly #[i,k,c,Kx Mm 0])/\Moved (λ_=>False) n a db w o d w' o' d' L
theorem N4(c:aV)(h:iM w0 w pb db n o d L gb gen N ob ib vb es)(v:UInt32)(f:v.toNat<N)(g:(eD es v.toNat).length*(aY es v.toNat).length<=100000):K1 prog 57 #[zG gb,Kt gb,v] w (IJ n pb db w o d L (eD es v.toNat).length (aY es v.toNat).length (ju (aY es) (λ_=>J0) (eD es v.toNat) v).length):=by have a:=ae (wZ c h (ag0 w o) v f g);have k:Lk (∀W o' d',Moved (λ_=>False) n pb db w o d W o' d' L->K1 prog 108 #[zG gb,Kt gb,v] W (uD n pb db W o' d' L es v.toNat)):=ae (λW o' d' l=>N2 c (h.moved l) f);clear h;generalize ju (aY es) (λ_=>J0) (eD es v.toNat) v=C at *;unfold zG Kt at *;unfold ptrTo zH uD at *;go_enter func57,ntmps57;go_wp2_with fail;go_call a.out as e w1⟨cv,d1,o1,rfl,eO,⟨ca,cc,rfl,-⟩,-⟩;have j:=ae eO;have b:=ae (k.out _ _ _ eO);clear eO a;go_wp2_with fail;go_call b.out as e w2⟨m,z,d2,o2,rfl,dA,Dv,mK,-⟩;obtain⟨p,r,rfl⟩:=aw Dv;obtain⟨q,oc,rfl⟩:=aw mK;have i:Lk (IJ n pb db w o d L (eD es v.toNat).length (aY es v.toNat).length C.length (Mk (Ly #[(eD es v.toNat).length,(aY es v.toNat).length,C.length,Kx Mm 0])) w2):=ae ⟨d2,o2,rfl,j.out.trans dA M2⟩;clear dA Dv mK b;go_wp2;go_returns;exact i.out
end
open Go.ChangeMaps (setBlock)
theorem Ku(S:List Nat)(x:Nat):aI (S.map λx=>(x,())) x=if x∈S then IT () else none:=by
 have h:=vt S x;unfold tH at h;cases e:aI (S.map λx=>(x,())) x with
 |none=>grind
 |some u=>grind
abbrev aT(w:KX)(base:Nat)(v:J3)(l:List Nat):Prop:=w.ownsRow base 33 1 v l.length (l.map jf)
theorem EZ:(prog.info? 33).map (λi=>(i.zero,i.size,i.bytes))=IT (IT (Kx Mo 0),1,4):=ah
theorem iT{w:KX}{base g cap:Nat}{l:List Nat}{x:Nat}(h:aT w base (.slice g l.length cap) l)(hi:l[i]? = IT x):w.cell? ⟨g,i,KK⟩=IT (Kx Mo x):=by have:=World.ownsRow.cells h (g:=g) rfl i (jf x) M2;grind [br]
section
variable {w:KX}{rest:List Oper}{a:Act}
theorem fg(d:f.guard=KK)(s x:Operand)(i:f.op=.call { callee:=.builtin .append,args:=#[s,x],argTypes:=#[40,40] })(base:Nat)(v:J3)(l:List Nat)(m:a.eval s=v)(b:aT w base v l)(y c:Nat)(h:a.eval x=.slice w.heap.size 1 c)(p:l.length<=100000)(e:base<=w.heap.size)(k:∀v' w',aT w' base v' (l++[y])->gP v (w.alloc (Mi #[Kx Mo y] 33)) w' v'->wpList prog ops Q rest (a.put f.dst v') w') :
 wpList prog ops Q (f::rest) a (w.alloc (Mi #[Kx Mo y] 33)):=by
 refine ct d s x 40 i base 33 _ 1 4 Tryz.underlying40 EZ rfl ag v l.length (l.map jf) m (World.ownsRow.alloc b _) ⟨w.heap.size,0,KK⟩ 1 c [jf y] h rfl (λj u n=>?_) (by simp[qn]) (by grind [maxLen]) af (by simp;omega) (λv' w' o g=>k v' w' ?_ g)
 .rw[br,j0];simp_all
 grind
end
abbrev Zb(w:KX)(b:Nat)(S:List Nat):Prop:=cj prog 33 jf (λ_:Unit=>tb Mm 1) w b (S.map λx=>(x,()))
structure lG(W:KX)(base mc lc mb:Nat)(lv:J3)(acc:List Nat):Prop where
 c1:W.heap[mc]? = IT (Mi #[.map (IT mb)] 199)
 c2:W.heap[lc]? = IT (Mi #[lv] 40)
 mp:Zb W mb acc.reverse
 row:aT W base lv acc
 n1:mc≠lc
 n2:mc≠mb
 n3:lc≠mb
 n4:∀b,lv.ownBlock=IT b->b≠mc/\b≠lc/\b≠mb
section
variable {W W':KX}{base mc lc mb:Nat}{lv:J3}{acc:List Nat}
theorem lG.lt(h:lG W base mc lc mb lv acc):mc<W.heap.size/\lc<W.heap.size/\mb<W.heap.size/\∀b,lv.ownBlock=IT b->b<W.heap.size:=
 ⟨(ds.1 h.c1).1,(ds.1 h.c2).1,h.mp.lt,λb a=>(aA h.row b a).1⟩
theorem lG.kept(h:lG W base mc lc mb lv acc)(a:∀b,b=mc\/b=lc\/b=mb\/lv.ownBlock=IT b->W'.heap[b]? = W.heap[b]?):lG W' base mc lc mb lv acc:=
 ⟨(a _ (.inl rfl)).trans h.c1,(a _ (.inr (.inl rfl))).trans h.c2,h.mp.kept (a _ (.inr (.inr (.inl rfl)))),bg h.row (λb c=>a b (.inr (.inr (.inr c)))),h.n1,h.n2,h.n3,h.n4⟩
theorem lG.below(h:lG W base mc lc mb lv acc)(d:Lg W W W'):lG W' base mc lc mb lv acc:=by obtain⟨e,c,a,b⟩:=h.lt;grind [kept,Below.block]
def jx(a:List Nat)(x:Nat):List Nat:=if x∈a then a else a++[x]
def acw(W:KX)(base h d c:Nat)(lv:J3)(a:List Nat)(x:Nat)(e:Lp)(g:KX):Prop:=
 ∃f,e=Mk (Ly #[])/\lG g base h d c f (jx a x)/\aN (λb=>b=c\/b=d\/lv.ownBlock=IT b) W g/\∀b,f.ownBlock=IT b->lv.ownBlock=IT b\/W.heap.size<=b
theorem lG.added(h:lG W base mc lc mb lv acc){x:Nat}{d a:Obj}{c:KX}{v5:J3}(v:Zb (setBlock W mb d) mb (acc++[x]).reverse)(q:gP lv ((setBlock W mb d).alloc a) c v5)(A:aT c base v5 (acc++[x])) :
 c.heap[lc]? = IT (Mi #[lv] 40)/\lG (c.setCell lc v5) base mc lc mb v5 (acc++[x])/\aN (λb=>b=mb\/b=lc\/lv.ownBlock=IT b) W (c.setCell lc v5)/\∀b,v5.ownBlock=IT b->lv.ownBlock=IT b\/W.heap.size<=b:=by
 obtain⟨u,m,z,w⟩:=h.lt;obtain⟨f,t⟩:=q;have D:(setBlock W mb d).heap.size=W.heap.size:=by grind [setBlock]
 have n:aN (λb=>b=mb\/b=lc\/lv.ownBlock=IT b) W ((setBlock W mb d).alloc a):=((aN.refl _ W).setBlock _ _ af).alloc _;have o:aN (λb=>lv.ownBlock=IT b) ((setBlock W mb d).alloc a) c:=⟨f.os,f.tape,f.output,f.size,λk i y=>f.block k i M2⟩;have C:∀b,b<W.heap.size->b<((setBlock W mb d).alloc a).heap.size:=λb l=>by simp;omega
 have i:∀b,b<W.heap.size->b≠mb->lv.ownBlock≠IT b->c.heap[b]? = W.heap[b]? := λb l s B=>by grind [aN.block,MapKept.heap_alloc,bm]
 have j:=(i lc m h.n3 (λe=>(h.n4 lc e).2.1 rfl)).trans h.c2;have p:∀b,v5.ownBlock=IT b->lv.ownBlock=IT b\/W.heap.size<=b:=(M2);have g:∀b,v5.ownBlock=IT b->b≠mc/\b≠lc/\b≠mb:=λb l=>by grind [n4]
 have r:c.heap[mb]? = (setBlock W mb d).heap[mb]? := by grind [aN.block,n4,MapKept.heap_alloc]
 refine⟨j,⟨?_,aS j 0 v5,?_,?_,h.n1,h.n2,h.n3,g⟩,(n.trans o M2).setCell _ _ M2,p⟩
 .grind [e8,n2,n4,c1]
 .grind [cj.kept,e8,n3]
 grind [bg,e8]
theorem UM(h:lG W base mc lc mb lv acc)(x:Nat)(C:x<4294967296)(r:acc.length<=100000)(d:base<=W.heap.size):K1 prog 112 #[Kx Mo x,.pointer mc,.pointer lc] W (acw W base mc lc mb lv acc x):=by
 obtain⟨f,g,rfl⟩:=aw h.row;have H:=ae h;have j:=ae (iK C);have u:Lk (∀W,(zeroValue 3).run prog W=.ok (Kx Mm 0) W):=(Nc);have L:W.cell? mc=IT (.map (IT mb)):=by rw[au h.c1];rfl
 have c1:W.cell? lc=IT (.slice f acc.length g):=by rw[au h.c2];rfl
 have G:=ae r;have A:=ae d;clear h r d;by_cases i:x∈acc
 .have m:Lk (aI (acc.reverse.map λx=>(x,())) x=IT ()):=ae (by grind [Ku]);have y:Lk (jx acc x=acc):=ae (if_pos i);clear i;go_enter func112,ntmps112;go_wp2_with (at_lookup;refine cy _ rfl _ _ _ _ rfl 3 cF dP Tryz.underlying199 (u.out _) mb _ rfl H.out.mp x rfl j.out ?_;rw[m.out];simp only[Option.map_some,Option.getD_some,xv,if_false]);go_returns;exact⟨_,rfl,Xy,aN.refl _ _,λb q=>.inl q⟩
 .have m:Lk (aI (acc.reverse.map λx=>(x,())) x=KK):=ae (by grind [Ku]);have y:Lk (jx acc x=acc++[x]):=ae (if_neg i);have D:Lk (aX (acc.reverse.map λx=>(x,())) x ()=(acc++[x]).reverse.map λx=>(x,())):=ae (by grind [Kp]);clear i;go_enter func112,ntmps112;go_wp2_with (first | (at_lookup;refine cy _ rfl _ _ _ _ rfl 3 cF dP Tryz.underlying199 (u.out _) mb _ rfl H.out.mp x rfl j.out ?_;rw[m.out];simp only[Option.map_none,Option.getD_none,xv,if_false]) | (at_mapUpdate;refine fL _ rfl _ _ _ _ rfl 3 cF dP Tryz.underlying199 mb _ rfl H.out.mp x () rfl rfl j.out ?_;intro es c p;rw[D.out]at p;have F:=ae p;clear p;have K:(setBlock W mb (.map es c)).cell? lc=IT (.slice f acc.length g):=(by rw[World.cell?_of_block (a:=⟨lc,0,KK⟩) (bm (w:=W) (b:=mb) (.map es c) H.out.n3)];exact c1);have B:Lk (aT (setBlock W mb (.map es c)) base (.slice f acc.length g) acc):=ae (bg H.out.row (λb q=>bm _ (H.out.n4 b q).2.2));have E:Lk (base<=(setBlock W mb (.map es c)).heap.size):=ae (by grind [setBlock,Hid.out])) | (at_builtin;refine fg rfl _ _ rfl base _ acc rfl B.out x 1 rfl G.out E.out ?_;intro v5 z o t;obtain⟨l,e,v,s⟩:=H.out.added F.out t o;obtain⟨a5,J,rfl⟩:=aw o;have n:=ae (show _/\_/\_ from⟨e,v,s⟩);have M:z.cell? lc=IT (.slice f acc.length g):=(by rw[au l];rfl);have I:=λk=>aO l k;clear e v s o t l));rw[show(acc++[x]).length=acc.length+1 by simp]at n;go_returns;exact⟨_,rfl,Xy,n.out.2.1,n.out.2.2⟩
theorem UN(a:List Nat)(x y:Nat)(h:y∈jx a x):y∈a\/y=x:=by grind [jx]
theorem Kv(a:List Nat)(x:Nat):(jx a x).length<=a.length+1:=by grind [jx]
end
section
variable {w0 w W:KX}{pb db n gb gen N ob ib vb rb:Nat}{o o':ay}{d d':Dsk}{L:aL}{es:List aJ}
def E0(n a db:Nat)(w:KX)(o:ay)(d:Dsk)(L:aL)(l:List Nat)(e:Lp)(w':KX):Prop:=
 ∃v d' o',e=Mk (Ly #[v,Kx Mm 0])/\Moved (λ_=>False) n a db w o d w' o' d' L/\aT w' w.heap.size v l/\∀x,v.ownBlock=IT x->o' x=KK
theorem IK{l:List Nat}{a:List Nat}{x:Nat}(h:l[j]? = IT x):(l.take (j+1)).foldl jx a=jx ((l.take j).foldl jx a) x:=by grind [fh]
theorem qx{l:List Nat}{a:List Nat}:(l.foldl jx a).length<=a.length+l.length:=by
 induction l generalizing a with
 |nil=>simp
 |cons x l b=>grind [Kv]
theorem zI(es:List aJ)(v:Nat):dD es v=((eD es v).map (·.t.toNat)).foldl jx (((aY es v).map (·.h.toNat)).foldl jx []):=by unfold dD YU;rw[B1];rfl
structure nx(n pb db:Nat)(w:KX)(o:ay)(d:Dsk)(L:aL)(W0:KX)(mc lc mb:Nat)(r1 r2:J3)(acc:List Nat)(W:KX)(o':ay)(d':Dsk):Prop where
 mv:Moved (λ_=>False) n pb db w o d W o' d' L
 st:∃lv,lG W w.heap.size mc lc mb lv acc/\∀b,b=mc\/b=lc\/b=mb\/lv.ownBlock=IT b->w.heap.size<=b/\o' b=KK/\r1.ownBlock≠IT b/\r2.ownBlock≠IT b
 rw1:∀b,r1.ownBlock=IT b\/r2.ownBlock=IT b->W.heap[b]? = W0.heap[b]? /\ b<W.heap.size
variable {W0 W':KX}{mc lc mb:Nat}{r1 r2:J3}{acc:List Nat}
theorem nx.below(h:nx n pb db w o d L W0 mc lc mb r1 r2 acc W o' d')(a:Lg W W W'):nx n pb db w o d L W0 mc lc mb r1 r2 acc W' o' d':=by obtain⟨lv,f,e⟩:=h.st;exact⟨h.mv.below a,⟨lv,f.below a,e⟩,λb c=>⟨(a.block b (h.rw1 b c).2).trans (h.rw1 b c).1,eg (h.rw1 b c).2 a.size⟩⟩
theorem nx.add(h:nx n pb db w o d L W0 mc lc mb r1 r2 acc W o' d')(x:Nat)(j:x<4294967296)(i:acc.length<=100000):K1 prog 112 #[Kx Mo x,.pointer mc,.pointer lc] W λe f=>e=Mk (Ly #[])/\nx n pb db w o d L W0 mc lc mb r1 r2 (jx acc x) f o' d':=by
 obtain⟨lv,g,l⟩:=h.st;go_call(UM g x j i h.mv.size) as e f⟨Ba,rfl,hst,CN,GJ⟩;have k:∀b,(b=mb\/b=lc\/lv.ownBlock=IT b)->(b=mc\/b=lc\/b=mb\/lv.ownBlock=IT b):=(M2);refine⟨rfl,h.mv.C5 M2 CN,⟨Ba,hst,λb e=>?_⟩,λb a=>⟨(CN.block b (h.rw1 b a).2 (λe=>?_)).trans (h.rw1 b a).1,eg (h.rw1 b a).2 CN.size⟩⟩
 .rcases e with e | e | e | e
  .grind
  .grind
  .grind
  .rcases GJ b e with e | e
   .grind
   .exact⟨cp h.mv.size e,h.mv.bh.fresh e,λc=>Nm ((h.rw1 b (.inl c)).2),λc=>Nm ((h.rw1 b (.inr c)).2)⟩
 grind
end
open Go.ChangeMaps (setBlock)
section
variable {w0 w W:KX}{pb db n gb gen N ob ib vb rb:Nat}{o o':ay}{d d':Dsk}{L:aL}{es:List aJ}
theorem N5(HW:aV)(h:iM w0 w pb db n o d L gb gen N ob ib vb es)(v:Nat)(hv:v<N){cs:Array J3}{t:TypeId}(hr:w.heap[rb]? = IT (Mi cs t))(hc:cs[1]? = IT (ptrTo gb))(al:o rb=KK):K1 prog 60 #[ptrTo rb,Kx Mo v] w (E0 n pb db w o d L (dD es v)):=by
 have H:=ae h;have s:=ae (h.out HW hv);have HI:Lk (∀W o' d',Moved (λ_=>False) n pb db w o d W o' d' L->K1 prog 59 #[ptrTo gb,Kx Mo v] W (lB n pb db W o' d' L (eD es v))/\W.cell? ⟨rb,1,KK⟩=IT (ptrTo gb)):=ae (λW o' d' hm=>⟨(h.moved hm).vH HW hv,by grind [au,Moved.heap]⟩);have c0:w.cell? ⟨rb,1,KK⟩=IT (ptrTo gb):=by grind [au]
 have tX:∀(t:TypeId)(W:KX),(Instr.makeMap t KK).run prog W=.ok (.map (IT W.heap.size)) (W.alloc (.map #[] 0)):=λ_ _=>rfl;clear h hr hc al;unfold lB ptrTo at *;go_enter func60,ntmps60;go_wp2_with fail;go_call s.out as e w1⟨z,d1,o1,rfl,eO,mJ,xG⟩;obtain⟨p,oc,rfl⟩:=aw mJ;obtain⟨kh,c1⟩:=HI.out _ _ _ eO;have E:=ae kh;have X:=ae eO;have D7:=ae mJ;have Xp:=ae xG;clear eO mJ xG s kh c0 HI;go_wp2_with fail;go_call E.out as e w2⟨m,d2,o2,rfl,dA,Dv,hf2⟩;obtain⟨q,l,rfl⟩:=aw Dv;obtain⟨c,R⟩:=ac ((aY es v).length);obtain⟨f,I⟩:=ac ((eD es v).length);have HM:Lk (c=(aY es v).length/\f=(eD es v).length/\c<=1000/\f<=1000):=ae ⟨R,I,by rw[R];exact cp (qs _ _) H.out.len,by rw[I];exact cp (EX _ _) H.out.len⟩;have Y:Lk (aG w2 w.heap.size (.slice p c oc) (aY es v)/\aG w2 w.heap.size (.slice q f l) (eD es v)):=ae ⟨by grind [Moved.ownsRow,Hid.out],by rw[I];exact aQ Dv X.out.size⟩;have Q:=ae (X.out.trans dA M2);rw[<- R,<- I];clear R I dA Dv hf2 E c1 D7 Xp X;obtain⟨mb,M⟩:=ac w2.heap.size;obtain⟨mc,C⟩:=ac (w2.heap.size+1);obtain⟨lc,u⟩:=ac (w2.heap.size+1+1);have JL:Lk (nx n pb db w o d L (((w2.alloc (.map #[] 0)).alloc (Mi #[.map (IT w2.heap.size)] 199)).alloc (Mi #[.slice KK 0 0] 40)) mc lc mb (.slice p c oc) (.slice q f l) [] (((w2.alloc (.map #[] 0)).alloc (Mi #[.map (IT w2.heap.size)] 199)).alloc (Mi #[.slice KK 0 0] 40)) o2 d2):=ae (by
  subst M C u;have hz:=Q.out.size;have r:Lg w2 w2 (((w2.alloc (.map #[] 0)).alloc (Mi #[.map (IT w2.heap.size)] 199)).alloc (Mi #[.slice KK 0 0] 40)):=((aq.alloc af _).alloc ai _).alloc (by simp;omega) _;have hr:∀b,(fz p c oc).ownBlock=IT b\/(fz q f l).ownBlock=IT b->b<w2.heap.size:=λb r=>r.elim (λe=>(aA Y.out.1 b e).1) (λe=>(aA Y.out.2 b e).1);refine⟨Q.out.below r,⟨.slice KK 0 0,⟨?_,?_,?_,gp _ _ _ _,af,af,af,λb e=>by cases e⟩,λb y=>?_⟩,λb y=>⟨rfl,eg (hr b y) r.size⟩⟩
  .grind [World.alloc]
  .grind [World.alloc]
  .exact((cj.made w2 prog 33 jf (λ_:Unit=>tb Mm 1)).kept ((MapKept.heap_alloc _ _).2 _ ai)).kept ((MapKept.heap_alloc _ _).2 _ (by simp;omega))
  .have Aj:w2.heap.size<=b:=by
    rcases y with e | e | e | e
    .omega
    .omega
    .omega
    .cases e
   exact⟨af,Q.out.bh.fresh Aj,M2,M2⟩)
 have S:Lk (aG (((w2.alloc (.map #[] 0)).alloc (Mi #[.map (IT w2.heap.size)] 199)).alloc (Mi #[.slice KK 0 0] 40)) w.heap.size (.slice p c oc) (aY es v)/\aG (((w2.alloc (.map #[] 0)).alloc (Mi #[.map (IT w2.heap.size)] 199)).alloc (Mi #[.slice KK 0 0] 40)) w.heap.size (.slice q f l) (eD es v)):=ae (by have r:Lg w2 w2 (((w2.alloc (.map #[] 0)).alloc (Mi #[.map (IT w2.heap.size)] 199)).alloc (Mi #[.slice KK 0 0] 40)):=(aj.alloc ai _).alloc (by simp;omega) _;grind [aB,Hid.out])
 clear Y Q;go_wp2_with fail;rw[<- u,<- C];generalize ((w2.alloc (.map #[] 0)).alloc (Mi #[.map (IT w2.heap.size)] 199)).alloc (Mi #[.slice KK 0 0] 40)=G at *;clear M C u tX;have HL:Lk (([]:List Nat).length<=1000):=ae ai;go_loopw [44] (λD wr=>∃j:Nat,D=j/\j<=c/\Lk (nx n pb db w o d L G mc lc mb (.slice p c oc) (.slice q f l) ((((aY es v).map (·.h.toNat)).take j).foldl jx []) wr o2 d2)) (λD _=>c-(Lo D).toNat)
 case atStart=>grind
 case round=>
  obtain⟨j,rfl,hj,k⟩:=hrel;generalize wr=J at *;by_cases am:j<c
  .have CV:(j:Int)<c:=af;have wj:cf Mm ((j:Int)+1)=(j+1:Nat):=by grind [Hid.out,ax]
   obtain⟨x,B⟩:∃x,(aY es v)[j]? = IT x:=⟨_,bk Xy⟩;have HX:Lk (((aY es v).map (·.h.toNat))[j]? = IT x.h.toNat/\x.h.toNat<4294967296):=ae ⟨M2,x.h.toNat_lt⟩;obtain⟨g,rfl⟩:∃g,p=IT ⟨g,0,KK⟩:=by
    obtain⟨-,⟨U,h2⟩|⟨g,_,_,U,_⟩⟩:=S.out.1
    .grind
    grind
   have a:aG J w.heap.size (.slice (IT ⟨g,0,KK⟩) (aY es v).length oc) (aY es v):=by rw[<- HM.out.1];exact bg S.out.1 (λb r=>(k.out.rw1 b (.inl r)).1)
   obtain⟨V,T,q2,Z⟩:=bX a B;have i:=ae (k.out.below (aq.alloc (cg _) (Mi #[Kx Mo (x.t.toNat:Int),Kx Mo (x.h.toNat:Int),Kx MJ (x.x.toNat:Int),Kx Mo (x.m.toNat:Int)] 63)));have K:=ae (i.out.add x.h.toNat HX.out.2 (by grind [qx,Hid.out]));clear a B k;go_wp2_with fail;go_call K.out as e w5⟨rfl,hn5⟩;have z8:Lk (nx n pb db w o d L G mc lc mb (.slice (IT ⟨g,0,KK⟩) c oc) (.slice q f l) ((((aY es v).map (·.h.toNat)).take (j+1)).foldl jx []) w5 o2 d2):=ae (by grind [IK,Hid.out]);clear V T q2 Z K hn5 i;go_wp2;grind [Lo]
  .have CV:¬(j:Int)<c:=af;obtain⟨F,O⟩:=ac (((aY es v).map (·.h.toNat)).foldl jx []);have bd:=ae O;have FR:Lk (nx n pb db w o d L G mc lc mb (.slice p c oc) (.slice q f l) F J o2 d2):=ae (by grind [Hid.out,dj])
   have OU:Lk (F.length<=1000):=ae (by grind [qx,Hid.out]);clear O k HL JL;have HL:=OU;clear OU;go_wp2_with fail;go_loopw [55] (λD wr=>∃j:Nat,D=j/\j<=f/\Lk (nx n pb db w o d L G mc lc mb (.slice p c oc) (.slice q f l) ((((eD es v).map (·.t.toNat)).take j).foldl jx F) wr o2 d2)) (λD _=>f-(Lo D).toNat)
   case atStart=>grind
   case round=>
    obtain⟨j,rfl,hj,k⟩:=hrel;generalize wr=A at *;by_cases am:j<f
    .have CV:(j:Int)<f:=af;have wj:cf Mm ((j:Int)+1)=(j+1:Nat):=by grind [Hid.out,ax]
     obtain⟨x,B⟩:∃x,(eD es v)[j]? = IT x:=⟨_,bk Xy⟩;have HX:Lk (((eD es v).map (·.t.toNat))[j]? = IT x.t.toNat/\x.t.toNat<4294967296):=ae ⟨M2,x.t.toNat_lt⟩;obtain⟨g,rfl⟩:∃g,q=IT ⟨g,0,KK⟩:=by
      obtain⟨-,⟨U,h2⟩|⟨g,_,_,U,_⟩⟩:=S.out.2
      .grind
      grind
     have a:aG A w.heap.size (.slice (IT ⟨g,0,KK⟩) (eD es v).length l) (eD es v):=by rw[<- HM.out.2.1];exact bg S.out.2 (λb r=>(k.out.rw1 b (.inr r)).1)
     obtain⟨V,T,q2,Z⟩:=bX a B;have i:=ae (k.out.below (aq.alloc (cg _) (Mi #[Kx Mo (x.t.toNat:Int),Kx Mo (x.h.toNat:Int),Kx MJ (x.x.toNat:Int),Kx Mo (x.m.toNat:Int)] 63)));have K:=ae (i.out.add x.t.toNat HX.out.2 (by grind [qx,Hid.out]));clear a B k;go_wp2_with fail;go_call K.out as e w5⟨rfl,hn5⟩;have z8:Lk (nx n pb db w o d L G mc lc mb (.slice p c oc) (.slice (IT ⟨g,0,KK⟩) f l) ((((eD es v).map (·.t.toNat)).take (j+1)).foldl jx F) w5 o2 d2):=ae (by grind [IK,Hid.out]);clear V T q2 Z K hn5 i;go_wp2;grind [Lo]
    .have aE:¬(j:Int)<f:=af;have HE:Lk ((((eD es v).map (·.t.toNat)).take j).foldl jx F=dD es v):=ae (by grind [dj,Hid.out,zI])
     obtain⟨lv,P,hl⟩:=k.out.st;have z0:A.cell? lc=IT lv:=by rw[au P.c2];rfl
     have HQ:Lk (E0 n pb db w o d L (dD es v) (Mk (Ly #[lv,Kx Mm 0])) A):=ae ⟨lv,d2,o2,rfl,k.out.mv,by rw[<- HE.out];exact P.row,λx B=>(hl x (.inr (.inr (.inr B)))).2.1⟩;obtain⟨la,lk,rfl⟩:=aw P.row;have z1:=P.lt.2.1;clear P hl k HE;go_wp2;go_returns;exact HQ.out
end
section
variable {S:Nat->Prop}{w0 w W W':KX}{pb db n gb gen N ob ib vb rb done:Nat}{o o' q:ay}{d d' s:Dsk}{L:aL}{es:List aJ}{acc:List bZ}{x4 x5 b vv l:J3}
def dV(w:KX)(c b f gen done:Nat)(a d e:J3):Prop:=w.heap[c]? = IT (Mi #[ptrTo b,ptrTo f,gen,Kx Mo done,a,d,e] 75)
structure uE(w0 w:KX)(o:ay)(rb gb ob ib vb:Nat):Prop where
 new:w0.heap.size<=rb
 lt:rb<w.heap.size
 free:o rb=KK
 graph:gb<rb/\ob<rb/\ib<rb/\vb<rb
theorem dV.lt(h:dV w rb pb gb gen done x4 x5 b):rb<w.heap.size:=(ds.1 h).1
theorem dV.below(h:dV w rb pb gb gen done x4 x5 b)(a:Lg w w w'):dV w' rb pb gb gen done x4 x5 b:=(a.block _ h.lt).trans h
theorem dV.moved(h:dV w rb pb gb gen done x4 x5 b)(a:o rb=KK)(c:Moved (λ_=>False) n pb db w o d w' o' d' L'):dV w' rb pb gb gen done x4 x5 b:=c.heap h a (λe=>e)
theorem dV.cells(h:dV w rb pb gb gen done x4 x5 b):w.cell? rb=IT (ptrTo pb)/\w.cell? ⟨rb,1,KK⟩=IT (ptrTo gb)/\w.cell? ⟨rb,2,KK⟩=gen/\w.cell? ⟨rb,3,KK⟩=IT (Kx Mo done)/\w.cell? ⟨rb,4,KK⟩=IT x4/\w.cell? ⟨rb,5,KK⟩=IT x5/\w.cell? ⟨rb,6,KK⟩=IT b/\∀k,w.frozen? ⟨rb,k,KK⟩=false:=
 ⟨by rw[au h];rfl,by rw[au h];rfl,by rw[au h];rfl,by rw[au h];rfl,by rw[au h];rfl,by rw[au h];rfl,by rw[au h];rfl,λk=>aO h k⟩
theorem dV.arR(h:dV w rb pb gb gen done x4 x5 b)(v:J3):dV (w.setCell ⟨rb,4,KK⟩ v) rb pb gb gen done v x5 b:=aS h 4 v
theorem dV.arS(h:dV w rb pb gb gen done x4 x5 b)(v:J3):dV (w.setCell ⟨rb,5,KK⟩ v) rb pb gb gen done x4 v b:=aS h 5 v
theorem dV.ag1(h:dV w rb pb gb gen done x4 x5 b)(v:J3):dV (w.setCell ⟨rb,6,KK⟩ v) rb pb gb gen done x4 x5 v:=aS h 6 v
theorem uE.moved(h:uE w0 w o rb gb ob ib vb)(a:Moved S n pb db w o d w' o' d' L'):uE w0 w' o' rb gb ob ib vb:=⟨h.new,eg h.lt a.size,a.free h.lt h.free,h.graph⟩
theorem iM.Kw(h:iM w0 w pb db n o d L gb gen N ob ib vb es)(c:uE w0 w o rb gb ob ib vb)(b:Moved (·=rb) n pb db w o d w' o' d' L):iM w0 w' pb db n o' d' L gb gen N ob ib vb es:=
 ⟨h.held.moved b (λ_ e=>e▸c.new),h.need,by have a:=h.gr;obtain⟨j,i,f,g⟩:=c.graph;exact⟨a.raw.moved b a.ogb af,a.out.moved b a.Yr af,a.vH.moved b a.oib af,a.wR.moved b a.P9 af,b.free a.raw.lt a.ogb,b.free a.out.lt a.Yr,b.free a.vH.lt a.oib,b.free a.wR.lt a.P9⟩,h.file,h.N0,h.len,h.top,h.ends⟩
abbrev dr(w:KX)(base:Nat)(v:J3)(l:List bZ):Prop:=w.ownsRow base 110 3 v l.length (cz l)
theorem qT(a b:List bZ):cz (a++b)=cz a++cz b:=by
 induction a with
 |nil=>rfl
 |cons e a c=>grind [cz]
theorem Bc{o:Oper}{a:Act}{w:KX}{K:Act->KX->Prop}{E:Prop}(e:o.guard=KK)(s x:Operand)(n:o.op=.call { callee:=.builtin .append,args:=#[s,x],argTypes:=#[37,37] })(base:Nat)(v:J3)(l:List bZ)(p:a.eval s=v)(d:dr w base v l)(y:bZ)(f c:Nat)(m:a.eval x=.slice f 1 c)(g:w.heap[f]? = IT (Mi #[y.r,y.l,y.g] 110))(r:l.length<=100000)(b:base<=w.heap.size)(k:∀v' w',dr w' base v' (l++[y])->gP v w w' v'->K (a.put o.dst v') w'):if Region.wanted o (yielded ops a.tmps)=Jd then Oper.wp prog o a w K Q else E:=by
 refine po e s x 37 n base 110 _ 3 12 Tryz.underlying37 rN rfl ag v l.length (cz l) p d ⟨f,0,KK⟩ 1 c [y.r,y.l,y.g] m rfl (λj u q=>?_) (by simp[qn]) (by grind [maxLen]) af b (λv' w' h i=>k v' w' ?_ i)
 .rw[br,j0,au g];grind
 .unfold dr;rw[qT,eh];exact h
structure mz(n pb db:Nat)(w:KX)(o:ay)(d:Dsk)(L:aL)(rb gb gen done:Nat)(x4 x5 vv:J3)(acc:List bZ)(W:KX)(o':ay)(d':Dsk):Prop where
 mv:Moved (·=rb) n pb db w o d W o' d' L
 at':dV W rb pb gb gen done x4 x5 vv
 row:dr W w.heap.size vv acc
 own:∀b,vv.ownBlock=IT b->o' b=KK
theorem mz.below(h:mz n pb db w o d L rb gb gen done x4 x5 vv acc W o' d')(a:Lg W W W'):mz n pb db w o d L rb gb gen done x4 x5 vv acc W' o' d':=
 ⟨h.mv.below a,h.at'.below a,aB h.row a,h.own⟩
theorem mz.moved(h:mz n pb db w o d L rb gb gen done x4 x5 vv acc W o' d')(f:uE w0 w o rb gb ob ib vb)(c:Moved (λ_=>False) n pb db W o' d' W' q s L):mz n pb db w o d L rb gb gen done x4 x5 vv acc W' q s:=
 ⟨h.mv.trans c M2,h.at'.moved (h.mv.free f.lt f.free) c,c.ownsRow h.row (λb a=>⟨h.own b a,λe=>e⟩),λb a=>c.free (aA h.row b a).1 (h.own b a)⟩
theorem mz.CG(h:mz n pb db w o d L rb gb gen done x4 x5 vv acc W o' d')(f:uE w0 w o rb gb ob ib vb)(g:dr W' w.heap.size l (acc++[y]))(r:gP vv W W' l) :
 W'.cell? ⟨rb,6,KK⟩=IT vv/\W'.frozen? ⟨rb,6,KK⟩=J0/\mz n pb db w o d L rb gb gen done x4 x5 l (acc++[y]) (W'.setCell ⟨rb,6,KK⟩ l) o' d':=by
 obtain⟨i,s⟩:=r;have m:∀b,vv.ownBlock=IT b->b≠rb:=λb c e=>No ((aA h.row b c).2) f.lt
 have a:dV W' rb pb gb gen done x4 x5 vv:=(i.block rb h.at'.lt M2).trans h.at';have q:=h.mv.free f.lt f.free;have t:=h.mv.grown i (λk j=>⟨h.own k j,.inr (aA h.row k j).2⟩);have p:∀b,l.ownBlock=IT b->o' b=KK/\b≠rb:=λb c=>by
  have u:=aD g b c;refine⟨?_,Nm f.lt⟩;rcases s with e | e
  .grind [own]
  .rw[e]at c;cases c;exact h.mv.bh.fresh af
 refine⟨a.cells.2.2.2.2.2.2.1,a.cells.2.2.2.2.2.2.2 6,t.setCell _ _ q (.inl rfl),a.ag1 l,bg g (λb c=>e8 _ _ _ _ (p b c).2),M2⟩
def Bd(n b db:Nat)(w:KX)(o:ay)(d:Dsk)(L:aL)(c g gen done:Nat)(a f:J3)(vs:List bZ)(e:Lp)(w':KX):Prop:=
 ∃vv d' o',e=Mk (Kx Mm 0)/\mz n b db w o d L c g gen done a f vv vs w' o' d'
theorem QP{v:J3}{base:Nat}(h:dr w base v (acc++[y])):∃g k M,Lk (M=acc.length+1)/\v=.slice (IT ⟨g,0,KK⟩) M k:=by
 obtain⟨-,⟨a,b⟩|⟨g,k,_,a,_⟩⟩:=h
 .grind
 grind [ae]
theorem G4(U:aV){fl:Bool}(h:iM w0 w pb db n o d L gb gen vs.length ob ib vb es)(E:aI L (aF 118 gen)=IT (cH vs fl))(y:dV w rb pb gb gen done x4 x5 (.slice KK 0 0))(m:uE w0 w o rb gb ob ib vb):K1 prog 23 #[ptrTo rb] w (Bd n pb db w o d L rb gb gen done x4 x5 vs):=by
 have H:=ae h;have Q:=ae E;have p:=ae m;obtain⟨R,C⟩:=ac (Bd n pb db w o d L rb gb gen done x4 x5 vs);have K:=ae C;rw[<- C];obtain⟨M,q⟩:=ac vs.length;have HM:Lk (M=vs.length/\M<=1000):=ae ⟨q,by rw[q];exact h.top⟩;have i:=ae (GU h.gr);rw[<- q]at i;have I:Lk (mz n pb db w o d L rb gb gen done x4 x5 (.slice KK 0 0) [] w o d):=ae ⟨Moved.refl _ h.held.bh,y,gp _ _ _ _,λb e=>by cases e⟩;obtain⟨-,c1,-⟩:=y.cells;clear h E y m C q;unfold ptrTo at *;go_enter func23,ntmps23;go_wp2_with fail;go_call i.out as e w1⟨rfl,rfl⟩;clear i c1;go_wp2_with fail;go_loopw [11] (λA wr=>∃(j:Nat)(acc:List bZ)(vv:J3)(o':ay)(d':Dsk),A=j/\j<=M/\Lk (acc=vs.take j)/\Lk (mz n pb db w o d L rb gb gen done x4 x5 vv acc wr o' d')) (λA _=>M-(Lo A).toNat)
 case atStart=>exact⟨0,[],_,o,d,rfl,em _,rfl,I⟩
 case round=>
  obtain⟨j,acc,vv,T,S,rfl,hj,l,f⟩:=hrel;clear I;generalize wr=Y at *;by_cases Z:j<M
  .have V:(j:Int)<M:=af;have wj:cf Mm ((j:Int)+1)=(j+1:Nat):=by grind [Hid.out,ax]
   have wu:cf Mo (j:Int)=j:=by grind [Hid.out,cM]
   obtain⟨-,c1,-⟩:=f.out.at'.cells;have c:=ae (UE U ((H.out.Kw p.out f.out.mv).held) H.out.need (H.out.Kw p.out f.out.mv).gr Q.out (v:=j) Xy Xy);obtain⟨x,z⟩:=ac (vs[j]'Xy);rw[<- z]at c;have HX:Lk (acc++[x]=vs.take (j+1)):=ae (by rw[z,l.out,fh]);clear z;unfold Qb ptrTo at *;go_wp2_with fail;go_call c.out as e w2⟨d2,o2,rfl,dA⟩;have J:=ae (f.out.moved p.out dA);clear c dA f c1;have a:Lk (mz n pb db w o d L rb gb gen done x4 x5 vv acc (w2.alloc (Mi #[Kx Mo (x.r.toNat:Int),Kx Mo (x.l.toNat:Int),Kx Mo (x.g.toNat:Int)] 110)) o2 d2/\(w2.alloc (Mi #[Kx Mo (x.r.toNat:Int),Kx Mo (x.l.toNat:Int),Kx Mo (x.g.toNat:Int)] 110)).heap[w2.heap.size]? = IT (Mi #[Kx Mo (x.r.toNat:Int),Kx Mo (x.l.toNat:Int),Kx Mo (x.g.toNat:Int)] 110)):=ae ⟨J.out.below (aq.alloc af _),Lw _ _⟩;clear J;go_wp2_with fail;generalize w2.heap.size=s at *;generalize w2.alloc (Mi #[Kx Mo (x.r.toNat:Int),Kx Mo (x.l.toNat:Int),Kx Mo (x.g.toNat:Int)] 110)=g at *;obtain⟨la,lk,rfl⟩:=aw a.out.1.row;obtain⟨-,-,-,-,-,-,c6,f6⟩:=a.out.1.at'.cells;have D:g.cell? s=IT (Kx Mo (x.r.toNat:Int)):=by rw[au a.out.2];rfl
   have W:g.cell? ⟨s,1,KK⟩=IT (Kx Mo (x.l.toNat:Int)):=by rw[au a.out.2];rfl
   have O:g.cell? ⟨s,2,KK⟩=IT (Kx Mo (x.g.toNat:Int)):=by rw[au a.out.2];rfl
   have r:=a.out.1.at'.lt;have X:=jK _ _ D;have B:Lk (acc.length<=100000/\w.heap.size<=g.heap.size):=ae ⟨Xy,a.out.1.mv.size⟩;have t:Lk (∀ob,Lg g g (g.alloc ob).drew):=ae (λob=>(aq.alloc (cg _) ob).drew);go_region_law (refine Bc rfl _ _ rfl w.heap.size _ acc rfl (World.ownsRow.alloc (World.ownsRow.drew a.out.1.row) _) x _ 1 rfl (Lw _ _) B.out.1 (cp B.out.2 (t.out _).size) ?_;intro v5 w5 u G;obtain⟨g5,k5,M5,oy,rfl⟩:=QP u;obtain⟨c5,N,k⟩:=(a.out.1.below (t.out _)).CG p.out u G;have F:=ae k;clear k G u)
   all_goals
    have iF:=F;clear c6 f6 D W O r X c5 N a F t B;go_wp2;grind [Lo]
  .have V:¬(j:Int)<M:=af;have P:Lk (R (Mk (Kx Mm 0)) Y):=ae (by rw[K.out];have:=f.out;rw[l.out,ey Xy]at this;exact⟨vv,S,T,rfl,this⟩)
   clear f K;go_wp2;exact P.out
end
theorem N6(x:Nat)(w:KX):K1 prog 219 #[Kx Mo x] w λe w'=>e=Mk (.bool J0)/\w'=w:=by go_enter func219,ntmps219;go_wp2;go_ret;exact⟨ai,rfl⟩
theorem E6(x y:Nat)(w:KX):K1 prog 226 #[Kx Mo x,Kx Mo y] w λe w'=>e=Mk (.bool (decide (x<y)))/\w'=w:=by have a:=ae (N6 x w);have b:Lk (decide ((x:Int)<y)=decide (x<y)):=ae (by rw[decide_eq_decide];omega);go_enter func226,ntmps226;go_wp2_with fail;go_call a.out as e w'⟨rfl,rfl⟩;go_wp2;go_ret;exact⟨by rw[<- b.out];rfl,rfl⟩
structure bI(w0:KX)(base g cap:Nat)(d:Array Nat)(W:KX):Prop where
 row:aT W base (.slice g d.size cap) d.toList
 turn:aN (·=g) w0 W
abbrev bw(a b:Nat):Bool:=decide (a<b)
section
variable {w0 W W':KX}{base g cap:Nat}{d:Array Nat}
theorem bI.below(h:bI w0 base g cap d W)(a:Lg W W W'):bI w0 base g cap d W':=⟨aB h.row a,h.turn.b7 a⟩
theorem bI.cell(h:bI w0 base g cap d W)(hi:i<d.size):W.cell? ⟨g,i,KK⟩=IT (Kx Mo (d[i]! : Int)):=by
 have a:d.toList[i]? = IT d[i]! := by rw[ri,wS hi,getElem!_pos d i hi]
 exact iT (l:=d.toList) (by have:=h.row;simpa using this) a
theorem bI.put(h:bI w0 base g cap d W)(x:Nat):bI w0 base g cap (d.setIfInBounds i x) (W.setCell ⟨g,i,KK⟩ (Kx Mo x)):=by refine⟨?_,h.turn.setCell _ _ (.inl rfl)⟩;have b:=World.ownsRow.stored h.row i (Kx Mo x);have a:=b.1;unfold aT;rw[FG];simpa[List.map_set]using a
theorem bI.nQ(h:bI w0 base g cap d W)(i j:Nat):bI w0 base g cap (swp d i j) ((W.setCell ⟨g,i,KK⟩ (Kx Mo (d[j]! : Int))).setCell ⟨g,j,KK⟩ (Kx Mo (d[i]! : Int))).drew:=
 ((h.put d[j]!).put d[i]!).below aq.drew
theorem IL:SWO bw:=⟨λx=>by simp[bw],λx y z b a=>by simp[bw]at *;omega,λx y z b a=>by simp[bw]at *;omega⟩
def E7(w:KX)(base:Nat)(v:J3)(l:List Nat)(e:Lp)(w':KX):Prop:=
 ∃a,e=Mk (Ly #[])/\aT w' base v a/\a.Perm l/\a.Pairwise (·<=·)/\aN (λb=>v.ownBlock=IT b) w w'
end
open Go.ChangeMaps (setBlock)
abbrev sV(c:sO)(a:J3):Value:=LV #[Kx Mo c.v,Kx MJ c.k,a]
theorem Ky(a b:sO):decide (qL (tJ a.k b.k) (tJ a.v b.v)<0)=decide (dh a b):=by
 rw[decide_eq_decide];unfold dh qL;rcases jr a.k b.k with⟨f,c⟩|⟨f,c⟩|⟨f,c⟩
 .rw[c,if_neg ag];omega
 .rw[c,if_neg ag];omega
 .rw[c,if_pos rfl];rcases jr a.v b.v with⟨e,d⟩|⟨e,d⟩|⟨e,d⟩<;>rw[d]<;>omega
theorem UO(x y:sO){xn xc yn yc:Nat}(w:KX):K1 prog 116 #[sV x (.slice xa xn xc),sV y (.slice ya yn yc)] w λe w'=>e=Mk (.bool (decide (dh x y)))/\eV w w':=by have m:=ae (Ky x y);unfold sV;generalize x.k=d at *;generalize x.v=f at *;generalize y.k=b at *;generalize y.v=c at *;generalize l:(fz xa xn xc)=X at *;generalize n:(fz ya yn yc)=Y at *;subst l n;go_enter func116,ntmps116;have k:Lk (eV w ((w.alloc (Mi #[Kx Mo (f:Int),Kx MJ (d:Int),.slice xa xn xc] 143)).alloc (Mi #[Kx Mo (c:Int),Kx MJ (b:Int),.slice ya yn yc] 143))):=ae (((eV.refl w).alloc _).alloc _);go_wp2;have K:Lk (((w.alloc (Mi #[Kx Mo (f:Int),Kx MJ (d:Int),.slice xa xn xc] 143)).alloc (Mi #[Kx Mo (c:Int),Kx MJ (b:Int),.slice ya yn yc] 143)).cell? ⟨w.heap.size,0,KK⟩=IT (Kx Mo (f:Int))/\((w.alloc (Mi #[Kx Mo (f:Int),Kx MJ (d:Int),.slice xa xn xc] 143)).alloc (Mi #[Kx Mo (c:Int),Kx MJ (b:Int),.slice ya yn yc] 143)).cell? ⟨w.heap.size,1,KK⟩=IT (Kx MJ (d:Int))/\((w.alloc (Mi #[Kx Mo (f:Int),Kx MJ (d:Int),.slice xa xn xc] 143)).alloc (Mi #[Kx Mo (c:Int),Kx MJ (b:Int),.slice ya yn yc] 143)).cell? ⟨w.heap.size+1,0,KK⟩=IT (Kx Mo (c:Int))/\((w.alloc (Mi #[Kx Mo (f:Int),Kx MJ (d:Int),.slice xa xn xc] 143)).alloc (Mi #[Kx Mo (c:Int),Kx MJ (b:Int),.slice ya yn yc] 143)).cell? ⟨w.heap.size+1,1,KK⟩=IT (Kx MJ (b:Int))):=ae ai;generalize ((w.alloc (Mi #[Kx Mo (f:Int),Kx MJ (d:Int),.slice xa xn xc] 143)).alloc (Mi #[Kx Mo (c:Int),Kx MJ (b:Int),.slice ya yn yc] 143))=W at *;refine cm (eV W) 10 ah ah (eV.refl W).drew ?_;simp only[ii,j2,ot,qd];refine qz ?_;refine qz ?_ (λw' a=>by have j:=a.cell K.out.2.1;go_simp<;>rfl);refine qz ?_;refine qz ?_ (λw' a=>by have j:=a.cell K.out.2.2.2;go_simp<;>rfl);refine qw (λw' a=>(AG d b w').mono (λe i h=>⟨h.1,h.2▸a⟩)) ?_;refine qz ?_;refine qz ?_ (λw' a=>by have j:=a.cell K.out.1;go_simp<;>rfl);refine qz ?_;refine qz ?_ (λw' a=>by have j:=a.cell K.out.2.2.1;go_simp<;>rfl);refine qw (λw' a=>(AH f c w').mono (λe i h=>⟨h.1,h.2▸a⟩)) ?_;refine wpQuiet_nil ?_;intro p g;have o:=ae g;clear g;go_wp2_with fail;go_call(Iz (tJ d b) (tJ f c) _ _ ai ai) as e w4⟨rfl,rfl⟩;go_wp2;go_ret;exact⟨by rw[<- m.out];rfl,(k.out.trans o.out).alloc _⟩
open Go.ChangeMaps (setBlock)
def Zd(S:List Nat)(x:Nat):List Nat:=x::S.filter λy=>decide (y≠x)
theorem Ze(S:List Nat)(x y:Nat):y∈Zd S x↔y∈S\/y=x:=by grind [Zd]
theorem Zf(S:List Nat)(x:Nat):aX (S.map λx=>(x,())) x ()=(Zd S x).map λx=>(x,()):=by unfold aX b9 Zd;rw[oj,List.filter_map];rfl
def Kz(a b:sO)(z:Nat):Prop:=a.v≠b.v/\(dh a b/\b.v=z\/¬dh a b/\a.v=z)
section
variable {W:KX}{p mb:Nat}{S:List Nat}
def E8(W:KX)(c a:Nat)(S:List Nat)(x y:sO)(e:Lp)(b:KX):Prop:=
 ∃S',e=Mk (Ly #[])/\lC b a S'/\(∀z,z∈S'↔z∈S\/Kz x y z)/\aN (·=a) W b/\b.heap[c]? = IT (Mi #[.map (IT a)] 205)
theorem N7{d:KX}{x:Nat}(g:d.heap[p]? = IT (Mi #[.map (IT mb)] 205))(e:p≠mb)(f:aN (·=mb) W d){es:Array MapEntry}{c:Nat}(i:cj prog 33 jf (λ_:Unit=>Value.agg #[]) (setBlock d mb (.map es c)) mb (aX (S.map λx=>(x,())) x ())){a b:sO}(h:∀z,z=x↔Kz a b z) :
 E8 W p mb S a b (Mk (Ly #[])) (setBlock d mb (.map es c)):=
 ⟨Zd S x,rfl,by grind [Zf],λz=>by rw[Ze,h z],f.setBlock _ _ (.inl rfl),by grind [bm]⟩
theorem Zg(t:W.heap[p]? = IT (Mi #[.map (IT mb)] 205))(D:lC W mb S)(j:p≠mb)(x y:sO)(H:x.v<4294967296)(F:y.v<4294967296){xn xc yn yc:Nat}:K1 prog 115 #[sV x (.slice xa xn xc),sV y (.slice ya yn yc),.pointer (IT ⟨p,0,KK⟩)] W (E8 W p mb S x y):=by
 have G:=ae (λw=>UO x y (xa:=xa) (ya:=ya) (xn:=xn) (xc:=xc) (yn:=yn) (yc:=yc) w);have k:Lk (Lg W W ((W.alloc (Mi #[Kx Mo (x.v:Int),Kx MJ (x.k:Int),.slice xa xn xc] 143)).alloc (Mi #[Kx Mo (y.v:Int),Kx MJ (y.k:Int),.slice ya yn yc] 143))):=ae (aj.alloc ai _);have f:Lk (((W.alloc (Mi #[Kx Mo (x.v:Int),Kx MJ (x.k:Int),.slice xa xn xc] 143)).alloc (Mi #[Kx Mo (y.v:Int),Kx MJ (y.k:Int),.slice ya yn yc] 143)).heap[W.heap.size]? = IT (Mi #[Kx Mo (x.v:Int),Kx MJ (x.k:Int),.slice xa xn xc] 143)/\((W.alloc (Mi #[Kx Mo (x.v:Int),Kx MJ (x.k:Int),.slice xa xn xc] 143)).alloc (Mi #[Kx Mo (y.v:Int),Kx MJ (y.k:Int),.slice ya yn yc] 143)).heap[W.heap.size+1]? = IT (Mi #[Kx Mo (y.v:Int),Kx MJ (y.k:Int),.slice ya yn yc] 143)):=ae (by grind [World.alloc])
 have l:=ae t;have n:=ae D;have v:=ae j;have o:=ae (iK H);have s:=ae (iK F);clear t D j;by_cases c:x.v=y.v
 .have B:(x.v:Int)=(y.v:Int):=af;have h:Lk (E8 W p mb S x y (Mk (Ly #[])) ((W.alloc (Mi #[Kx Mo (x.v:Int),Kx MJ (x.k:Int),.slice xa xn xc] 143)).alloc (Mi #[Kx Mo (y.v:Int),Kx MJ (y.k:Int),.slice ya yn yc] 143))):=ae ⟨S,rfl,n.out.kept (k.out.block _ n.out.lt),λz=>⟨.inl,λe=>e.elim id (λe=>absurd c e.1)⟩,aN.aZ k.out,(k.out.block _ (ds.1 l.out).1).trans l.out⟩;have E:((x.v:Int) == (y.v:Int))=true:=M2;clear B c;unfold sV;go_enter func115,ntmps115;go_wp2;go_returns;exact h.out
 .have B:¬(x.v:Int)=(y.v:Int):=af;have i:=ae c;clear c;unfold sV at *;go_enter func115,ntmps115;go_wp2_with fail;go_call(G.out _) as e w1⟨rfl,hg⟩;have b:=hg.below;have m:=ae (k.out.trans (b.mono k.out.size));have u:=(b.block _ (ds.1 f.out.1).1).trans f.out.1;have C:=(b.block _ (ds.1 f.out.2).1).trans f.out.2;have J:w1.cell? ⟨W.heap.size,0,KK⟩=IT (Kx Mo (x.v:Int)):=by rw[au u];rfl
  have K:w1.cell? ⟨W.heap.size+1,0,KK⟩=IT (Kx Mo (y.v:Int)):=by rw[au C];rfl
  have r:=ae ((m.out.block _ (ds.1 l.out).1).trans l.out);have A:Lk (lC w1 mb S):=ae (n.out.kept (m.out.block _ n.out.lt));have I:w1.cell? ⟨p,0,KK⟩=IT (.map (IT mb)):=by rw[au r.out];rfl
  clear hg b u C f;by_cases a:dh x y
  .rw[show decide (dh x y)=Jd from decide_eq_true a];have q:Lk (∀z,z=y.v↔Kz x y z):=ae (λz=>⟨λe=>⟨i.out,.inl ⟨a,e.symm⟩⟩,λe=>e.2.elim (λe=>e.2.symm) (λe=>absurd a e.1)⟩);clear a;go_wp2_with (at_mapUpdate;refine fL _ rfl _ _ _ _ rfl 207 cF dP Tryz.underlying205 mb _ rfl A.out y.v () rfl rfl s.out ?_;intro es d g);have h:=ae (N7 r.out v.out (aN.aZ m.out) g q.out);clear g;go_returns;exact h.out
  .rw[show decide (dh x y)=J0 from decide_eq_false a];have q:Lk (∀z,z=x.v↔Kz x y z):=ae (λz=>⟨λe=>⟨i.out,.inr ⟨a,e.symm⟩⟩,λe=>e.2.elim (λe=>absurd e.1 a) (λe=>e.2.symm)⟩);clear a;go_wp2_with (at_mapUpdate;refine fL _ rfl _ _ _ _ rfl 207 cF dP Tryz.underlying205 mb _ rfl A.out x.v () rfl rfl o.out ?_;intro es d g);have h:=ae (N7 r.out v.out (aN.aZ m.out) g q.out);clear g;go_returns;exact h.out
end
section
variable {α:Type} [Inhabited α]{lt:α->α->Bool}{d:Array α}
theorem Zh{hi first r:Nat}(h:hi<=2*r+1):siftDown lt hi first r d=d:=by unfold siftDown;rw[dif_pos h]
theorem UQ{hi first r C:Nat}{a:Bool}(h:2*r+1<hi)(b:a=(decide (2*r+2<hi) && lt d[first+(2*r+1)]! d[first+(2*r+2)]!))(e:C=if a=Jd then 2*r+2 else 2*r+1) :
 siftDown lt hi first r d=if lt d[first+r]! d[first+C]! = Jd then siftDown lt hi first C (swp d (first+r) (first+C)) else d:=by
 conv=>lhs;unfold siftDown
 rw[dif_neg af,show(decide (2*r+1+1<hi) && lt d[first+(2*r+1)]! d[first+(2*r+1)+1]!)=a from b.symm];subst e;cases a
 .simp only[if_false,xv];cases lt d[first+r]! d[first+(2*r+1)]! <;> simp
 .have c:2*r+2<hi:=by simp only[Bool.true_eq,Bool.and_eq_true,decide_eq_true_eq]at b;exact b.1
  simp only[if_true,c];cases lt d[first+r]! d[first+(2*r+2)]! <;> simp
theorem KA{p:α->Bool}(a:u=scanUp p d j i)(b:i<=j+1):i<=u/\u<=j+1:=by have h:=scanUp_spec p d j _ i rfl;subst a;exact⟨h.1,h.2.1 b⟩
theorem Be{p q:α->Bool}{v:Nat}(l:∀x,q x=!p x)(g:u=scanUp p d j i)(k:v=scanDown q d u j)(c:i<=j+1):i<=u/\u<=j+1/\v<=j/\u<=v+1/\(0<v->u≠v):=by have a:=scanUp_spec p d j _ i rfl;rw[<- g]at a;have b:=scanDown_spec q d u j;rw[<- k]at b;refine⟨a.1,a.2.1 c,b.1,b.2.1 (a.2.1 c),λh e=>?_⟩;have f:=b.2.2.2 af h;rw[l,<- e,a.2.2.2 af]at f;cases f
theorem UR{a v:Nat}(b:u=scanUp (λx=>lt x d[a]!) d j i)(c:v=scanDown (λx=>!lt x d[a]!) d u j) :
 partLoop lt a i j d=if u>v then (v,d) else partLoop lt a (u+1) (v-1) (swp d u v):=by subst b c;exact partLoop_eq lt a i j d
theorem QQ{a b pv v:Nat}{D:Array α}{r:Nat×Array α}(g:D=swp d a pv)(c:u=scanUp (λx=>lt x D[a]!) D (b-1) (a+1))(f:v=scanDown (λx=>!lt x D[a]!) D u (b-1))(e:¬u>v->r=partLoop lt a (u+1) (v-1) (swp D u v)) :
 partition lt d a b pv=if u>v then (v,Jd,swp D v a) else (r.1,J0,swp r.2 r.1 a):=by
 subst g c f;unfold partition;dsimp only;split
 .rfl
 .rename_i h
  rw[e h]
theorem acx{a v:Nat}(b:u=scanUp (λx=>!lt d[a]! x) d j i)(c:v=scanDown (λx=>lt d[a]! x) d u j) :
 partEqLoop lt a i j d=if u>v then (u,d) else partEqLoop lt a (u+1) (v-1) (swp d u v):=by subst b c;exact partEqLoop_eq lt a i j d
end
end Go.Proofs.YtofigggbapdfhaaGreatDoor
