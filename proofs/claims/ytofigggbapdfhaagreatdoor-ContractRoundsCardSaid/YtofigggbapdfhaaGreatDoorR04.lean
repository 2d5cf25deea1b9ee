/-
  Joined.
-/
import Derived.Test.YtofigggbapdfhaaGreatDoorR09
import Derived.Below
import Derived.Deep.RegionWith
import Derived.Laws.IdiomStrings
import Derived.Shelf.Sort.Plain
import Derived.Shelf.Slices.In.SortNone
import Derived.Deep.RegionLaw
import Derived.BigRegion
import Derived.Maps.Keyed
import Derived.Laws.Externs
import Derived.Laws.BytesArg
set_option maxRecDepth 100000
set_option maxHeartbeats 8000000
open Option renaming some->IT,none->KK,map_some->ql,getD_some->FS,isSome_some->H4
open Bool renaming true->Jd,false->J0,and_eq_true->j4,false_eq_true->xv
open List renaming getElem?_eq_getElem->bk,mem_of_getElem?->cx,length_map->dj,length_append->eh,replicate->ei,length_take->et,take_of_length_le->ey,getElem?_eq_some_iff->e7,take_succ_eq_append_getElem->fh,mem_map->gl,mem_iff_getElem?->hY,mem_range->j3,range->kk,map_append->k8,all_eq_true->ms,getElem_map->sp,length_eq_zero_iff->sI,filter_append->yk,filter_eq_nil_iff->Da,take_append_drop->Do,cons_append->DD,getElem?_drop->F1,mem_append->hS,take_succ_cons->ii,length_cons->it,eq_nil_of_length_eq_zero->jJ,take_zero->j2,mem_singleton->kj,length_set->k9,map_cons->oj,drop_succ_cons->ot,append_assoc->o0,drop_zero->qd,mem_cons->qk,map_map->rj,map_nil->FP,map_toArray->GO
open Nat renaming le_refl->cg,le_trans->cp,lt_of_lt_of_le->eg,zero_le->em,zero_add->j0,lt_or_ge->lb,eq_zero_or_pos->qp,lt_trichotomy->sk,mod_eq_of_lt->DQ
open Array renaming getElem?_eq_some_iff->ds,getD_eq_getD_getElem?->iD
open UInt32 renaming ofNat->h9
open UInt64 renaming ofNat->nM
namespace Go.Proofs.YtofigggbapdfhaaGreatDoor
open Go.RowKit Go.Maps Go.MapKept Go
open Go.Proofs.Tryz
open Go renaming World->KX,Value->J3,Calls->K1,Ending->Lp,heap_alloc_new->Lw
open Go.RowKit renaming Below->Lg,Hid->Lk,intOf->Lo
open Go.Value renaming int->Kx,tuple->Ly,agg->LV
open Go.Obj renaming cells->Mi
open Go.Ending renaming returned->Mk
open Go.IntKind renaming i64->Mm,u32->Mo,u64->MJ
open Go.IntKind renaming wrap->cf
open Go.RowKit.Below renaming heap_setCell->e8
open Go.World renaming ownsRow_nil->gp,block_lt_of_cell?->jK
theorem Xy{p:Prop}(h:p:=by grind [Hid.out]):p:=h
theorem Xd{p q:Prop}(h:p)(k:p->q:=by intro;simp[Go.RowKit.intOf];omega):q:=k h
theorem Xg{p:Prop}(h:p:=by simp[Go.RowKit.intOf];omega):p:=h
variable {w':KX}{name:Name}{o':ay}{d':Dsk}{L':aL}{m lo hi:Nat}{es:List aJ}{fl:Bool}{Q:Exit->Act->KX->Prop}{S:Nat->Prop}{bs:List UInt8}
def af7:ByteArray:=⟨#[116,46]⟩
def ownName(x:Name):Bool:=Lib.hasPrefix x.data.toList af7.data.toList
theorem AV(k:Nat):ownName (eu k)=true:=by unfold ownName eu af7 Lib.hasPrefix;simp
section
variable {w:KX}{pb db n c kb sb j p h:Nat}{by':Bool}{o:ay}{d:Dsk}{L:aL}
theorem Ex(s:ByteArray)(w:KX):K1 prog 80 #[.string s,.string ⟨#[116,46]⟩] w λe w'=>e=Mk (.bool (ownName s))/\w=w':=
 (Any.strings_HasPrefix (P:=prog) (ρ:=Tryz.hasPre_ren) { Tryz.hasPre with } s ⟨#[116,46]⟩ w).mono λ_ _ ⟨b,a⟩=>⟨b,a.symm⟩
theorem AW{i N:Nat}{x:aJ}{sz:Nat}(h:bK w c sb i N x)(f:aM w sb pb name sz):sb≠c:=by rintro rfl;obtain⟨t,e⟩:=h;obtain⟨g,d⟩:=f;rw[e]at d;have:=Option.some.inj d;injection this with a b;have:=congrArg Array.size a;simp at this
theorem Im(w:KX)(a:Nat)(x:Int)(b:Bool)(c:x=(oQ b:Int)):dC ((w.alloc (Mi #[Kx Mm x] 3)).alloc (Mi #[.pointer a,.func (.func 81) #[] #[.pointer w.heap.size],Kx Mm 0] 171)) (w.heap.size+1) a w.heap.size 0 b:=by
 subst c;refine⟨⟨171,?_⟩,⟨3,?_⟩⟩
 .have:=Lw (w.alloc (Mi #[oQ b] 3)) (Mi #[.pointer a,.func (.func 81) #[] #[.pointer w.heap.size],Kx Mm 0] 171);rw[show(w.alloc (Mi #[oQ b] 3)).heap.size=w.heap.size+1 by simp]at this;exact this
 .rw[(MapKept.heap_alloc _ _).2 _ ai];exact Lw w _
theorem Io(HW:aV)(CB:eW m)(h:aU w pb db n o d L)(hn:8<=n){q a:Name}(hL:aI L q=IT (az es fl))(P:q≠a)(hi:ownName q=J0)(U:ownName a=J0)(f:b6 a=Jd)(r:aI L a=KK)(F9:∀k,aI L (eu k)=KK)(hm:es.length<=m):K1 prog 42 #[ptrTo pb,.string q,.string a,oQ by'] w (rL (λ_=>False) n pb db w o d L a (aH by' es) es.length):=by
 have C:∀k,a≠eu k:=λk e=>by rw[e,AV]at U;cases U
 have zY:=ae (Ex q);have mF:=ae (Ex a);simp only[hi]at zY;simp only[U]at mF;have uZ:=ae (λW(A:Lg w w W)=>js (h.below A));have tA:Lk (∀W,Lg w w W->∀j p,dC W j pb p 0 by'->K1 prog 82 #[ptrTo j,.string q] W (uj n pb db W o d L q es.length)):=ae (λW A j p hj=>BU HW (h.below A) hj hL);have tK:Lk (∀W o' d',aU W pb db n o' d' L->K1 prog 36 #[ptrTo pb,.string a] W (iC n pb db W o' d' L a)):=ae (λW o' d' A=>mP A a (bO f));have rI:Lk (∀d':Dsk,dK d' L a=if d'.tick.dead=Jd then 6 else 0):=ae (λd'=>by unfold dK;rw[f,r];rfl)
 have yU:Lk (∀W o' d',aU W pb db n o' d' (aX L a (.inl (([]:List Pg),Jd)))->K1 prog 20 #[ptrTo pb,.string a] W (Mu W pb db n o' d' (aX L a (.inl (([]:List Pg),Jd))) a)):=ae (λW o' d' A=>y6 A (ps:=[]) (fl:=Jd) (by rw[aC,if_pos rfl]));have B:Lk (b9 (aX L a (.inl (([]:List Pg),Jd))) a=L):=ae (by rw[H9,En r]);have BV:Lk (∀W o' d' c sb j p,aU W pb db n o' d' L->dC W j pb p 0 by'->o' j=KK->o' p=KK->p≠j->bK W c sb 0 es.length Ei->aM W sb pb q 20->o' c=KK->o' sb=KK->c≠j->c≠p->sb≠j->sb≠c ->
  Calls prog 83 #[ptrTo j,ptrTo c,.string a] W (rL (λx=>x=c\/x=j) n pb db W o' d' L a (aH by' es) es.length)):=ae (λW o' d' c sb j p a1 a2 a3 a4 a5 a6 a7 a8 a9 b1 b2 b3 b4=>CB a1 hn a2 a3 a4 a5 hL a6 a7 a8 a9 b1 b2 b3 b4 f r F9 C hm)
 have ce:(q.toList == a.toList)=false:=rE P;have VM:n<=4096:=by obtain⟨fb,mb,l,hand,mf,hp,rfl,-⟩:=h;exact hp.most
 have H:=ae h;have ci:¬(n:Int)<8:=af;clear h hn hL P hi U f r F9 hm C;have I:((oQ by':Int)=0\/(oQ by':Int)=1):=by cases by'<;>simp[oQ]
 have z:Lk (∀v,Lg w w (w.alloc (Mi #[v] 3))):=ae (λv=>aq.alloc (cg _) _);have de:Lk (∀v,(w.alloc (Mi #[v] 3)).heap[w.heap.size]? = IT (Mi #[v] 3)):=ae (λv=>Lw w _);obtain⟨bn,Le⟩:∃bn:Int,bn=(oQ by':Int):=⟨_,rfl⟩;rw[<- Le]at I ⊢;have F:=ae Le;clear Le;unfold ptrTo at *;generalize es.length=N at *;rcases I with rfl | rfl;all_goals
  go_enter func42,ntmps42;go_wp2_with fail;go_call(zY.out _) as e w'⟨rfl,rfl⟩;go_wp2_with fail;go_call(mF.out _) as e w'⟨rfl,rfl⟩;go_wp2_with fail;go_call(uZ.out _ (z.out _)) as e w'⟨rfl,rfl⟩;go_wp2_with fail
 all_goals
  first
   | (have g:Lk (dC ((w.alloc (Mi #[Kx Mm 0] 3)).alloc (Mi #[.pointer pb,.func (.func 81) #[] #[.pointer w.heap.size],Kx Mm 0] 171)) (w.heap.size+1) pb w.heap.size 0 by'):=ae (Im w pb 0 by' F.out)
      have X:Lk (Lg w w ((w.alloc (Mi #[Kx Mm 0] 3)).alloc (Mi #[.pointer pb,.func (.func 81) #[] #[.pointer w.heap.size],Kx Mm 0] 171))):=ae ((z.out _).alloc ai _);have i:w.heap.size+2=((w.alloc (Mi #[Kx Mm 0] 3)).alloc (Mi #[.pointer pb,.func (.func 81) #[] #[.pointer w.heap.size],Kx Mm 0] 171)).heap.size:=ai;have Jw:=ae i;clear i;generalize (w.alloc (Mi #[Kx Mm 0] 3)).alloc (Mi #[.pointer pb,.func (.func 81) #[] #[.pointer w.heap.size],Kx Mm 0] 171)=W1 at *)
   | (have g:Lk (dC ((w.alloc (Mi #[Kx Mm 1] 3)).alloc (Mi #[.pointer pb,.func (.func 81) #[] #[.pointer w.heap.size],Kx Mm 0] 171)) (w.heap.size+1) pb w.heap.size 0 by'):=ae (Im w pb 1 by' F.out)
      have X:Lk (Lg w w ((w.alloc (Mi #[Kx Mm 1] 3)).alloc (Mi #[.pointer pb,.func (.func 81) #[] #[.pointer w.heap.size],Kx Mm 0] 171))):=ae ((z.out _).alloc ai _);have i:w.heap.size+2=((w.alloc (Mi #[Kx Mm 1] 3)).alloc (Mi #[.pointer pb,.func (.func 81) #[] #[.pointer w.heap.size],Kx Mm 0] 171)).heap.size:=ai;have Jw:=ae i;clear i;generalize (w.alloc (Mi #[Kx Mm 1] 3)).alloc (Mi #[.pointer pb,.func (.func 81) #[] #[.pointer w.heap.size],Kx Mm 0] 171)=W1 at *)
  have E:=ae (tA.out W1 X.out (w.heap.size+1) w.heap.size g.out);go_call E.out as e w2⟨v2,c2,d2,o2,rfl,dA,vX,lp⟩;have Z:=ae dA;have AE:=ae vX;have S:Lk (Moved (λ_=>False) n pb db w o d w2 o2 d2 L):=ae ((Moved.aZ H.out X.out).trans dA (λ_ _ h=>h));clear dA vX E;by_cases t:c2=0
  .subst t;obtain⟨c,sb,rfl,s,V,P4,Ep,G,Xv⟩:=lp rfl;have fP:=ae s;have qK:=ae V;have X2:=ae P4;have GH:=ae Ep;have u:=s.lt;have K:=V.lt;have JQ:Lk (sb≠c):=ae (AW s V);have bd:w.heap.size+2<=c:=by rw[Jw.out];exact G
   have co:w.heap.size+2<=sb:=by rw[Jw.out];exact Xv
   clear lp s V P4 Ep G Xv;unfold ptrTo;have b:=ae (tK.out w2 o2 d2 S.out.bh);unfold iC at b;rw[rI.out d2]at b;cases M:d2.tick.dead with
   |true=>rw[M,if_pos rfl]at b;have rZ:=ae M;clear M;go_wp2_with fail;go_call b.out as e w3⟨d3,o3,rfl,fD,-,hdd⟩;rw[if_neg ag]at fD;have fH:=ae (S.out.trans fD (λ_ _ h=>h));have yw:=ae (hdd (by first | exact rZ.out | trivial));clear fD hdd b;go_wp2;go_ret;exact⟨6,d3,o3,L,rfl,fH.out,λ_ _=>rfl,.inr (.inr ⟨rfl,yw.out⟩)⟩
   |false=>
     rw[M,if_neg ai]at b;clear M;go_wp2_with fail;go_call b.out as e w3⟨d3,o3,rfl,fD,-,-⟩;simp only[if_true]at fD;have OV:=ae (Z.out.trans fD (λ_ _ h=>h));have fH:=ae (S.out.trans fD (λ_ _ h=>h));have gV:Lk (bK w3 c sb 0 N Ei):=ae (fP.out.kept (fD.block u X2.out (λh=>h)));have GI:Lk (aM w3 sb pb q 20):=ae (qK.out.moved fD GH.out (λh=>h));have R:Lk (o3 c=KK):=ae (fD.free u X2.out);have AP:Lk (o3 sb=KK):=ae (fD.free K GH.out);have D:c<w3.heap.size:=eg u fD.size;have Y:sb<w3.heap.size:=eg K fD.size;have hdd:=ae (yU.out w3 o3 d3 fD.bh);clear fD b;go_wp2_with fail;go_call hdd.out as e w4⟨c4,d4,o4,L4,rfl,r7,yH,hg4,y4,aqn⟩;have y:Moved (λ_=>False) n pb db w3 o3 d3 w4 o4 d4 L4:=lj r7 yH hg4 y4;have Q:=ae (fH.out.trans y (λ_ _ h=>h));have T:=ae (OV.out.trans y (λ_ _ h=>h));have jh:Lk (bK w4 c sb 0 N Ei):=ae (gV.out.kept (y.block D R.out (λh=>h)));have za:Lk (aM w4 sb pb q 20):=ae (GI.out.moved y AP.out (λh=>h));have ac:Lk (o4 c=KK):=ae (y.free D R.out);have am:Lk (o4 sb=KK):=ae (y.free Y AP.out);clear r7 yH hg4 y4 y hdd;rcases aqn with⟨rfl,J⟩|⟨rfl,mO,dp,J⟩
     .have O:=J.trans B.out;rw[O]at Q T;have aE:Lk (dC w4 (w.heap.size+1) pb w.heap.size 0 by'):=ae (g.out.moved T.out (H.out.fresh af) (H.out.fresh (cg _)) (λh=>h) (λh=>h));have Tf:=ae (BV.out w4 o4 d4 c sb (w.heap.size+1) w.heap.size Q.out.bh aE.out (T.out.free g.out.lt.1 (H.out.fresh af)) (T.out.free g.out.lt.2 (H.out.fresh (cg _))) af jh.out za.out ac.out am.out af af af JQ.out);clear J O;go_wp2_with fail;go_call Tf.out as e w5⟨c5,d5,o5,L5,rfl,oq,akb,BI⟩;have oy:=ae (Q.out.trans oq (λx hx e=>af));have al:=ae akb;have Tt:Lk ((c5=0/\∀x,aI L5 x=aI (aX L a (az (aH by' es) Jd)) x)\/lM d d5 (need L+8*N) c5):=ae (BI.imp id (λh=>h.later Q.out.on.bU));clear oq akb BI Tf;go_wp2;go_ret;exact⟨c5,d5,o5,L5,rfl,oy.out,al.out,Tt.out⟩
     .have HE:=ae J;have HD:=ae mO;clear J mO;go_wp2;go_ret;refine⟨6,d4,o4,L4,rfl,Q.out,λx hx=>?_,.inr (.inr ⟨rfl,HD.out⟩)⟩;rw[HE.out,aC,if_neg (λe=>hx (.inl e)),aC,if_neg (λe=>hx (.inl e))]
  .have PN:¬(c2:Int)=0:=af;have BL:Lk (lM d d2 (need L+8*N) c2):=ae ((AE.out.resolve_left t).num (Nat.le_add_right _ _));clear t lp;go_wp2;go_ret;exact⟨c2,d2,o2,L,rfl,S.out,λ_ _=>rfl,.inr BL.out⟩
end
section
variable {P:Program}{C:KX->Prop}{Pd:Nat->J3->KX->Prop}{l:List Oper}{a0:Act}
structure mq(C:KX->Prop)(Pd:Nat->J3->KX->Prop)(l:List Oper)(a0:Act)(listed:Array Bool)(a:Act)(w:KX):Prop where
 size:listed.size=l.length
 cls:C w
 Sj:a.tmps.size=a0.tmps.size
 dfr:a.defers=a0.defers
 out:∀k,(∀o∈l,o.dst≠IT k)->a.tmps[k]? = a0.tmps[k]?
 slot:∀(i:Nat)(o:Oper)(k:Nat),l[i]? = IT o->o.dst=IT k->listed.getD i Jd=Jd->∃v,a.tmps[k]? = IT v/\Pd i v w
def lx(Pd:Nat->J3->KX->Prop)(l:List Oper)(a0:Act)(o:Oper)(a:Act)(w:KX):Prop:=
 (∀k,(∀o∈l,o.dst≠IT k)->a.tmps[k]? = a0.tmps[k]?)/\a.tmps.size=a0.tmps.size /\
 ∀e∈o.after,Region.binds .any e=Jd->∀(b:Oper)(k:Nat),l[e.on]? = IT b->b.dst=IT k->∃v,a.tmps[k]? = IT v/\Pd e.on v w
def vh(P:Program)(Pd:Nat->J3->KX->Prop)(i:Nat)(o:Oper)(a:Act)(w:KX):Prop:=
 ∀(Q:Exit->Act->KX->Prop)(K:Act->KX->Prop),(∀v w',Lg w w w'->Pd i v w'->K (a.put o.dst v) w')->o.wp P a w K Q
theorem T6(M:∀o∈l,o.guard=KK)(S:∀(i j:Nat)(y m:Oper)(k:Nat),l[i]? = IT y->l[j]? = IT m->y.dst=IT k->m.dst=IT k->i=j)(U:∀o∈l,∀k,o.dst=IT k->k<a0.tmps.size)(h:∀w w',C w->Lg w w w'->C w')(B:∀i v(w:KX)w',Lg w w w'->Pd i v w->Pd i v w')(g:∀(i:Nat)(o:Oper),l[i]? = IT o->∀a w,C w->lx Pd l a0 o a w->vh P Pd i o a w)(d:∀b a w,mq C Pd l a0 b a w->Region.ready .any l.toArray b=[]->Q .normal a w)(f:Nat) :
 ∀(b:Array Bool)(a:Act)(w:KX),mq C Pd l a0 b a w->b.toList.count J0<=f->wpAny P .any l.toArray Q f b a w:=by
 induction f with
 |zero=>
   intro b a w c D;have n:∀i,b.getD i Jd=true:=λi=>by rw[iD];grind [List.count_pos_iff]
   have z:Region.ready .any l.toArray b=[]:=by grind [Region.ready,Da]
   exact⟨z,d _ _ _ c z⟩
 |succ f I=>
   intro b a w c D;refine⟨d _ _ _ c,λi hi=>?_⟩;obtain⟨F,o,G,n⟩:=mem_ready.1 hi;have t:l[i]? = IT o:=M2;have K:o∈l:=cx t;have V:i<l.length:=(e7.1 t).1;have E:lx Pd l a0 o a w:=⟨c.out,c.Sj,λe T R m k x q=>c.slot _ m k x q M2⟩
   have H:Region.wanted o (yielded l.toArray a.tmps)=true:=by grind [Region.wanted]
   unfold wpOp;rw[G];simp only[H,if_true];refine .inl (g i o t a w c.cls E _ _ (λv w' p N=>I _ _ _ ⟨?_,h _ _ c.cls p,?_,?_,λk q=>?_,λj m k x q r=>?_⟩ ?_))
   .grind [mq.size]
   .unfold Act.put;grind [mq.Sj]
   .unfold Act.put;grind [mq.dfr]
   .unfold Act.put;grind [mq.out]
   .by_cases J:i=j
    .grind [Act.put,mq.Sj]
    .have s:b.getD j Jd=true:=by rw[iD,Array.getElem?_setIfInBounds_ne J]at r;grind [iD]
     obtain⟨u,A,L⟩:=c.slot j m k x q s;refine⟨u,?_,B _ _ _ _ p L⟩;unfold Act.put;grind
   .have O:b[i]? = IT false:=by rw[iD]at F;grind
    grind
theorem GN{p:Nat}{w:KX}(C:KX->Prop)(Pd:Nat->J3->KX->Prop)(t:P.follows .mixedOrders=Jd)(m:∀o∈l,o.guard=KK)(h:∀(i j:Nat)(g f:Oper)(k:Nat),l[i]? = IT g->l[j]? = IT f->g.dst=IT k->f.dst=IT k->i=j)(r:∀o∈l,∀k,o.dst=IT k->k<a0.tmps.size)(s:C w.drew)(c:∀w w',C w->Lg w w w'->C w')(n:∀i v(w:KX)w',Lg w w w'->Pd i v w->Pd i v w')(d:∀(i:Nat)(o:Oper),l[i]? = IT o->∀a w,C w->lx Pd l a0 o a w->vh P Pd i o a w)(e:∀b a w,mq C Pd l a0 b a w->Region.ready .any l.toArray b=[]->Q .normal a w):(Code.region p l.toArray Jd).wp P Q a0 w:=by
 refine wp_region_any t ?_;refine T6 m h r c n d e _ _ _ _ ⟨ai,s,rfl,rfl,λ_ _=>rfl,λi o k q _ u=>?_⟩ ?_
 .have x:i<l.length:=(e7.1 q).1;simp_all
 simp
def M7(l:List Oper)(n:Nat):Bool:=
 l.all (λo=>o.guard.isNone) && l.all (λo=>match o.dst with | some k=>decide (k<n) | none=>Jd) &&
  (kk l.length).all λi=>(kk l.length).all λj=>decide (i=j) || (match (l[i]?).bind (·.dst),(l[j]?).bind (·.dst) with | some a,IT b=>decide (a≠b) | _,_=>Jd)
theorem uw{m:Nat}{w:KX}(C:KX->Prop)(Pd:Nat->J3->KX->Prop)(n:P.follows .mixedOrders=Jd)(f:M7 l a0.tmps.size=Jd)(s:C w.drew)(d:∀w w',C w->Lg w w w'->C w')(h:∀i v(w:KX)w',Lg w w w'->Pd i v w->Pd i v w')(c:∀(i:Nat)(o:Oper),l[i]? = IT o->∀a w,C w->lx Pd l a0 o a w->vh P Pd i o a w)(e:∀b a w,mq C Pd l a0 b a w->Region.ready .any l.toArray b=[]->Q .normal a w):(Code.region m l.toArray Jd).wp P Q a0 w:=by
 simp only[M7,j4,ms]at f;obtain⟨⟨x,y⟩,p⟩:=f;refine GN C Pd n (λo q=>Nc) (λi j z u k hi r B g=>?_) (λo q k A=>?_) s d h c e
 .have t:=p i (j3.2 (e7.1 hi).1) j (j3.2 (e7.1 r).1);grind
 grind
theorem bS{i:Nat}{o:Oper}{a:Act}{w:KX}{v:J3}(h:(execOp a.eval o).run P w=.ok (.value v) w')(b:Lg w w w')(c:Pd i v w'):vh P Pd i o a w:=by intro Q K hK;unfold Oper.wp;rw[h];exact hK v w' b c
theorem gC{i:Nat}{o:Oper}{a:Act}{w:KX}{f:FuncId}{args:Array J3}(h:(execOp a.eval o).run P w=.ok (.enter f args) w)(b:K1 P f args w λe w'=>∃v,e=Mk v/\Lg w w w'/\Pd i v w'):vh P Pd i o a w:=by intro Q K hK;unfold Oper.wp;rw[h];refine Calls.mono b ?_;grind
theorem lx.get{o:Oper}{a:Act}{w:KX}(h:lx Pd l a0 o a w)(j:Nat){b:Oper}{k:Nat}(c:(o.after.toList.any λe=>decide (e.on=j) && Region.binds .any e)=Jd)(i:l[j]? = IT b)(g:b.dst=IT k):∃v,a.tmps[k]? = IT v/\Pd j v w:=by rw[List.any_eq_true]at c;obtain⟨e,p,d⟩:=c;rw[j4,decide_eq_true_eq]at d;obtain⟨rfl,f⟩:=d;obtain⟨v,m,n⟩:=h.2.2 e M2 f b k i g;grind
theorem lx.old{o:Oper}{a:Act}{w:KX}(h:lx Pd l a0 o a w)(k:Nat){v:J3}(c:(l.all λo=>decide (o.dst≠IT k))=Jd)(b:a0.tmps[k]? = IT v):a.tmps[k]? = IT v:=by refine(h.1 k λo d=>?_).trans b;grind
theorem abN{C:KX->Prop}{b:Array Bool}{a:Act}{w:KX}(h:mq C Pd l a0 b a w)(m:Region.ready .any l.toArray b=[])(d:((kk l.length).all λi=>match l[i]? with | some o=>o.after.toList.all (λe=>decide (e.on<i)) | none=>Jd)=Jd) :
 ∀(i:Nat)(o:Oper)(k:Nat),l[i]? = IT o->o.dst=IT k->∃v,a.tmps[k]? = IT v/\Pd i v w:=by
 have f:∀i,i<l.length->b.getD i Jd=true:=by
  intro i;induction i using Nat.strongRecOn with
  |_ i n=>
    intro hi;by_cases g:b.getD i Jd=Jd
    .exact g
    .exfalso
     have c:b.getD i Jd=false:=M2;have q:i∈Region.ready .any l.toArray b:=by refine mem_ready.2 ⟨c,l[i],ai,λe p _=>?_⟩;rw[ms]at d;have j:=d i (j3.2 hi);grind
     grind
 grind [mq.slot]
theorem ux{a b:Act}(g:a.tmps.size=b.tmps.size)(d:a.defers=b.defers)(f:∀k,k<b.tmps.size->a.tmps[k]? = b.tmps[k]?):a=b:=by obtain⟨c,h⟩:=a;obtain⟨e,db⟩:=b;grind [Array.ext]
def jt(a:Act):List Oper->List J3->Act
 |o::l,v::vs=>jt (a.put o.dst v) l vs
 |_,_=>a
theorem uy(a:Act)(d:Option Tmp)(v:J3):(a.put d v).tmps.size=a.tmps.size:=by unfold Act.put;grind
theorem wG(a:Act)(d:Option Tmp)(v:J3):(a.put d v).defers=a.defers:=by unfold Act.put;grind
theorem sK(a:Act)(d:Option Tmp)(v:J3)(k:Nat)(h:d≠IT k):(a.put d v).tmps[k]? = a.tmps[k]? := by unfold Act.put;grind
theorem qi(l:List Oper):∀(a:Act)(vs:List J3),(jt a l vs).tmps.size=a.tmps.size/\(jt a l vs).defers=a.defers/\∀k,(∀o:Oper,o∈l->o.dst≠IT k)->(jt a l vs).tmps[k]? = a.tmps[k]? := by
 induction l with
 |nil=>intro a vs;cases vs<;>exact⟨rfl,rfl,λ_ _=>rfl⟩
 |cons o l f=>
   intro a vs;cases vs with
   |nil=>exact⟨rfl,rfl,λ_ _=>rfl⟩
   |cons v vs=>obtain⟨d,e,c⟩:=f (a.put o.dst v) vs;exact⟨d.trans (uy _ _ _),e.trans (wG _ _ _),λk b=>(c k (λo' g=>b o' M2)).trans (sK _ _ _ _ (b o ai))⟩
theorem AX(l:List Oper):∀(a:Act)(vs:List J3)(i:Nat)(o:Oper)(k:Nat)(v:J3),l[i]? = IT o->o.dst=IT k->vs[i]? = IT v->k<a.tmps.size->(∀(j:Nat)(b:Oper),l[j]? = IT b->b.dst=IT k->j=i)->(jt a l vs).tmps[k]? = IT v:=by
 induction l with
 |nil=>simp
 |cons o' l n=>
   intro a vs i o k v m g d q c;cases vs with
   |nil=>cases d
   |cons v' vs=>
     cases i with
     |zero=>
       cases m;cases d;refine((qi l (a.put _ v) vs).2.2 k (λx h e=>?_)).trans ?_
       .obtain⟨j,f⟩:=hY.1 h;have:=c (j+1) x M2 e;omega
       grind [Act.put]
     |succ i=>refine n (a.put o'.dst v') vs i o k v M2 g M2 (by grind [uy]) (λj b f p=>?_);have:=c (j+1) b M2 p;omega
theorem Sk{C:KX->Prop}{b:Array Bool}{a:Act}{w:KX}(h:mq C Pd l a0 b a w)(r:Region.ready .any l.toArray b=[])(m:M7 l a0.tmps.size=Jd)(p:((kk l.length).all λi=>match l[i]? with | some o=>o.after.toList.all (λe=>decide (e.on<i)) && o.dst.isSome | none=>Jd)=Jd) :
 ∃vs:List J3,vs.length=l.length/\(∀i v,vs[i]? = IT v->Pd i v w)/\a=jt a0 l vs:=by
 rw[ms]at p;have q:∀(i:Nat)(o:Oper),l[i]? = IT o->(o.after.toList.all (λe=>decide (e.on<i)))=Jd/\∃k,o.dst=IT k:=λi o g=>by grind [Option.isSome_iff_exists]
 have D:=abN h r M2
 simp only[M7,j4,ms]at m;obtain⟨⟨_,E⟩,A⟩:=m;have u:∀(i j:Nat)(d c:Oper)(k:Nat),l[i]? = IT d->l[j]? = IT c->d.dst=IT k->c.dst=IT k->i=j:=λi j d c k hi B F n=>M2
 refine⟨l.map λo=>(o.dst.bind (a.tmps[·]?)).getD undef,dj _,λi v z=>?_,?_⟩
 .grind
 .obtain⟨f,t,G⟩:=qi l a0 (l.map λo=>(o.dst.bind (a.tmps[·]?)).getD undef);refine ux (by rw[f,h.Sj]) (by rw[t,h.dfr]) (λk s=>?_);rw[f]at s;by_cases x:∃o∈l,o.dst=IT k
  .obtain⟨o,g,y⟩:=x;obtain⟨i,hi⟩:=hY.1 g;grind [AX]
  grind [mq.out]
end
def aF(c:UInt8)(k:Nat):Name:=⟨([c,46]++Lib.decDigits k).toArray⟩
def zz(w:KX):Prop:=Lib.TabIs prog w "internal/strconv.uint64pow10" MJ Lib.pow10Tab
theorem Sl:prog.globalNamed "internal/strconv.uint64pow10"=IT 0:=by rfl
theorem zz.kept{w:KX}(h:zz w)(a:w'.heap[(0:Nat)]? = w.heap[(0:Nat)]?):zz w':=by grind [zz,Lib.TabIs,World.var?,Sl]
theorem zz.lt{w:KX}(h:zz w):0<w.heap.size:=by grind [zz,Lib.TabIs,World.var?,Sl]
def lN(w:KX)(o:ay)(gen:Nat):Prop:=gen<100\/(gen<=1048576/\zz w/\o 0=KK)
theorem lN.le{w:KX}{o:ay}{gen:Nat}(h:lN w o gen):gen<=1048576:=h.elim (λh=>af) (λh=>h.1)
theorem lN.below{w:KX}{o:ay}{gen:Nat}(h:lN w o gen)(c:Lg w w w'):lN w' o gen:=
 h.imp id λ⟨d,a,b⟩=>⟨d,a.kept (c.block _ a.lt),b⟩
theorem lN.moved{n f db gen:Nat}{w:KX}{o:ay}{d:Dsk}(h:lN w o gen)(c:Moved S n f db w o d w' o' d' L')(g:∀x,¬S x):lN w' o' gen:=
 h.imp id λ⟨e,a,b⟩=>⟨e,a.kept (c.block a.lt b (g _)),c.free a.lt b⟩
theorem AY:∀(n k:Nat),k<10^(n+1)->(Lib.decDigits k).all kX=Jd/\(Lib.decDigits k).length<=n+1:=by
 have a:∀j,j<10->kX (UInt8.ofNat (48+j))=true:=ag;intro n;induction n with
 |zero=>grind [Lib.decDigits]
 |succ n b=>grind [Lib.decDigits]
theorem CC(c:UInt8)(k:Nat)(f:k<100)(w:KX):K1 prog 43 #[c,k] w λe w'=>e=Mk (.string (aF c k))/\Lg w w w':=by
 have a:=ae (λW=>Any.strconv_Itoa_small (P:=prog) (ρ:=Tryz.itoa_ren) { Tryz.itoa with } k f W);have i:¬(k:Int)<0:=af;have h:(Lib.decDigits k).length<=2:=by grind [Lib.decDigits_one,Lib.decDigits_two]
 have g:Lk ((⟨#[c,46]⟩:ByteArray)++⟨(Lib.decDigits k).toArray⟩=aF c k):=ae (by rfl)
 have d:Sem.run prog (convert 46 9 (.slice w.heap.size 2 2)) (w.alloc (Mi #[c,Kx .u8 46] 5)).drew=.ok (.string ⟨#[c,46]⟩) (w.alloc (Mi #[c,Kx .u8 46] 5)).drew:=
  run_convert_bytes_back (P:=prog) _ 46 9 5 ⟨w.heap.size,0,KK⟩ 2 [c,46] Tryz.underlying46 Tryz.underlying5 Tryz.underlying9 (λj b=>by
   rw[br,j0];match j,b with
   |0,_=>simp
   |1,_=>simp)
 generalize Lib.decDigits k=l at *;go_enter func43,ntmps43;go_wp2;go_region_with (go_at_call 84;go_call(a.out _) as e w'⟨rfl,rfl⟩)
 all_goals
  go_wp2;go_ret;exact⟨by rw[<- g.out];rfl,aj.drew⟩
def CY(c:UInt8)(k:Nat)(a:List UInt8)(full:Name):Nat->J3->KX->Prop
 |0,v,_=>v=c
 |1,v,W=>∃g,v=.slice (IT ⟨g,0,KK⟩) 2 2/\W.cell? ⟨g,0,KK⟩=c/\W.cell? ⟨g,1,KK⟩=IT (Kx .u8 46)
 |2,v,_=>v=.string ⟨#[c,46]⟩
 |3,v,_=>v=k
 |4,v,_=>v=.string ⟨a.toArray⟩
 |_,v,_=>v=.string full
theorem Ey{c:UInt8}{k:Nat}{b:List UInt8}{full:Name}(i:Nat)(v:J3)(w w':KX)(a:Lg w w w')(h:CY c k b full i v w):CY c k b full i v w':=by
 match i,h with
 |0,h=>exact h
 |1,⟨g,h1,h2,h3⟩=>exact⟨g,h1,(a.cell (jK w _ h2)).trans h2,(a.cell (jK w _ h3)).trans h3⟩
 |2,h=>exact h
 |3,h=>exact h
 |4,h=>exact h
 |_+5,h=>exact h
theorem M8(w:KX)(k:Nat)(os:Array Obj):Lg w w (Go.Sort.grow (w.drewN k) os):=
 ⟨rfl,rfl,rfl,ai,λj a=>by show(w.heap++os)[j]? = w.heap[j]?;grind⟩
theorem CD(c:UInt8)(k:Nat)(Q:k<=1048576)(w:KX)(l:zz w):K1 prog 43 #[c,k] w λe w'=>e=Mk (.string (aF c k))/\Lg w w w':=by
 have p:Lk (∀W,Lg w w W->K1 prog 84 #[k] W λe w'=>∃v,e=Mk v/\Lg W W w'/\v=.string ⟨(Lib.decDigits k).toArray⟩):=ae (λW u=>by refine(Any.strconv_Itoa (P:=prog) (ρ:=Tryz.itoa_ren) { Tryz.itoa with } (k:Int) af af W (l.kept (u.block _ l.lt))).mono ?_;grind [Lib.itoa_nonneg,M8])
 have U:¬(k:Int)<0:=af;have x:Lk ((⟨#[c,46]⟩:ByteArray)++⟨(Lib.decDigits k).toArray⟩=aF c k):=ae (by rfl)
 have q:Lk (∀(W:KX)(g:Nat),W.cell? ⟨g,0,KK⟩=c->W.cell? ⟨g,1,KK⟩=IT (Kx .u8 46)->Sem.run prog (convert 46 9 (.slice (IT ⟨g,0,KK⟩) 2 2)) W=.ok (.string ⟨#[c,46]⟩) W):=ae (λW g s m=>
  run_convert_bytes_back (P:=prog) _ 46 9 5 ⟨g,0,KK⟩ 2 [c,46] Tryz.underlying46 Tryz.underlying5 Tryz.underlying9 (λj A=>by
   rw[br,j0];match j,A with
   |0,_=>exact s
   |1,_=>exact m))
 have T:(Lib.decDigits k).length<=7:=(AY 6 k af).2;clear l;generalize Lib.decDigits k=H at *;generalize aF c k=full at *;go_enter func43,ntmps43;go_wp2;refine uw (Lg w w) (CY c k H full) (by rfl) (by rfl) aq.drew (λJ L m B=>m.trans (B.mono m.size)) Ey ?_ ?_
 .intro i o b a W I d;match i,b with
  |0,b=>cases b;have s:=d.old 0 rfl rfl;refine bS (v:=c) (w':=W) ?_ aq rfl;go_simp
  |1,b=>cases b;obtain⟨M,N,rfl⟩:=d.get 0 rfl rfl rfl;refine bS (v:=.slice (IT ⟨W.heap.size,0,KK⟩) 2 2) (w':=W.alloc (Mi #[c,Kx .u8 46] 5)) ?_ aj ⟨W.heap.size,rfl,ai,ai⟩;go_simp
  |2,b=>cases b;obtain⟨R,V,g,rfl,E,c1⟩:=d.get 1 rfl rfl rfl;have K:=q.out W g E c1;refine bS (v:=.string ⟨#[c,46]⟩) (w':=W) ?_ aq rfl;go_simp
  |3,b=>cases b;have m:=d.old 1 rfl rfl;refine bS (v:=k) (w':=W) ?_ aq rfl;go_simp
  |4,b=>cases b;obtain⟨D,F,rfl⟩:=d.get 3 rfl rfl rfl;refine gC (f:=84) (args:=#[k]) ?_ (p.out W I);go_simp
  |5,b=>cases b;obtain⟨v9,S,rfl⟩:=d.get 2 rfl rfl rfl;obtain⟨C,z,rfl⟩:=d.get 4 rfl rfl rfl;refine bS (v:=.string full) (w':=W) ?_ aq rfl;rw[<- x.out];go_simp;omega
  |6,b=>cases b;obtain⟨y,O,rfl⟩:=d.get 5 rfl rfl rfl;refine bS (v:=.string full) (w':=W) ?_ aq rfl;go_simp
  |_+7,b=>cases b
 .intro n a W h t;have G:=ae h.cls;obtain⟨vs,r,l,rfl⟩:=Sk h t (by rfl) (by rfl);match vs,r with
  | [v0,v1,v2,v3,v4,v5,v6],_=>obtain rfl:=l 6 v6 rfl;clear l r t h;simp only[jt];go_simp;go_wp2;go_ret;exact⟨rfl,G.out⟩
theorem eP(c:UInt8)(k:Nat){w:KX}{o:ay}(h:lN w o k):K1 prog 43 #[c,k] w λe w'=>e=Mk (.string (aF c k))/\Lg w w w':=by
 rcases h with h |⟨b,a,_⟩
 .exact CC c k h w
 .exact CD c k b w a
theorem uz(k:Nat)(a:k<=1048576)(w:KX):K1 prog 41 #[k] w λe w'=>e=Mk (.bool Jd)/\w=w':=by
 have c:(k:Int)<=1048576:=af;have b:(k:Int) >= 0:=af;go_enter func41,ntmps41;go_wp2;go_ret;simp
def cH(vs:List bZ)(fl:Bool):jV:=.inl (bf (fw 12) (vs.map bZ.bytes),fl)
theorem qj(vs:List bZ):iA 12 (vs.map bZ.bytes):=λr a=>by obtain⟨e,_,rfl⟩:=gl.1 a;exact e.fE
theorem iR(vs:List bZ)(fl:Bool):(cH vs fl).need<=4*vs.length:=by
 unfold cH jV.need;dsimp only;rw[dG,dj];have:cN (fw 12) vs.length<=vs.length:=by
  unfold cN;have a:fw 12=20:=ag;rw[a];omega
 omega
def gW(w:KX)(v:J3)(vs:List bZ):Prop:=
 ∃a cap,v=.slice a vs.length cap/\vs.length<=cap/\cap<=maxLen/\(vs.length=0\/∃b c,a=IT ⟨b,c,KK⟩/\∀i(h:i<vs.length),w.cell? ⟨b,c+i*3,KK⟩=IT (Kx Mo (vs[i].r.toNat:Int))/\w.cell? ⟨b,c+i*3+1,KK⟩=IT (Kx Mo (vs[i].l.toNat:Int))/\w.cell? ⟨b,c+i*3+2,KK⟩=IT (Kx Mo (vs[i].g.toNat:Int)))
theorem ly(c:UInt8)(b:kX c=Jd){k:Nat}(h:k<=1048576):b6 (aF c k)=true:=by
 obtain⟨d,e⟩:=AY 6 k af;unfold b6 aF;have a:(ByteArray.mk ([c,46]++Lib.decDigits k).toArray).size=2+(Lib.decDigits k).length:=by show Array.size _=_;simp;omega
 rw[a];simp only[DD,List.nil_append,List.all_cons,d,b,j4,decide_eq_true_eq];refine⟨⟨⟨trivial,ag,trivial⟩,af⟩,af⟩
theorem vp(c:UInt8)(a:c≠116)(k:Nat):ownName (aF c k)=false:=by unfold ownName aF af7 Lib.hasPrefix;simp[List.isPrefixOf];intro h;exact absurd h.symm a
theorem iI{c a:UInt8}(e:c≠a)(k d:Nat):aF c k≠aF a d:=by unfold aF;intro h;have b:=congrArg (λx:ByteArray=>x.data.toList) h;simp only[DD,List.cons.injEq]at b;exact e b.1
theorem bF(c:UInt8)(b:c≠116)(k j:Nat):aF c k≠eu j:=λe=>by have a:=vp c b k;rw[e,AV]at a;cases a
noncomputable def iJ(L:aL)(gen:Nat)(es:List aJ)(vs:List bZ):aL:=
 aX (aX (aX L (aF 101 gen) (az (aH J0 es) Jd)) (aF 114 gen) (az (aH Jd es) Jd)) (aF 118 gen) (cH vs Jd)
def J7(gen:Nat)(x:Name):Prop:=x=aF 101 gen\/x=aF 114 gen\/x=aF 118 gen\/∃k,k<128/\x=eu k
def Ym(n a db:Nat)(w:KX)(o:ay)(d:Dsk)(L:aL)(gen:Nat)(es:List aJ)(vs:List bZ)(e:Lp)(w':KX):Prop:=
 ∃c d' o' L',e=Mk (Kx Mm ((c:Nat):Int))/\Moved (λ_=>False) n a db w o d w' o' d' L'/\(∀x,¬J7 gen x->aI L' x=aI L x)/\((c=0/\L'=iJ L gen es vs)\/lM d d' (need L+20*es.length+4*vs.length) c)
section
variable {w:KX}{pb db n:Nat}{o:ay}{d:Dsk}{L:aL}
theorem wH(HW:aV)(CB:eW m)(h:aU w pb db n o d L)(hn:8<=n){g:Name}{gen:Nat}(N:lN w o gen)(B:aI L g=IT (az es fl))(zA:ownName g=J0)(hm:es.length<=m)(he:aI L (aF 101 gen)=KK)(E:aI L (aF 114 gen)=KK)(hv:aI L (aF 118 gen)=KK)(F9:∀k,aI L (eu k)=KK){v:J3}{vs:List bZ}(ce:gW w v vs)(pD:∀x,v.ownBlock=IT x->o x=KK)(ks:vs.length<65535):K1 prog 19 #[ptrTo pb,.string g,gen,v] w (Ym n pb db w o d L gen es vs):=by
 have T8:g≠aF 101 gen:=λe=>by rw[e,he]at B;cases B
 have sB:g≠aF 114 gen:=λe=>by rw[e,E]at B;cases B
 have P7:=ae (uz gen N.le);have i7:=ae (λW o'(f:lN W o' gen)=>eP 101 gen f);have dl:=ae (λW o'(f:lN W o' gen)=>eP 114 gen f);have i6:=ae (λW o'(f:lN W o' gen)=>eP 118 gen f);have dq:Lk (∀W o' d',aU W pb db n o' d' L->K1 prog 42 #[ptrTo pb,.string g,.string (aF 101 gen),Kx Mm 0] W (rL (λ_=>False) n pb db W o' d' L (aF 101 gen) (aH J0 es) es.length)):=ae (λW o' d' f=>Io (by':=J0) HW CB f hn B T8 zA (vp 101 ag gen) (ly 101 ag N.le) he F9 hm)
 obtain⟨q,s⟩:=ac (aX L (aF 101 gen) (az (aH J0 es) Jd));have al:aI q g=IT (az es fl):=by rw[s,aC,if_neg T8,B]
 have Q:aI q (aF 114 gen)=none:=by rw[s,aC,if_neg (iI ag _ _),E]
 have am:∀k,aI q (eu k)=none:=λk=>by rw[s,aC,if_neg (λe=>bF 101 ag gen k e.symm),F9]
 have gt:Lk (∀W o' d',aU W pb db n o' d' q->K1 prog 42 #[ptrTo pb,.string g,.string (aF 114 gen),Kx Mm 1] W (rL (λ_=>False) n pb db W o' d' q (aF 114 gen) (aH Jd es) es.length)):=ae (λW o' d' f=>Io (by':=Jd) HW CB f hn al sB zA (vp 114 ag gen) (ly 114 ag N.le) Q am hm)
 obtain⟨a,l⟩:=ac (aX q (aF 114 gen) (az (aH Jd es) Jd));have U:aI a (aF 118 gen)=none:=by rw[l,aC,if_neg (iI ag _ _),s,aC,if_neg (iI ag _ _),hv]
 have u:=ly 118 ag N.le;have P8:=ae N;have tK:Lk (∀W o' d',aU W pb db n o' d' a->K1 prog 36 #[ptrTo pb,.string (aF 118 gen)] W (iC n pb db W o' d' a (aF 118 gen))):=ae (λW o' d' f=>mP f _ (bO u));have rI:Lk (∀d':Dsk,dK d' a (aF 118 gen)=if d'.tick.dead=Jd then 6 else 0):=ae (λd'=>by unfold dK;rw[u,U];rfl)
 have tA:Lk (∀W o' d' L',aU W pb db n o' d' L'->K1 prog 37 #[ptrTo pb,.string (aF 118 gen),Kx Mm 12] W (eT W pb (aF 118 gen) 12 (dw d' (aF 118 gen)))):=ae (λW o' d' L' f=>eU (sz:=12) f _ (bO u) ag ag);have kQ:Lk (∀W o' d' sb rs,aU W pb db n o' d' (aX a (aF 118 gen) (cH rs J0))->aM W sb pb (aF 118 gen) 12->o' sb=KK->rs.length<65535->∀z(x:bZ),Rd W z x.bytes->(∀b,z.ownBlock=IT b->o' b=KK) ->
  Calls prog 38 #[ptrTo sb,z] W (ll (λ_=>False) n pb db W o' d' (aX a (aF 118 gen) (cH rs J0)) (aX a (aF 118 gen) (cH (rs++[x]) J0)))):=ae (λW o' d' sb rs f J j5 hl z x E A=>by
  have:=mH HW f J j5 ag ag (by rw[aC,if_pos rfl];rfl) (qj rs) (by rw[dj];exact hl) E x.fE A;rw[kI]at this;unfold cH at this ⊢;rw[k8];exact this)
 have RR:Lk (∀W o' d',aU W pb db n o' d' (aX a (aF 118 gen) (cH vs J0))->K1 prog 45 #[ptrTo pb,.string (aF 118 gen)] W (ll (λ_=>False) n pb db W o' d' (aX a (aF 118 gen) (cH vs J0)) (aX a (aF 118 gen) (cH vs Jd)))):=ae (λW o' d' f=>by have:=sH HW f (name:=aF 118 gen) (ps:=bf (fw 12) (vs.map bZ.bytes)) (fl:=J0) (by rw[aC,if_pos rfl];rfl);rw[kI]at this;exact this)
 have gE:Lk ((q.map (·.1)).Nodup):=ae (by rw[s];exact cK h.keys);have S:Lk ((a.map (·.1)).Nodup):=ae (by rw[l,s];exact cK (cK h.keys));have Cm:Lk (need q<=need L+4*es.length):=ae (by have h1:=dm L (aF 101 gen) (az (aH J0 es) Jd);have h2:=dz (aH J0 es) Jd;have h3:=cq J0 es;rw[s];omega)
 have FR:Lk (∀rs:List bZ,rs.length<=vs.length->need (aX a (aF 118 gen) (cH rs J0))<=need L+20*es.length+4*vs.length):=ae (λrs li=>by have h1:=dm q (aF 114 gen) (az (aH Jd es) Jd);have h2:=dz (aH Jd es) Jd;have h3:=cq Jd es;have h4:=dm a (aF 118 gen) (cH rs J0);have h5:=iR rs J0;have h6:=Cm.out;rw[<- l]at h1;omega)
 have D7:Lk (∀x,¬J7 gen x->aI q x=aI L x):=ae (λx c=>by rw[s,aC,if_neg (λe=>c (.inl e))]);have tq:Lk (∀x,¬J7 gen x->aI a x=aI L x):=ae (λx c=>by rw[l,aC,if_neg (λe=>c (.inr (.inl e))),D7.out x c]);have GQ:Lk (iJ L gen es vs=aX a (aF 118 gen) (cH vs Jd)):=ae (by unfold iJ;rw[l,s]);have pW:Lk (∀x,¬J7 gen x->¬jN (aF 101 gen) x/\¬jN (aF 114 gen) x/\x≠aF 118 gen):=ae (λx c=>⟨λe=>c (e.imp id (λh=>.inr (.inr h))),λe=>c (.inr (e.imp id .inr)),λe=>c (.inr (.inr (.inl e)))⟩);have gx:Lk (∀x,aI q x=aI (aX L (aF 101 gen) (az (aH J0 es) Jd)) x):=ae (λx=>by rw[s]);have io:Lk (∀x,aI a x=aI (aX q (aF 114 gen) (az (aH Jd es) Jd)) x):=ae (λx=>by rw[l]);have H:=ae h;have de:=ae ce;have Ay:=ae pD;obtain⟨va,vc,rfl,kd,iS,-⟩:=ce;unfold maxLen at iS;have ff:Lk (∀(x:bZ)W,K1 prog 44 #[LV #[Kx Mo (x.r.toNat:Int),Kx Mo (x.l.toNat:Int),Kx Mo (x.g.toNat:Int)]] W (jR W x.bytes)):=ae (λx W=>JB x W);clear h N B zA hm he E hv F9 pD T8 sB al Q am U u s l;unfold ptrTo at *;generalize aF 101 gen=nE at *;generalize aF 114 gen=nR at *;generalize aF 118 gen=p at *;go_enter func19,ntmps19;go_wp2_with fail;go_call(P7.out _) as e w'⟨rfl,rfl⟩;go_wp2_with fail;go_call(i7.out _ o P8.out) as e w1⟨rfl,hb1⟩;have cD:=ae hb1;clear hb1;go_wp2_with fail;go_call(dq.out w1 o d (H.out.below cD.out)) as e w2⟨c2,d2,o2,L2',rfl,dA,ake,hc2⟩;have fV:=ae ((Moved.aZ H.out cD.out).trans dA (λ_ _ h=>h));have T4:=ae ake;clear dA ake;rcases hc2 with⟨rfl,co⟩| vX
 .have Pu:Lk (Moved (λ_=>False) n pb db w o d w2 o2 d2 q):=ae (fV.out.congr gE.out (λx=>(gx.out x).trans (co x).symm));clear co fV T4;go_wp2_with fail;go_call(dl.out _ o2 (P8.out.moved Pu.out (λ_ h=>h))) as e w3⟨rfl,hb3⟩;have fH:=ae (Pu.out.below hb3);clear hb3;go_wp2_with fail;go_call(gt.out w3 o2 d2 fH.out.bh) as e w4⟨c4,d4,o4,L4',rfl,fZ,GM,je⟩;have jg:=ae (fH.out.trans fZ (λ_ _ h=>h));have T5:=ae GM;clear fZ GM;rcases je with⟨rfl,Y⟩| Cq
  .have aE:Lk (Moved (λ_=>False) n pb db w o d w4 o4 d4 a):=ae (jg.out.congr S.out (λx=>(io.out x).trans (Y x).symm));clear Y jg T5;go_wp2_with fail;go_call(i6.out _ o4 (P8.out.moved aE.out (λ_ h=>h))) as e w5⟨rfl,kR⟩;have oy:=ae (aE.out.below kR);clear kR;have j:=ae (tK.out w5 o4 d4 oy.out.bh);unfold iC at j;rw[rI.out d4]at j;cases X:d4.tick.dead with
   |true=>rw[X,if_pos rfl]at j;have OP:=ae X;clear X;go_wp2_with fail;go_call j.out as e w6⟨d6,o6,rfl,q9,-,hdd⟩;rw[if_neg ag]at q9;have BZ:=ae (oy.out.trans q9 (λ_ _ h=>h));have yw:=ae (hdd (by first | exact OP.out | trivial));clear q9 hdd j;go_wp2;go_ret;exact⟨6,d6,o6,a,rfl,BZ.out,tq.out,.inr (.inr ⟨rfl,yw.out⟩)⟩
   |false=>
     rw[X,if_neg ai]at j;clear X;go_wp2_with fail;go_call j.out as e w6⟨d6,o6,rfl,q9,akg,-⟩;simp only[if_true]at q9;have jM:aI (aX a p (.inl (([]:List Pg),Jd))) p=IT (.inl (([]:List Pg),Jd)):=by rw[aC,if_pos rfl]
     have Pm:dw d6 p=0:=by rw[jH q9.bh jM,akg (by trivial)];rfl
     have X6:Moved (λ_=>False) n pb db w5 o4 d4 w6 o6 d6 (aX a p (cH [] J0)):=
      ⟨(q9.bh.weaken jM).congr (cK S.out) (λx=>by
        show aI (aX a p (.inl (([]:List Pg),J0))) x=_;rw[aC,aC,aC];by_cases e:x=p
        .rw[if_pos e,if_pos e]
        .rw[if_neg e,if_neg e,if_neg e]),q9.turn,q9.grow,q9.on⟩
     have BZ:=ae (oy.out.trans X6 (λ_ _ h=>h));have C:=ae (tA.out w6 o6 d6 _ q9.bh);rw[Pm]at C;have du:=ae (λx(c:w6.heap.size<=x)=>q9.bh.fresh c);clear q9 X6 akg Pm jM j;go_wp2_with fail;go_call C.out as e w7⟨v7,rfl,xH,T9,-⟩;obtain⟨sb,rfl,Yn,zi⟩:=T9 rfl;have FU:=ae (BZ.out.below xH);have Ya:=ae Yn;have ee:Lk (o6 sb=KK):=ae (du.out _ zi);clear xH Yn T9 C;unfold ptrTo;generalize hV:vs.length=V at *;have T:=ae hV;clear hV;go_wp2;go_loopw [60] (λi wr=>∃(k:Nat)(d':Dsk)(o':ay),k<=V/\i=Kx Mm (k:Int)/\Moved (λ_=>False) n pb db w o d wr o' d' (aX a p (cH (vs.take k) J0))/\aM wr sb pb p 12/\o' sb=KK) (λi _=>V-(Lo i).toNat)
     case atStart=>exact⟨0,d6,o6,em _,rfl,by simpa using FU.out,Ya.out,ee.out⟩
     case round=>
      obtain⟨k,d8,K,hk,rfl,O,t,D⟩:=hrel;have M:=ae O;have fI:=ae t;have G:=ae D;have kw:=t.lt;by_cases jj:k<V
      .have Z:k<vs.length:=by rw[T.out];exact jj
       obtain⟨a',c',BM,-,-,r⟩:=de.out;cases BM;obtain r |⟨b,ld,rfl,r⟩:=r
       .omega
       obtain⟨g0,g1,g2⟩:=r k Z;have e0:=O.cell g0 (Ay.out b rfl) (λh=>h);have e1:=O.cell g1 (Ay.out b rfl) (λh=>h);have e2:=O.cell g2 (Ay.out b rfl) (λh=>h);have kl:b<wr.heap.size:=jK _ _ e0;have nT:Lk (vs.take k++[vs[k]]=vs.take (k+1)):=ae (by rw[fh Z]);have De:(vs.take k).length<65535:=by rw[et,T.out];omega
       have Yo:=ae (λW=>ff.out vs[k] W);have Yp:=ae (λW z(f:aU W pb db n K d8 (aX a p (cH (vs.take k) J0)))(J:aM W sb pb p 12)(E:Rd W z vs[k].bytes)(A:∀b,z.ownBlock=IT b->K b=KK)=>kQ.out W K d8 sb (vs.take k) f J G.out De z vs[k] E A);have nB:Lk (∀ob:Obj,Moved (λ_=>False) n pb db w o d (wr.alloc ob) K d8 (aX a p (cH (vs.take k) J0))):=ae (λob=>M.out.alloc ob);have i8:Lk ((vs.take k).length<=vs.length):=ae (by rw[et];omega);clear g0 g1 g2 r O t D;generalize vs[k]=y at *;go_wp2_with fail;go_call(Yo.out _) as e w9⟨v9,rfl,ho9,J8⟩;have P:=ae ((nB.out _).below J8);have F:aM w9 sb pb p 12:=(fI.out.below aj).below J8;have R:∀b,v9.ownBlock=IT b->K b=none:=λb hb=>M.out.bh.fresh (cp ai (aD ho9 b hb));have I:=ae (Yp.out w9 v9 P.out.bh F (fp ho9) R);have ci:=ae F;clear ho9 J8 F R e0 e1 e2 Yp Yo;go_wp2_with fail;go_call I.out as e VP⟨c10,d10,o10,rfl,Ez,agl⟩;have el:Lk (aM VP sb pb p 12):=ae (ci.out.moved Ez G.out (λh=>h));have en:Lk (o10 sb=KK):=ae (Ez.free ci.out.lt G.out);by_cases hc:c10=0
       .subst hc;rw[if_pos rfl,nT.out]at Ez;have Yq:=ae (P.out.trans Ez (λ_ _ h=>h));clear Ez agl I;go_wp2;go_roundw
        case rel=>exact⟨k+1,d10,o10,af,by go_num,Yq.out,el.out,en.out⟩
        case measure=>simp[Lo];omega
       .have ke:¬(c10:Int)=0:=af;rw[if_neg hc]at Ez;have Yq:=ae (P.out.trans Ez (λ_ _ h=>h));have fm:Lk (lM d d10 (need L+20*es.length+4*vs.length) c10):=ae (((agl.resolve_left hc).num (FR.out (vs.take k) i8.out)).later P.out.on.bU);clear Ez agl I hc;go_wp2;go_ret;exact⟨c10,d10,o10,_,rfl,Yq.out,λx c=>by rw[aC,if_neg (pW.out x c).2.2,tq.out x c],.inr fm.out⟩
      .have bd:vs.take k=vs:=ey (by rw[T.out];omega);rw[bd]at M;have Mj:=ae (RR.out wr K d8 M.out.bh);clear bd O t D;go_wp2_with fail;go_call Mj.out as e w9⟨c9,d9,o9,rfl,hm9,he9⟩;have P:=ae (M.out.trans hm9 (λ_ _ h=>h));have eS:=ae he9;clear hm9 he9 Mj;go_wp2;go_ret;refine⟨c9,d9,o9,_,rfl,P.out,λx c=>?_,?_⟩
       .split
        .rw[aC,if_neg (pW.out x c).2.2,tq.out x c]
        .rw[aC,if_neg (pW.out x c).2.2,tq.out x c]
       .rcases eS.out with h | h
        .subst h;exact .inl ⟨rfl,by rw[if_pos rfl];exact GQ.out.symm⟩
        .exact .inr (by rw[T.out];exact(h.num (FR.out vs (by rw[T.out];exact cg _))).later M.out.on.bU)
  .have y5:¬(c4:Int)=0:=Nm Cq.ne;have zZ:Lk (lM d d4 (need L+20*es.length+4*vs.length) c4):=ae ((Cq.mono (Nm Cm.out)).later fH.out.on.bU);clear Cq;go_wp2;go_ret;exact⟨c4,d4,o4,L4',rfl,jg.out,λx c=>(T5.out x (pW.out x c).2.1).trans (D7.out x c),.inr zZ.out⟩
 .have PN:¬(c2:Int)=0:=Nm vX.ne;have AE:Lk (lM d d2 (need L+20*es.length+4*vs.length) c2):=ae (vX.mono af);clear vX;go_wp2;go_ret;exact⟨c2,d2,o2,L2',rfl,fV.out,λx c=>T4.out x (pW.out x c).1,.inr AE.out⟩
end
def cw(w:KX)(e:Nat)(d b a c:J3):Prop:=∃t,w.heap[e]? = IT (Mi #[d,b,a,c] t)
section
variable {w:KX}{pb db n gb:Nat}{o:ay}{d:Dsk}{L:aL}{e f g i:J3}
theorem cw.kept(h:cw w gb e f g i)(a:w'.heap[gb]? = w.heap[gb]?):cw w' gb e f g i:=by obtain⟨t,h⟩:=h;exact⟨t,a.trans h⟩
theorem cw.lt(h:cw w gb e f g i):gb<w.heap.size:=by obtain⟨t,h⟩:=h;exact(ds.1 h).1
theorem cw.below(h:cw w gb e f g i)(a:Lg w w w'):cw w' gb e f g i:=h.kept (a.block _ h.lt)
theorem cw.moved(h:cw w gb e f g i)(c:Moved S n pb db w o d w' o' d' L')(a:o gb=KK)(b:¬S gb):cw w' gb e f g i:=h.kept (c.block h.lt a b)
theorem cw.cells(h:cw w gb e f g i):w.cell? gb=IT e/\w.cell? ⟨gb,1,KK⟩=IT f/\w.cell? ⟨gb,2,KK⟩=IT g/\w.cell? ⟨gb,3,KK⟩=IT i/\∀j,w.frozen? ⟨gb,j,KK⟩=false:=by obtain⟨t,h⟩:=h;refine⟨?_,?_,?_,?_,λj=>aO h j⟩<;>rw[au h]<;>rfl
theorem cw.aqx(h:cw w gb e f g i)(v:J3):cw (w.setCell gb v) gb v f g i:=by obtain⟨t,h⟩:=h;exact⟨t,aS h 0 v⟩
theorem cw.aqy(h:cw w gb e f g i)(v:J3):cw (w.setCell ⟨gb,1,KK⟩ v) gb e v g i:=by obtain⟨t,h⟩:=h;exact⟨t,aS h 1 v⟩
theorem cw.aqz(h:cw w gb e f g i)(v:J3):cw (w.setCell ⟨gb,2,KK⟩ v) gb e f v i:=by obtain⟨t,h⟩:=h;exact⟨t,aS h 2 v⟩
theorem cw.aqA(h:cw w gb e f g i)(v:J3):cw (w.setCell ⟨gb,3,KK⟩ v) gb e f g v:=by obtain⟨t,h⟩:=h;exact⟨t,aS h 3 v⟩
structure eF(w:KX)(o:ay)(gb pb gen N:Nat)(ob ib vb:Nat):Prop where
 raw:cw w gb (ptrTo ob) (ptrTo ib) (ptrTo vb) N
 out:aM w ob pb (aF 101 gen) 20
 vH:aM w ib pb (aF 114 gen) 20
 wR:aM w vb pb (aF 118 gen) 12
 ogb:o gb=KK
 Yr:o ob=KK
 oib:o ib=KK
 P9:o vb=KK
theorem eF.moved{gen N c b e:Nat}(h:eF w o gb pb gen N c b e)(a:Moved (λ_=>False) n pb db w o d w' o' d' L'):eF w' o' gb pb gen N c b e:=
 ⟨h.raw.moved a h.ogb (λh=>h),h.out.moved a h.Yr (λh=>h),h.vH.moved a h.oib (λh=>h),h.wR.moved a h.P9 (λh=>h),a.free h.raw.lt h.ogb,a.free h.out.lt h.Yr,a.free h.vH.lt h.oib,a.free h.wR.lt h.P9⟩
theorem aM.oY{c sz b j:Nat}{v:J3}(h:aM w c pb name sz)(a:c≠b):aM (w.setCell ⟨b,j,KK⟩ v) c pb name sz:=h.kept (e8 _ _ _ _ a)
def wU(n a db:Nat)(w:KX)(o:ay)(d:Dsk)(L:aL)(gen N:Nat)(e:Lp)(w':KX):Prop:=
 ∃v c d' o',e=Mk (Ly #[v,Kx Mm ((c:Nat):Int)])/\Moved (λ_=>False) n a db w o d w' o' d' L/\(c=0\/om d d' L c)/\(c=0->∃gb ob ib vb,v=ptrTo gb/\eF w' o' gb a gen N ob ib vb)/\(c≠0->v=.pointer KK)
theorem xS(h:aU w pb db n o d L){ps:List Pg}(b:aI L name=IT (.inl (ps,fl))){c:Nat}(a:dw d name=c)(e:c≠0):c=6/\d.dead=true:=by
 rw[jH h b]at a;split at a
 .exact⟨a.symm,Nd⟩
 .exact absurd a.symm e
theorem GR(HW:aV)(h:aU w pb db n o d L){gen:Nat}(hg:lN w o gen){vs:List bZ}{ac io:List aJ}{gx ld fm:Bool}(S:aI L (aF 118 gen)=IT (cH vs gx))(he:aI L (aF 101 gen)=IT (az ac ld))(hr:aI L (aF 114 gen)=IT (az io fm)):K1 prog 22 #[ptrTo pb,gen] w (wU n pb db w o d L gen vs.length):=by
 have P7:=ae (uz gen hg.le);have kd:=ae (λW o'(b:lN W o' gen)=>eP 101 gen b);have al:=ae (λW o'(b:lN W o' gen)=>eP 114 gen b);have i7:=ae (λW o'(b:lN W o' gen)=>eP 118 gen b);have X:Lk (∀W o' d',aU W pb db n o' d' L->K1 prog 37 #[ptrTo pb,.string (aF 118 gen),Kx Mm 12] W (eT W pb (aF 118 gen) 12 (dw d' (aF 118 gen)))/\∀c,dw d' (aF 118 gen)=c->c≠0->c=6/\d'.dead=Jd):=ae (λW o' d' b=>⟨eU (sz:=12) b _ (bO (h.ok S)) ag ag,λc r I=>xS b S r I⟩);have i8:Lk (∀W o' d',aU W pb db n o' d' L->K1 prog 37 #[ptrTo pb,.string (aF 101 gen),Kx Mm 20] W (eT W pb (aF 101 gen) 20 (dw d' (aF 101 gen)))/\∀c,dw d' (aF 101 gen)=c->c≠0->c=6/\d'.dead=Jd):=ae (λW o' d' b=>⟨eU (sz:=20) b _ (bO (h.ok he)) ag ag,λc r I=>xS b he r I⟩);have kl:Lk (∀W o' d',aU W pb db n o' d' L->K1 prog 37 #[ptrTo pb,.string (aF 114 gen),Kx Mm 20] W (eT W pb (aF 114 gen) 20 (dw d' (aF 114 gen)))/\∀c,dw d' (aF 114 gen)=c->c≠0->c=6/\d'.dead=Jd):=ae (λW o' d' b=>⟨eU (sz:=20) b _ (bO (h.ok hr)) ag ag,λc r I=>xS b hr r I⟩);have t:Lk (∀W o' d' sb,aU W pb db n o' d' L->aM W sb pb (aF 118 gen) 12->o' sb=KK->K1 prog 54 #[ptrTo sb] W (Ia n pb db W o' d' L (Ib vs.length))):=ae (λW o' d' sb b ks j5=>by have:=mG HW b ks j5 ag ag S (qj vs);rw[dj]at this;exact this)
 have H:=ae h;have P8:=ae hg;clear h hg S he hr;unfold ptrTo at *;generalize vs.length=N at *;go_enter func22,ntmps22;go_wp2_with fail;go_call(P7.out _) as e w'⟨rfl,rfl⟩;have Lf:Lk (cw (w.alloc (Mi #[.pointer KK,.pointer KK,.pointer KK,Kx Mm 0] 130)) w.heap.size (.pointer KK) (.pointer KK) (.pointer KK) (Kx Mm 0)):=ae ⟨_,Lw w _⟩;have Z:Lk (Lg w w (w.alloc (Mi #[.pointer KK,.pointer KK,.pointer KK,Kx Mm 0] 130))):=ae aj;have k:Lk (o w.heap.size=KK):=ae (H.out.fresh (cg _));go_wp2_with fail;generalize w.alloc (Mi #[.pointer KK,.pointer KK,.pointer KK,Kx Mm 0] 130)=W0 at *;go_call(i7.out _ o (P8.out.below Z.out)) as e w1⟨rfl,hb1⟩;have K9:=ae (Lf.out.below hb1);have cD:Lk (Lg w w w1):=ae (Z.out.trans (hb1.mono Z.out.size));clear hb1;go_wp2_with fail;obtain⟨B,u⟩:=X.out w1 o d (H.out.below cD.out);have gt:=ae B;have fI:=ae u;clear B u;generalize mF:dw d (aF 118 gen)=c2 at *;have rD:=ae mF;clear mF;go_call gt.out as e w2⟨v2,rfl,hb2,lp,Ys⟩;have FK:=ae (K9.out.below hb2);have cA:Lk (Lg w w w2):=ae (cD.out.trans (hb2.mono cD.out.size));have mh:w.heap.size<w1.heap.size:=K9.out.lt;have Pu:Lk (∀v,Moved (λ_=>False) n pb db w o d (w2.setCell ⟨w.heap.size,2,KK⟩ v) o d L):=ae (λv=>(Moved.aZ H.out cA.out).setCell _ _ k.out (.inr (cg _)));clear hb2;obtain⟨g0,p,m,q,f⟩:=FK.out.cells;have iS:=f 2;clear f;by_cases g:c2=0
 .subst g;obtain⟨vb,rfl,rJ,lw⟩:=lp rfl;have U:vb≠w.heap.size:=af;have CR:Lk (aM (w2.setCell ⟨w.heap.size,2,KK⟩ (.pointer vb)) vb pb (aF 118 gen) 12):=ae (rJ.oY U);have D:Lk (cw (w2.setCell ⟨w.heap.size,2,KK⟩ (.pointer vb)) w.heap.size (.pointer KK) (.pointer KK) (.pointer vb) (Kx Mm 0)):=ae (FK.out.aqz _);have fH:=ae (Pu.out (.pointer vb));have l:Lk (o vb=KK):=ae (H.out.fresh af);clear lp Ys rJ;unfold ptrTo;go_wp2_with fail;generalize w2.setCell ⟨w.heap.size,2,KK⟩ (.pointer vb)=w3 at *;have yM:=ae (t.out w3 o d vb fH.out.bh CR.out l.out);go_call yM.out as e w4⟨c4,d4,o4,⟨x4,rfl,hx4⟩,fZ,Cq⟩;have qZ:=ae hx4;have zZ:=ae Cq;have jg:=ae (fH.out.trans fZ (λ_ _ h=>h));have H7:=ae (D.out.moved fZ k.out (λh=>h));have PB:=ae (CR.out.moved fZ l.out (λh=>h));have i:Lk (o4 w.heap.size=KK):=ae (fZ.free D.out.lt k.out);have co:Lk (o4 vb=KK):=ae (fZ.free CR.out.lt l.out);clear fZ Cq hx4 yM g0 p m q iS;obtain⟨g0,p,m,q,f⟩:=H7.out.cells;have ke:=f 3;clear f;have oy:Lk (Moved (λ_=>False) n pb db w o d (w4.setCell ⟨w.heap.size,3,KK⟩ x4) o4 d4 L):=ae (jg.out.setCell _ _ i.out (.inr (cg _)));have ee:Lk (cw (w4.setCell ⟨w.heap.size,3,KK⟩ x4) w.heap.size (.pointer KK) (.pointer KK) (.pointer vb) x4):=ae (H7.out.aqA _);have OT:Lk (aM (w4.setCell ⟨w.heap.size,3,KK⟩ x4) vb pb (aF 118 gen) 12):=ae (PB.out.oY U);by_cases R:c4=0
  .subst R;have HX:=ae (qZ.out rfl);go_wp2_with fail;generalize w4.setCell ⟨w.heap.size,3,KK⟩ x4=w5 at *;clear g0 p m q ke;go_call(kd.out _ o4 (P8.out.moved oy.out (λ_ h=>h))) as e w6⟨rfl,Cr⟩;have BZ:=ae (oy.out.below Cr);have K:=ae (ee.out.below Cr);have bd:=ae (OT.out.below Cr);clear Cr;go_wp2_with fail;obtain⟨y,s⟩:=i8.out w6 o4 d4 BZ.out.bh;have li:=ae y;have OX:=ae s;clear y s;generalize eS:dw d4 (aF 101 gen)=c7 at *;clear eS;go_call li.out as e w7⟨v7,rfl,xH,T9,Yt⟩;have FU:=ae (BZ.out.below xH);have x:=ae (K.out.below xH);have gE:=ae (bd.out.below xH);have me:w.heap.size<w6.heap.size:=K.out.lt;clear xH;obtain⟨g0,p,m,q,f⟩:=x.out.cells;have am:=f 0;clear f;have P:Lk (∀v,Moved (λ_=>False) n pb db w o d (w7.setCell w.heap.size v) o4 d4 L):=ae (λv=>FU.out.setCell _ _ i.out (.inr (cg _)));by_cases V:c7=0
   .subst V;obtain⟨ob,rfl,Yn,GJ⟩:=T9 rfl;have J:ob≠w.heap.size:=af;have ce:Lk (aM (w7.setCell w.heap.size (.pointer ob)) ob pb (aF 101 gen) 20):=ae (Yn.oY J);have ci:Lk (aM (w7.setCell w.heap.size (.pointer ob)) vb pb (aF 118 gen) 12):=ae (gE.out.oY U);have el:Lk (cw (w7.setCell w.heap.size (.pointer ob)) w.heap.size (.pointer ob) (.pointer KK) (.pointer vb) x4):=ae (x.out.aqx _);have vR:=ae (P.out (.pointer ob));have XZ:Lk (o4 ob=KK):=ae (BZ.out.bh.fresh GJ);clear T9 Yt Yn;unfold ptrTo;go_wp2_with fail;generalize w7.setCell w.heap.size (.pointer ob)=w8 at *;clear g0 p m q am;go_call(al.out _ o4 (P8.out.moved vR.out (λ_ h=>h))) as e w9⟨rfl,J8⟩;have Sm:=ae (vR.out.below J8);have G:=ae (el.out.below J8);have aE:=ae (ci.out.below J8);have du:=ae (ce.out.below J8);clear J8;go_wp2_with fail;obtain⟨A,F⟩:=kl.out w9 o4 d4 Sm.out.bh;have dq:=ae A;have ff:=ae F;clear A F;generalize de:dw d4 (aF 114 gen)=E at *;clear de;go_call dq.out as e VP⟨v10,rfl,M9,Yu,Qa⟩;have Yq:=ae (Sm.out.below M9);have Q:=ae (G.out.below M9);have en:=ae (aE.out.below M9);have i6:=ae (du.out.below M9);have lE:w.heap.size<w9.heap.size:=G.out.lt;clear M9;obtain⟨g0,p,m,q,f⟩:=Q.out.cells;have lP:=f 1;clear f;have z:Lk (∀v,Moved (λ_=>False) n pb db w o d (VP.setCell ⟨w.heap.size,1,KK⟩ v) o4 d4 L):=ae (λv=>Yq.out.setCell _ _ i.out (.inr (cg _)));by_cases T:E=0
    .subst T;obtain⟨ib,rfl,M,jj⟩:=Yu rfl;have Y:ib≠w.heap.size:=af;have dl:=ae (M.oY (j:=1) (v:=.pointer ib) Y);have kw:Lk (o4 ib=KK):=ae (Sm.out.bh.fresh jj);clear Yu Qa M;unfold ptrTo;go_wp2;go_ret2;refine⟨_,0,d4,o4,rfl,z.out _,.inl rfl,λ_=>⟨w.heap.size,ob,ib,vb,rfl,⟨?_,i6.out.oY J,dl.out,en.out.oY U,i.out,XZ.out,kw.out,co.out⟩⟩,λh=>absurd rfl h⟩;rw[<- HX.out];exact Q.out.aqy _
    .obtain rfl:=Qa T;obtain⟨O,a⟩:=ff.out E rfl T;have C:=ae a;subst O;clear Yu Qa T a;go_wp2;go_ret2;exact⟨_,6,d4,o4,rfl,z.out _,.inr (.inr ⟨rfl,C.out⟩),λh=>absurd h ag,λ_=>rfl⟩
   .obtain rfl:=Yt V;obtain⟨O,a⟩:=OX.out c7 rfl V;have C:=ae a;subst O;clear T9 Yt V a;go_wp2;go_ret2;exact⟨_,6,d4,o4,rfl,P.out _,.inr (.inr ⟨rfl,C.out⟩),λh=>absurd h ag,λ_=>rfl⟩
  .have y5:¬(c4:Int)=0:=af;have Mn:Lk (om d d4 L c4):=ae (zZ.out.resolve_left R);have FL:=ae R;clear R;go_wp2;go_ret2;exact⟨_,c4,d4,o4,rfl,oy.out,.inr Mn.out,λh=>absurd h FL.out,λ_=>rfl⟩
 .obtain rfl:=Ys g;obtain⟨O,a⟩:=fI.out c2 rfl g;have C:=ae a;subst O;clear lp Ys g a;go_wp2;go_ret2;exact⟨_,6,d,o,rfl,Pu.out _,.inr (.inr ⟨rfl,C.out⟩),λh=>absurd h ag,λ_=>rfl⟩
end
section
variable {w:KX}{pb db n gb gen N ob ib vb:Nat}{o:ay}{d:Dsk}{L:aL}
theorem GU(a:eF w o gb pb gen N ob ib vb):K1 prog 55 #[ptrTo gb] w λe w'=>e=N/\w=w':=by obtain⟨-,-,-,b,-⟩:=a.raw.cells;clear a;unfold ptrTo;go_enter func55,ntmps55;go_wp2;go_ret;exact⟨rfl,rfl⟩
def Qb(x:bZ):Value:=LV #[x.r,x.l,x.g]
def aqJ:bZ:=⟨0,0,0⟩
def Yv(n a db:Nat)(w:KX)(o:ay)(d:Dsk)(L:aL)(x:bZ)(e:Lp)(w':KX):Prop:=
 ∃c d' o',e=Mk (Ly #[Qb (if c=0 then x else aqJ),Kx Mm ((c:Nat):Int)])/\Moved (λ_=>False) n a db w o d w' o' d' L/\(c=0\/om d d' L c)
theorem J9(V:aV)(h:aU w pb db n o d L)(p:eF w o gb pb gen N ob ib vb){vs:List bZ}(F:aI L (aF 118 gen)=IT (cH vs fl))(K:N=vs.length)(v:Nat)(C:v<vs.length)(Q:v<4294967296):K1 prog 56 #[ptrTo gb,Kx Mo v] w (Yv n pb db w o d L vs[v]):=by
 have O:Lk (∀W,Lg w w W->K1 prog 104 #[ptrTo vb,v] W (JA n pb db W o d L vs[v].bytes)):=ae (λW J=>by have:=nO V (h.below J) (p.wR.below J) p.P9 ag ag F (qj vs) (i:=v) (by rw[dj];exact C);rw[sp]at this;exact this)
 obtain⟨-,-,g2,g3,-⟩:=p.raw.cells;have T:=p.raw.lt;have H:=ae h;have Z:¬((v:Int) >= N):=af;generalize vs[v]=x at *;clear h p F K C;unfold ptrTo at *;have E:Lk (Lg w w (w.alloc (Mi #[Kx Mo 0,Kx Mo 0,Kx Mo 0] 110))):=ae aj;have I:Lk ((w.alloc (Mi #[Kx Mo 0,Kx Mo 0,Kx Mo 0] 110)).heap[w.heap.size]? = IT (Mi #[Kx Mo 0,Kx Mo 0,Kx Mo 0] 110)):=ae (Lw w _);have D:Lk (o w.heap.size=KK):=ae (H.out.fresh (cg _));go_enter func56,ntmps56;go_wp2_with fail;generalize w.alloc (Mi #[Kx Mo 0,Kx Mo 0,Kx Mo 0] 110)=G at *;go_call(O.out G E.out) as e w1⟨v1,c1,d1,o1,rfl,eO,yz,y9,EA⟩;have u:w.heap.size<G.heap.size:=(ds.1 I.out).1;have B:=ae ((Moved.aZ H.out E.out).trans eO (λ_ _ h=>h));have c:=ae (eO.heap I.out D.out (λh=>h));have S:=ae yz;have m:Lk (o1 w.heap.size=KK):=ae (eO.free u D.out);clear eO yz;by_cases f:c1=0
 .subst f;obtain⟨y,P⟩:=y9 rfl;obtain⟨a1,k1,rfl⟩:=aw y;have M:=ae (fp y);clear y9 EA y P;go_wp2_with fail;go_call(MB _ x _ M.out) as e w2⟨rfl,hb2⟩;have X:=ae (B.out.below hb2);have a:w2.heap[w.heap.size]? = IT (Mi #[Kx Mo 0,Kx Mo 0,Kx Mo 0] 110):=by rw[hb2.block _ (ds.1 c.out).1];exact c.out
  have A:w2.cell? w.heap.size=IT (Kx Mo 0):=by rw[au a];rfl
  have g:w2.cell? ⟨w.heap.size,1,KK⟩=IT (Kx Mo 0):=by rw[au a];rfl
  have l:w2.cell? ⟨w.heap.size,2,KK⟩=IT (Kx Mo 0):=by rw[au a];rfl
  have z0:=aO a 0;have s:=aO a 1;have z2:=aO a 2;have Y:w.heap.size<w2.heap.size:=(ds.1 a).1;have b:(((w2.setCell w.heap.size x.r).setCell ⟨w.heap.size,1,KK⟩ x.l).setCell ⟨w.heap.size,2,KK⟩ x.g).heap[w.heap.size]? = IT (Mi #[x.r,x.l,x.g] 110):=aS (aS (aS a 0 _) 1 _) 2 _;have z:Lk (Moved (λ_=>False) n pb db w o d (((w2.setCell w.heap.size x.r).setCell ⟨w.heap.size,1,KK⟩ x.l).setCell ⟨w.heap.size,2,KK⟩ x.g) o1 d1 L):=ae (((X.out.setCell w.heap.size _ m.out (.inr (cg _))).setCell ⟨w.heap.size,1,KK⟩ _ m.out (.inr (cg _))).setCell ⟨w.heap.size,2,KK⟩ _ m.out (.inr (cg _)));have j:=ae b;clear hb2 a b;go_wp2;generalize (((w2.setCell w.heap.size x.r).setCell ⟨w.heap.size,1,KK⟩ x.l).setCell ⟨w.heap.size,2,KK⟩ x.g)=k at *;have r:k.cell? w.heap.size=x.r:=by rw[au j.out];rfl
  have q:k.cell? ⟨w.heap.size,1,KK⟩=x.l:=by rw[au j.out];rfl
  have t:k.cell? ⟨w.heap.size,2,KK⟩=x.g:=by rw[au j.out];rfl
  clear A g l z0 s z2;exact bodyPost_ret (v:=Ly #[LV #[x.r,x.l,x.g],Kx Mm 0]) (by simp[results,Tryz.results56,go_sem,r,q,t]) rfl ⟨0,d1,o1,rfl,z.out,.inl rfl⟩
 .obtain rfl:=EA f;have Du:¬(c1:Int)=0:=af;have R:=ae f;have A:w1.cell? w.heap.size=IT (Kx Mo 0):=by rw[au c.out];rfl
  have g:w1.cell? ⟨w.heap.size,1,KK⟩=IT (Kx Mo 0):=by rw[au c.out];rfl
  have l:w1.cell? ⟨w.heap.size,2,KK⟩=IT (Kx Mo 0):=by rw[au c.out];rfl
  have z0:=aO c.out 0;have s:=aO c.out 1;have z2:=aO c.out 2;have U:w.heap.size<w1.heap.size:=(ds.1 c.out).1;have b:(((w1.setCell w.heap.size (Kx Mo 0)).setCell ⟨w.heap.size,1,KK⟩ (Kx Mo 0)).setCell ⟨w.heap.size,2,KK⟩ (Kx Mo 0)).heap[w.heap.size]? = IT (Mi #[Kx Mo 0,Kx Mo 0,Kx Mo 0] 110):=aS (aS (aS c.out 0 _) 1 _) 2 _;have z:Lk (Moved (λ_=>False) n pb db w o d (((w1.setCell w.heap.size (Kx Mo 0)).setCell ⟨w.heap.size,1,KK⟩ (Kx Mo 0)).setCell ⟨w.heap.size,2,KK⟩ (Kx Mo 0)) o1 d1 L):=ae (((B.out.setCell w.heap.size _ m.out (.inr (cg _))).setCell ⟨w.heap.size,1,KK⟩ _ m.out (.inr (cg _))).setCell ⟨w.heap.size,2,KK⟩ _ m.out (.inr (cg _)));have j:=ae b;clear y9 EA f b;go_wp2;generalize (((w1.setCell w.heap.size (Kx Mo 0)).setCell ⟨w.heap.size,1,KK⟩ (Kx Mo 0)).setCell ⟨w.heap.size,2,KK⟩ (Kx Mo 0))=k at *;have r:k.cell? w.heap.size=IT (Kx Mo 0):=by rw[au j.out];rfl
  have q:k.cell? ⟨w.heap.size,1,KK⟩=IT (Kx Mo 0):=by rw[au j.out];rfl
  have t:k.cell? ⟨w.heap.size,2,KK⟩=IT (Kx Mo 0):=by rw[au j.out];rfl
  clear A g l z0 s z2;exact bodyPost_ret (v:=Ly #[LV #[Kx Mo 0,Kx Mo 0,Kx Mo 0],c1]) (by simp[results,Tryz.results56,go_sem,r,q,t]) rfl ⟨c1,d1,o1,by rw[if_neg R.out];rfl,z.out,S.out⟩
end
section
variable {w:KX}{pb db n gb gen N sb:Nat}{o:ay}{d:Dsk}{L:aL}
def sM(E:Nat->Dsk->Prop)(n a db:Nat)(w:KX)(o:ay)(d:Dsk)(L:aL)(x:aJ)(e:Lp)(w':KX):Prop:=
 ∃c d' o' y,e=Mk (Ly #[LV #[Kx Mo (y.t.toNat:Int),Kx Mo (y.h.toNat:Int),Kx MJ (y.x.toNat:Int),Kx Mo (y.m.toNat:Int)],Kx Mm ((c:Nat):Int)])/\Moved (λ_=>False) n a db w o d w' o' d' L/\E c d'/\(c=0->y=x)/\(c≠0->y=Ei)
def Ip(n a db:Nat)(w:KX)(o:ay)(d:Dsk)(L:aL)(x:aJ)(e:Lp)(w':KX):Prop:=
 ∃c d' o' y,e=Mk (Ly #[LV #[Kx Mo (y.t.toNat:Int),Kx Mo (y.h.toNat:Int),Kx MJ (y.x.toNat:Int),Kx Mo (y.m.toNat:Int)],Kx Mm ((c:Nat):Int)])/\Moved (λ_=>False) n a db w o d w' o' d' L/\(c=0\/om d d' L c)/\(c=0->y=x)
def Nb(E:Nat->Dsk->Prop)(n a db:Nat)(w:KX)(o:ay)(d:Dsk)(L:aL)(r:Rec)(e:Lp)(w':KX):Prop:=
 ∃v c d' o',e=Mk (Ly #[v,Kx Mm ((c:Nat):Int)])/\Moved (λ_=>False) n a db w o d w' o' d' L/\E c d' /\
  (c=0->w'.ownsRow w.heap.size 5 1 v r.length (r.map bv)/\∀x,v.ownBlock=IT x->o' x=KK)/\(c≠0->v=.slice KK 0 0)
theorem wW(E:Nat->Dsk->Prop)(h:aU w pb db n o d L){i:Int}{x:aJ}(N:∀W,Lg w w W->K1 prog 104 #[ptrTo sb,Kx Mm i] W (Nb E n pb db W o d L x.bytes)):K1 prog 178 #[ptrTo sb,Kx Mm i] w (sM E n pb db w o d L x):=by
 have R:=ae N;have H:=ae h;clear h N;unfold ptrTo at *;have J:Lk (Lg w w (w.alloc (Mi #[Kx Mo 0,Kx Mo 0,Kx MJ 0,Kx Mo 0] 63))):=ae aj;have P:Lk ((w.alloc (Mi #[Kx Mo 0,Kx Mo 0,Kx MJ 0,Kx Mo 0] 63)).heap[w.heap.size]? = IT (Mi #[Kx Mo 0,Kx Mo 0,Kx MJ 0,Kx Mo 0] 63)):=ae (Lw w _);have I:Lk (o w.heap.size=KK):=ae (H.out.fresh (cg _));go_enter func178,ntmps178;go_wp2_with fail;generalize w.alloc (Mi #[Kx Mo 0,Kx Mo 0,Kx MJ 0,Kx Mo 0] 63)=O at *;go_call(R.out O J.out) as e w1⟨v1,c1,d1,o1,rfl,eO,yz,y9,EA⟩;have B:w.heap.size<O.heap.size:=(ds.1 P.out).1;have G:=ae ((Moved.aZ H.out J.out).trans eO (λ_ _ h=>h));have j:=ae (eO.heap P.out I.out (λh=>h));have M:=ae yz;have p:Lk (o1 w.heap.size=KK):=ae (eO.free B I.out);clear eO yz;have K:Lk (∀(g:KX)(a b c e:J3),g.heap[w.heap.size]? = IT (Mi #[Kx Mo 0,Kx Mo 0,Kx MJ 0,Kx Mo 0] 63)->((((g.setCell w.heap.size a).setCell ⟨w.heap.size,1,KK⟩ b).setCell ⟨w.heap.size,2,KK⟩ c).setCell ⟨w.heap.size,3,KK⟩ e).heap[w.heap.size]? = IT (Mi #[a,b,c,e] 63)):=ae (λg a b c e U=>aS (aS (aS (aS U 0 _) 1 _) 2 _) 3 _);by_cases k:c1=0
 .subst k;obtain⟨C,S⟩:=y9 rfl;obtain⟨X,Y,rfl⟩:=aw C;have Q:=ae (fp C);clear y9 EA C S;go_wp2_with fail;go_call(BO _ x _ Q.out) as e g⟨rfl,hb2⟩;have V:=ae (G.out.below hb2);have f:g.heap[w.heap.size]? = IT (Mi #[Kx Mo 0,Kx Mo 0,Kx MJ 0,Kx Mo 0] 63):=by grind [Below.block,Hid.out]
  have F:g.cell? w.heap.size=IT (Kx Mo 0):=by rw[au f];rfl
  have r:g.cell? ⟨w.heap.size,1,KK⟩=IT (Kx Mo 0):=by rw[au f];rfl
  have s:g.cell? ⟨w.heap.size,2,KK⟩=IT (Kx MJ 0):=by rw[au f];rfl
  have q:g.cell? ⟨w.heap.size,3,KK⟩=IT (Kx Mo 0):=by rw[au f];rfl
  have z0:=aO f 0;have z:=aO f 1;have z2:=aO f 2;have z3:=aO f 3;have l:=ae (K.out g x.t x.h x.x x.m f);have D:Lk (Moved (λ_=>False) n pb db w o d ((((g.setCell w.heap.size x.t).setCell ⟨w.heap.size,1,KK⟩ x.h).setCell ⟨w.heap.size,2,KK⟩ x.x).setCell ⟨w.heap.size,3,KK⟩ x.m) o1 d1 L):=ae ((((V.out.setCell w.heap.size _ p.out (.inr (cg _))).setCell ⟨w.heap.size,1,KK⟩ _ p.out (.inr (cg _))).setCell ⟨w.heap.size,2,KK⟩ _ p.out (.inr (cg _))).setCell ⟨w.heap.size,3,KK⟩ _ p.out (.inr (cg _)));clear hb2 f;go_wp2;generalize ((((g.setCell w.heap.size x.t).setCell ⟨w.heap.size,1,KK⟩ x.h).setCell ⟨w.heap.size,2,KK⟩ x.x).setCell ⟨w.heap.size,3,KK⟩ x.m)=m at *;have u:m.cell? w.heap.size=x.t:=by rw[au l.out];rfl
  have t:m.cell? ⟨w.heap.size,1,KK⟩=x.h:=by rw[au l.out];rfl
  have A:m.cell? ⟨w.heap.size,2,KK⟩=x.x:=by rw[au l.out];rfl
  have y:m.cell? ⟨w.heap.size,3,KK⟩=x.m:=by rw[au l.out];rfl
  clear F r s q z0 z z2 z3;exact bodyPost_ret (v:=Ly #[LV #[x.t,x.h,x.x,x.m],Kx Mm 0]) (by simp[results,Tryz.results178,go_sem,u,t,A,y]) rfl ⟨0,d1,o1,x,rfl,D.out,M.out,λ_=>rfl,λh=>absurd rfl h⟩
 .obtain rfl:=EA k;have Z:¬(c1:Int)=0:=af;have T:=ae k;have F:w1.cell? w.heap.size=IT (Kx Mo 0):=by rw[au j.out];rfl
  have r:w1.cell? ⟨w.heap.size,1,KK⟩=IT (Kx Mo 0):=by rw[au j.out];rfl
  have s:w1.cell? ⟨w.heap.size,2,KK⟩=IT (Kx MJ 0):=by rw[au j.out];rfl
  have q:w1.cell? ⟨w.heap.size,3,KK⟩=IT (Kx Mo 0):=by rw[au j.out];rfl
  have z0:=aO j.out 0;have z:=aO j.out 1;have z2:=aO j.out 2;have z3:=aO j.out 3;have l:=ae (K.out w1 (Kx Mo 0) (Kx Mo 0) (Kx MJ 0) (Kx Mo 0) j.out);have D:Lk (Moved (λ_=>False) n pb db w o d ((((w1.setCell w.heap.size (Kx Mo 0)).setCell ⟨w.heap.size,1,KK⟩ (Kx Mo 0)).setCell ⟨w.heap.size,2,KK⟩ (Kx MJ 0)).setCell ⟨w.heap.size,3,KK⟩ (Kx Mo 0)) o1 d1 L):=ae ((((G.out.setCell w.heap.size _ p.out (.inr (cg _))).setCell ⟨w.heap.size,1,KK⟩ _ p.out (.inr (cg _))).setCell ⟨w.heap.size,2,KK⟩ _ p.out (.inr (cg _))).setCell ⟨w.heap.size,3,KK⟩ _ p.out (.inr (cg _)));clear y9 EA k;go_wp2;generalize ((((w1.setCell w.heap.size (Kx Mo 0)).setCell ⟨w.heap.size,1,KK⟩ (Kx Mo 0)).setCell ⟨w.heap.size,2,KK⟩ (Kx MJ 0)).setCell ⟨w.heap.size,3,KK⟩ (Kx Mo 0))=m at *;have u:m.cell? w.heap.size=IT (Kx Mo 0):=by rw[au l.out];rfl
  have t:m.cell? ⟨w.heap.size,1,KK⟩=IT (Kx Mo 0):=by rw[au l.out];rfl
  have A:m.cell? ⟨w.heap.size,2,KK⟩=IT (Kx MJ 0):=by rw[au l.out];rfl
  have y:m.cell? ⟨w.heap.size,3,KK⟩=IT (Kx Mo 0):=by rw[au l.out];rfl
  clear F r s q z0 z z2 z3;exact bodyPost_ret (v:=Ly #[LV #[Kx Mo 0,Kx Mo 0,Kx MJ 0,Kx Mo 0],c1]) (by simp[results,Tryz.results178,go_sem,u,t,A,y]) rfl ⟨c1,d1,o1,Ei,rfl,D.out,M.out,λh=>absurd h T.out,λ_=>rfl⟩
theorem zB(q:aV)(h:aU w pb db n o d L)(a:aM w sb pb name 20)(l:o sb=KK)(m:aI L name=IT (az es fl)){i:Nat}{x:aJ}(hi:es[i]? = IT x):K1 prog 178 #[ptrTo sb,i] w (Ip n pb db w o d L x):=by have p:=aK hi;refine(wW (λc d'=>c=0\/om d d' L c) h (x:=x) (λW b=>?_)).mono λe w' ⟨c,d',o',y,j,k,f,g,_⟩=>⟨c,d',o',y,j,k,f,g⟩;have:=nO q (h.below b) (a.below b) l ag ag m (dN es) (i:=i) M2;rw[sp]at this;rw[bk p]at hi;rw[Option.some.inj hi]at this;exact this
def tD(b:Bool):FuncId:=if b then 111 else 110
theorem Qc(x:aJ)(w:KX):K1 prog 110 #[LV #[x.t,x.h,x.x,x.m]] w λe w'=>e=x.t/\Lg w w w':=by go_enter func110,ntmps110;go_wp2;go_ret;exact⟨rfl,aq.alloc (cg _) _⟩
theorem Ua(x:aJ)(w:KX):K1 prog 111 #[LV #[x.t,x.h,x.x,x.m]] w λe w'=>e=x.h/\Lg w w w':=by go_enter func111,ntmps111;go_wp2;go_ret;exact⟨rfl,aq.alloc (cg _) _⟩
theorem Sn(b:Bool)(x:aJ)(w:KX):K1 prog (tD b) #[LV #[x.t,x.h,x.x,x.m]] w λe w'=>e=Mk (Kx Mo (fY b x:Int))/\Lg w w w':=by
 cases b
 .exact Qc x w
 .exact Ua x w
end
structure gH(w:KX)(o:ay)(xb kb fb vb sb:Nat)(b:Bool)(v bc:Nat):Prop where
 xs:∃t,w.heap[xb]? = IT (Mi #[ptrTo sb] t)
 bad:∃t,w.heap[kb]? = IT (Mi #[bc] t)
 fn:∃t,w.heap[fb]? = IT (Mi #[.func (.func (tD b)) #[] #[]] t)
 vtx:∃t,w.heap[vb]? = IT (Mi #[Kx Mo v] t)
 oxb:o xb=KK
 okb:o kb=KK
 vT:o fb=KK
 P9:o vb=KK
 xk:xb≠kb
 fk:fb≠kb
 vk:vb≠kb
section
variable {w:KX}{pb db n sb xb kb fb vb v bc:Nat}{b:Bool}{o:ay}{d:Dsk}{L:aL}
theorem bD{w:KX}{x:Nat}{a:Obj}(h:w.heap[x]? = IT a):x<w.heap.size:=(ds.1 h).1
theorem bq{w:KX}(c:Lg w w w'){a:Addr}{v:J3}(b:w.cell? a=IT v):w'.cell? a=IT v:=(c.cell (jK w a b)).trans b
theorem gH.lts(h:gH w o xb kb fb vb sb b v bc):xb<w.heap.size/\kb<w.heap.size/\fb<w.heap.size/\vb<w.heap.size:=by obtain⟨_,e⟩:=h.xs;obtain⟨_,d⟩:=h.bad;obtain⟨_,a⟩:=h.fn;obtain⟨_,c⟩:=h.vtx;exact⟨bD e,bD d,bD a,bD c⟩
theorem gH.cells(h:gH w o xb kb fb vb sb b v bc):w.cell? xb=IT (ptrTo sb)/\w.cell? kb=bc/\w.cell? fb=IT (.func (.func (tD b)) #[] #[])/\w.cell? vb=IT (Kx Mo v)/\w.frozen? ⟨kb,0,KK⟩=false:=by
 obtain⟨_,e⟩:=h.xs;obtain⟨_,a⟩:=h.bad;obtain⟨_,c⟩:=h.fn;obtain⟨_,d⟩:=h.vtx;refine⟨?_,?_,?_,?_,aO a _⟩
 .rw[au e];rfl
 .rw[au a];rfl
 .rw[au c];rfl
 .rw[au d];rfl
theorem gH.moved(h:gH w o xb kb fb vb sb b v bc)(a:Moved (λ_=>False) n pb db w o d w' o' d' L'):gH w' o' xb kb fb vb sb b v bc:=by obtain⟨m,k,f,j⟩:=h.lts;obtain⟨l,g⟩:=h.xs;obtain⟨t2,i⟩:=h.bad;obtain⟨t3,c⟩:=h.fn;obtain⟨t4,e⟩:=h.vtx;exact⟨⟨l,a.heap g h.oxb (λh=>h)⟩,⟨t2,a.heap i h.okb (λh=>h)⟩,⟨t3,a.heap c h.vT (λh=>h)⟩,⟨t4,a.heap e h.P9 (λh=>h)⟩,a.free m h.oxb,a.free k h.okb,a.free f h.vT,a.free j h.P9,h.xk,h.fk,h.vk⟩
theorem gH.below(h:gH w o xb kb fb vb sb b v bc)(a:Lg w w w'):gH w' o xb kb fb vb sb b v bc:=by obtain⟨l,j,e,i⟩:=h.lts;obtain⟨k,f⟩:=h.xs;obtain⟨t2,g⟩:=h.bad;obtain⟨t3,c⟩:=h.fn;obtain⟨t4,d⟩:=h.vtx;exact⟨⟨k,(a.block _ l).trans f⟩,⟨t2,(a.block _ j).trans g⟩,⟨t3,(a.block _ e).trans c⟩,⟨t4,(a.block _ i).trans d⟩,h.oxb,h.okb,h.vT,h.P9,h.xk,h.fk,h.vk⟩
theorem gH.set(h:gH w o xb kb fb vb sb b v bc)(c:Nat):gH (w.setCell kb c) o xb kb fb vb sb b v c:=by obtain⟨g,e⟩:=h.xs;obtain⟨t2,f⟩:=h.bad;obtain⟨t3,a⟩:=h.fn;obtain⟨t4,d⟩:=h.vtx;refine⟨⟨g,(e8 _ _ _ _ h.xk).trans e⟩,⟨t2,aS f 0 _⟩,⟨t3,(e8 _ _ _ _ h.fk).trans a⟩,⟨t4,(e8 _ _ _ _ h.vk).trans d⟩,h.oxb,h.okb,h.vT,h.P9,h.xk,h.fk,h.vk⟩
theorem AZ(b:Bool)(args:Array J3)(w:KX):Sem.run prog (callFunc (tD b) args) w=.ok (.enter (tD b) args) w:=by
 cases b
 .show Sem.run prog (callFunc 110 args) w=.ok (.enter 110 args) w;go_simp
 .show Sem.run prog (callFunc 111 args) w=.ok (.enter 111 args) w;go_simp
def EB(n f db:Nat)(w:KX)(o:ay)(d:Dsk)(L:aL)(g a h j i:Nat)(b:Bool)(v bc:Nat)(x:aJ)(e:Lp)(w':KX):Prop:=
 ∃r c d' o',e=Mk (.bool r)/\Moved (·=a) n f db w o d w' o' d' L/\gH w' o' g a h j i b v c/\((c=bc/\r=decide (v<=fY b x))\/om d d' L c)
theorem Qd(HW:aV)(h:aU w pb db n o d L)(z:aM w sb pb name 20)(U:o sb=KK)(Z:aI L name=IT (az es fl))(D:gH w o xb kb fb vb sb b v bc){i:Nat}{x:aJ}(hi:es[i]? = IT x):K1 prog 177 #[i,.pointer xb,.pointer kb,.pointer fb,.pointer vb] w (EB n pb db w o d L xb kb fb vb sb b v bc x):=by
 have pU:=ae (zB HW h z U Z hi);have HO:=ae D;obtain⟨c1,c2,c3,c4,-⟩:=D.cells;obtain⟨l1,l2,l3,l4⟩:=D.lts;have HE:Lk (∀(y:aJ)(W:KX),K1 prog (tD b) #[LV #[y.t,y.h,y.x,y.m]] W λe w'=>e=Mk (Kx Mo (fY b y:Int))/\Lg W W w'):=ae (λy W=>Sn b y W);clear h z U Z hi D;unfold ptrTo at *;go_enter func177,ntmps177;go_wp2_with fail;go_call pU.out as e w1⟨c,d1,o1,y,rfl,eO,yz,Yw⟩;have T:=ae eO;have uh:=ae yz;have J:=ae Yw;have m:=ae (HO.out.moved eO);clear eO yz Yw c1 c2 c3 c4;have I:Lk (Lg w1 w1 (w1.alloc (Mi #[y.t,y.h,y.x,y.m] 63))):=ae aj;have l:Lk ((w1.alloc (Mi #[y.t,y.h,y.x,y.m] 63)).heap[w1.heap.size]? = IT (Mi #[y.t,y.h,y.x,y.m] 63)):=ae (Lw w1 _);have f:=ae (m.out.below I.out);have s:Lk (Moved (·=kb) n pb db w o d (w1.alloc (Mi #[y.t,y.h,y.x,y.m] 63)) o1 d1 L):=ae ((T.out.below I.out).mono (λ_ _ h=>h.elim));have m2:=m.out.lts.2.1;have m5:=f.out.cells.2.2.2.2;have m6:=f.out.cells.2.1;have m7:=m.out.cells.2.1;obtain⟨-,-,-,-,c5⟩:=m.out.cells;have pW:Lk (w1.heap.size≠kb):=ae af;have V:∀(W:KX)(j:Nat),Moved (·=kb) n pb db w o d W o1 d1 L->gH W o1 xb kb fb vb sb b v j->(j=bc/\y=x\/om d d1 L j)->∀O r,Lg W W O->r=decide (v<=fY b y)->EB n pb db w o d L xb kb fb vb sb b v bc x (Mk (.bool r)) O:=by intro W j g1 g2 g3 O r g4 g5;refine⟨r,j,d1,o1,rfl,g1.below g4,g2.below g4,g3.imp (λ⟨a1,a2⟩=>⟨a1,by rw[g5,a2]⟩) id⟩
 have Y:=ae V;clear V;by_cases G:c=0
 .subst G;have F:Lk (bc=bc/\y=x\/om d d1 L bc):=ae (.inl ⟨rfl,J.out rfl⟩);have S:=ae (Y.out _ _ s.out f.out F.out);go_wp2;generalize w1.alloc (Mi #[y.t,y.h,y.x,y.m] 63)=W at *;have q:W.cell? w1.heap.size=y.t:=by rw[au l.out];rfl
  have p:W.cell? ⟨w1.heap.size,1,KK⟩=y.h:=by rw[au l.out];rfl
  have u:W.cell? ⟨w1.heap.size,2,KK⟩=y.x:=by rw[au l.out];rfl
  have t:W.cell? ⟨w1.heap.size,3,KK⟩=y.m:=by rw[au l.out];rfl
  obtain⟨-,-,A,B,-⟩:=(show gH W o1 xb kb fb vb sb b v _ from f.out).cells;have m9:w1.heap.size<W.heap.size:=bD l.out;have M:=ae q;have P:=ae p;have Q:=ae u;have E:=ae t;have H:=ae A;have R:=ae B;clear q p u t A B;refine wq W ?_;refine qz ?_ (λw' a=>by have z3:=bq a H.out;go_simp<;>rfl);refine qz ?_ (λw' a=>by have z0:=bq a M.out;have z1:=bq a P.out;have z2:=bq a Q.out;have z3:=bq a E.out;go_simp<;>rfl);refine xA rfl (λw' a=>(by go_simp;exact AZ b _ _)) (λw' a=>((HE.out y w').mono (λe N h=>⟨h.1,a.trans (h.2.mono a.size)⟩))) (λK hK=>?_);go_simp;refine hK _ ?_;clear hK K;refine qz ?_ (λw' a=>by have z4:=bq a R.out;go_simp<;>rfl);iterate 2 (refine qz ?_)
  refine wpQuiet_nil ?_;intro w4 g;have k:=ae g;clear g;go_wp2;go_ret;refine S.out _ _ k.out ?_;simp
 .have al:¬(c:Int)=0:=af;have F:Lk (c=bc/\y=x\/om d d1 L c):=ae (.inr (uh.out.resolve_left G));have ac:((c:Int) != 0)=true:=by simp;exact G
  have C:Lk (((w1.setCell kb c).alloc (Mi #[y.t,y.h,y.x,y.m] 63)).heap[w1.heap.size]? = IT (Mi #[y.t,y.h,y.x,y.m] 63)):=ae (by have:=Lw (w1.setCell kb c) (Mi #[y.t,y.h,y.x,y.m] 63);rw[World.size_setCell]at this;exact this)
  have Ub:=ae (((T.out.mono (S':=(·=kb)) (λ_ _ h=>h.elim)).setCell kb c m.out.okb (.inl rfl)).alloc (Mi #[y.t,y.h,y.x,y.m] 63));have X:=ae ((m.out.set c).below (aq.alloc (cg _) (Mi #[y.t,y.h,y.x,y.m] 63)));have S:=ae (Y.out _ _ Ub.out X.out F.out);clear l I f s;go_wp2;generalize (w1.setCell kb c).alloc (Mi #[y.t,y.h,y.x,y.m] 63)=W at *;have q:W.cell? w1.heap.size=y.t:=by rw[au C.out];rfl
  have p:W.cell? ⟨w1.heap.size,1,KK⟩=y.h:=by rw[au C.out];rfl
  have u:W.cell? ⟨w1.heap.size,2,KK⟩=y.x:=by rw[au C.out];rfl
  have t:W.cell? ⟨w1.heap.size,3,KK⟩=y.m:=by rw[au C.out];rfl
  obtain⟨-,-,A,B,-⟩:=(show gH W o1 xb kb fb vb sb b v _ from X.out).cells;have m9:w1.heap.size<W.heap.size:=bD C.out;have M:=ae q;have P:=ae p;have Q:=ae u;have E:=ae t;have H:=ae A;have R:=ae B;clear q p u t A B;refine wq W ?_;refine qz ?_ (λw' a=>by have z3:=bq a H.out;go_simp<;>rfl);refine qz ?_ (λw' a=>by have z0:=bq a M.out;have z1:=bq a P.out;have z2:=bq a Q.out;have z3:=bq a E.out;go_simp<;>rfl);refine xA rfl (λw' a=>(by go_simp;exact AZ b _ _)) (λw' a=>((HE.out y w').mono (λe N h=>⟨h.1,a.trans (h.2.mono a.size)⟩))) (λK hK=>?_);go_simp;refine hK _ ?_;clear hK K;refine qz ?_ (λw' a=>by have z4:=bq a R.out;go_simp<;>rfl);iterate 2 (refine qz ?_)
  refine wpQuiet_nil ?_;intro w4 g;have k:=ae g;clear g;go_wp2;go_ret;refine S.out _ _ k.out ?_;simp
def Ka(b:Bool)(es:List aJ):Prop:=∀(i j:Nat)(x y:aJ),es[i]? = IT x->es[j]? = IT y->i<=j->fY b x<=fY b y
def Split(b:Bool)(v:Nat)(es:List aJ)(lo hi:Nat):Prop:=(∀(j:Nat)(x:aJ),es[j]? = IT x->j<lo->fY b x<v)/\(∀(j:Nat)(x:aJ),es[j]? = IT x->hi<=j->v<=fY b x)
theorem Split.up{b:Bool}{v:Nat}{x:aJ}(h:Split b v es lo hi)(a:Ka b es)(e:es[m]? = IT x)(c:fY b x<v):Split b v es (m+1) hi:=
 ⟨λj y d f=>Nat.lt_of_le_of_lt (a j m y x d e af) c,h.2⟩
theorem Split.down{b:Bool}{v:Nat}{x:aJ}(h:Split b v es lo hi)(c:Ka b es)(f:es[m]? = IT x)(d:v<=fY b x):Split b v es lo m:=
 ⟨h.1,λj y e a=>cp d (c m j x y f e a)⟩
theorem om.more{d a:Dsk}{L:aL}{c:Nat}(h:om d d' L c)(e:cd d' a):om d a L c:=h.imp id (λ⟨f,b⟩=>⟨f,e.dead b⟩)
def EC(n f db:Nat)(w:KX)(o:ay)(d:Dsk)(L:aL)(g a h j i:Nat)(b:Bool)(v:Nat)(es:List aJ)(e:Lp)(w':KX):Prop:=
 ∃k c d' o',e=Mk (Kx Mm ((k:Nat):Int))/\k<=es.length/\Moved (·=a) n f db w o d w' o' d' L/\gH w' o' g a h j i b v c/\((c=0/\Split b v es k k)\/om d d' L c)
theorem Qe(HW:aV)(h:aU w pb db n o d L)(u:aM w sb pb name 20)(O:o sb=KK)(U:aI L name=IT (az es fl))(hk:sb≠kb)(D:gH w o xb kb fb vb sb b v 0)(k:Ka b es)(hN:es.length<1000000):K1 prog 176 #[es.length,.func (.func 177) #[] #[.pointer xb,.pointer kb,.pointer fb,.pointer vb]] w (EC n pb db w o d L xb kb fb vb sb b v es):=by
 have I:Lk (∀W o' d' c(m:Nat)x,aU W pb db n o' d' L->aM W sb pb name 20->o' sb=KK->gH W o' xb kb fb vb sb b v c->es[m]? = IT x->K1 prog 177 #[Kx Mm (m:Int),.pointer xb,.pointer kb,.pointer fb,.pointer vb] W (EB n pb db W o' d' L xb kb fb vb sb b v c x)):=ae (λW o' d' c m x a1 a2 a3 a4 a5=>Qd HW a1 a2 a3 U a4 a5);have H:=ae h;have l:=ae u;have A:=ae O;have HM:=ae D;have T:=ae k;have B:Lk (∀m,m<es.length->∃x,es[m]? = IT x):=ae (λm D=>⟨_,bk D⟩);have s:Lk (Split b v es 0 es.length):=ae ⟨λj x _ R=>absurd R (Nat.not_lt_zero _),λj x y R=>absurd (aK y) af⟩;obtain⟨N,a⟩:=ac es.length;rw[<- a]at B s hN ⊢;have pW:=ae a;clear h u O U D k a;go_enter func176,ntmps176;go_wp2;go_loopw [5,6] (λi j wr=>∃(lo hi c:Nat)(d':Dsk)(o':ay),lo<=hi/\hi<=N/\i=lo/\j=hi/\Moved (·=kb) n pb db w o d wr o' d' L/\gH wr o' xb kb fb vb sb b v c/\((c=0/\Split b v es lo hi)\/om d d' L c)) (λi j _=>(Lo j).toNat-(Lo i).toNat)
 case atStart=>exact⟨0,N,0,d,o,em _,cg _,rfl,rfl,Moved.refl _ H.out,HM.out,.inl ⟨rfl,s.out⟩⟩
 case round=>
  obtain⟨lo,hi,c,Q,V,al,z,rfl,rfl,F,q,t⟩:=hrel;have f:=ae F;have S:=ae q;have X:=ae t;clear F q t;by_cases am:lo<hi
  .obtain⟨m,J⟩:=ac ((lo+hi)/2);have F:lo<=m:=af;have dA:m<hi:=af;have K:((lo:Int)+hi)/2=(m:Int):=af;clear J;obtain⟨x,y⟩:=B.out m af;have p:=ae (I.out wr V Q c m _ f.out.bh (l.out.moved f.out A.out hk) (f.out.free l.out.lt A.out) S.out y);have Y:=ae y;clear y;go_wp2_with fail;clear K;go_call p.out as e w2⟨r,c2,d2,o2,rfl,fD,aky,hs3⟩;have Z:Lk (Moved (·=kb) n pb db w o d w2 o2 d2 L):=ae (f.out.trans fD (λ_ _ h=>h));have P:=ae aky;have E:Lk ((c2=0/\(r=Jd->Split b v es lo m)/\(r=J0->Split b v es (m+1) hi))\/om d d2 L c2):=ae (by
    rcases hs3 with⟨M,g⟩| g
    .rcases X.out with⟨h3,C⟩| C
     .refine .inl ⟨M.trans h3,λk=>?_,λk=>?_⟩
      .rw[k]at g;exact C.down T.out Y.out (of_decide_eq_true g.symm)
      .rw[k]at g;exact C.up T.out Y.out (Nat.lt_of_not_le (of_decide_eq_false g.symm))
     .rw[M];exact .inr (C.more fD.on)
    .exact .inr (g.later f.out.on.bU))
   clear fD aky hs3 p;cases r with
   |false=>
     have G:Lk (c2=0/\Split b v es (m+1) hi\/om d d2 L c2):=ae (E.out.imp (λh=>⟨h.1,h.2.2 rfl⟩) id);clear E;go_wp2;go_roundw
     case rel=>exact⟨m+1,hi,c2,d2,o2,af,z,by go_num,rfl,Z.out,P.out,G.out⟩
     case measure=>simp[Lo];omega
   |true=>
     have G:Lk (c2=0/\Split b v es lo m\/om d d2 L c2):=ae (E.out.imp (λh=>⟨h.1,h.2.1 rfl⟩) id);clear E;go_wp2;go_roundw
     case rel=>exact⟨lo,m,c2,d2,o2,af,af,rfl,rfl,Z.out,P.out,G.out⟩
     case measure=>simp[Lo];omega
  .obtain rfl:lo=hi:=af
   go_wp2;go_ret;exact⟨lo,c,Q,V,rfl,by rw[<- pW.out];exact z,f.out,S.out,X.out⟩
end
section
variable {w:KX}{pb db n sb gb gen N ob ib s v:Nat}{b:Bool}{o:ay}{d:Dsk}{L:aL}
def eJ(b:Bool)(v:Nat)(es:List aJ):List aJ:=es.filter λx=>fY b x=v
theorem Uc{k j:Nat}(m:Ka b es)(f:Split b v es k k)(p:∀x∈(es.drop k).take j,fY b x=v)(n:∀x,es[k+j]? = IT x->fY b x≠v):(es.drop k).take j=eJ b v es:=by
 unfold eJ;have e:es=es.take k++((es.drop k).take j++(es.drop k).drop j):=by rw[Do,Do]
 conv=>rhs;rw[e]
 rw[yk,yk];have h:(es.take k).filter (λx=>decide (fY b x=v))=[]:=by
  rw[Da];intro x a;obtain⟨i,hi⟩:=hY.1 a;have c:i<k:=by have:=aK hi;rw[et]at this;omega
  rw[List.getElem?_take,if_pos c]at hi;have:=f.1 i x hi c;simp;omega
 have l:((es.drop k).take j).filter (λx=>decide (fY b x=v))=(es.drop k).take j:=by rw[List.filter_eq_self];intro x a;simpa using p x a
 have g:((es.drop k).drop j).filter (λx=>decide (fY b x=v))=[]:=by rw[Da];intro x a;obtain⟨i,hi⟩:=hY.1 a;rw[List.drop_drop,F1]at hi;have o:=aK hi;have d:es[k+j]? = IT es[k+j]:=bk af;have q:=n _ d;have s:=f.2 _ _ d af;have r:=m _ _ _ _ d hi af;simp;omega
 rw[h,l,g];simp
def Qf(n a db:Nat)(w:KX)(o:ay)(d:Dsk)(L:aL)(ts:List aJ)(e:Lp)(w':KX):Prop:=
 ∃v c d' o',e=Mk (Ly #[v,Kx Mm ((c:Nat):Int)])/\Moved (λ_=>False) n a db w o d w' o' d' L/\(c=0\/om d d' L c)/\(c=0->aG w' w.heap.size v ts/\∀x,v.ownBlock=IT x->o' x=KK)/\(c≠0->v=.slice KK 0 0)
theorem Nf(w:KX)(x y z:J3)(a t2 t3:TypeId) :
 Below w w (((w.alloc (Mi #[x] a)).alloc (Mi #[y] t2)).alloc (Mi #[z] t3))/\(((w.alloc (Mi #[x] a)).alloc (Mi #[y] t2)).alloc (Mi #[z] t3)).heap[w.heap.size]? = IT (Mi #[x] a)/\(((w.alloc (Mi #[x] a)).alloc (Mi #[y] t2)).alloc (Mi #[z] t3)).heap[w.heap.size+1]? = IT (Mi #[y] t2)/\(((w.alloc (Mi #[x] a)).alloc (Mi #[y] t2)).alloc (Mi #[z] t3)).heap[w.heap.size+2]? = IT (Mi #[z] t3):=by
 have b:=Lw w (Mi #[x] a);have a2:=Lw (w.alloc (Mi #[x] a)) (Mi #[y] t2);have a3:=Lw ((w.alloc (Mi #[x] a)).alloc (Mi #[y] t2)) (Mi #[z] t3);simp only[World.size_alloc,Nat.add_assoc]at a2 a3;refine⟨(aj.alloc ai _).alloc (by simp;omega) _,?_,?_,a3⟩
 .rw[(MapKept.heap_alloc _ _).2 _ (by simp;omega),(MapKept.heap_alloc _ _).2 _ ai];exact b
 .rw[(MapKept.heap_alloc _ _).2 _ ai];exact a2
theorem gH.kept{a d c f bc:Nat}(h:gH w o a d c f sb b v bc)(e:∀x,x=a\/x=d\/x=c\/x=f->w'.heap[x]? = w.heap[x]?):gH w' o a d c f sb b v bc:=by obtain⟨l,j⟩:=h.xs;obtain⟨t2,k⟩:=h.bad;obtain⟨t3,g⟩:=h.fn;obtain⟨t4,i⟩:=h.vtx;exact⟨⟨l,(e a (.inl rfl)).trans j⟩,⟨t2,(e d (.inr (.inl rfl))).trans k⟩,⟨t3,(e c (.inr (.inr (.inl rfl)))).trans g⟩,⟨t4,(e f (.inr (.inr (.inr rfl)))).trans i⟩,h.oxb,h.okb,h.vT,h.P9,h.xk,h.fk,h.vk⟩
theorem Yx(HW:aV)(h:aU w pb db n o d L)(I:aM w sb pb name 20)(ho:o sb=KK){x1 x2 x3:J3}(hg:cw w gb x1 x2 x3 N)(hL:aI L name=IT (az es fl))(hr:Ka b es)(hN:es.length<65536)(hv:v<N)(lP:v<4294967296):K1 prog 109 #[ptrTo gb,ptrTo sb,Kx Mo v,.func (.func (tD b)) #[] #[]] w (Qf n pb db w o d L (eJ b v es)):=by
 have ci:Lk (∀W,Lg w w W->K1 prog 54 #[ptrTo sb] W (Ia n pb db W o d L (Ib es.length))):=ae (λW hW=>by have:=mG HW (h.below hW) (I.below hW) ho ag ag hL (dN es);rw[dj]at this;exact this)
 have gx:Lk (∀W o' d' xb kb fb vb,aU W pb db n o' d' L->aM W sb pb name 20->o' sb=KK->sb≠kb->gH W o' xb kb fb vb sb b v 0->K1 prog 176 #[Kx Mm (es.length:Int),.func (.func 177) #[] #[.pointer (IT ⟨xb,0,KK⟩),.pointer (IT ⟨kb,0,KK⟩),.pointer (IT ⟨fb,0,KK⟩),.pointer (IT ⟨vb,0,KK⟩)]] W (EC n pb db W o' d' L xb kb fb vb sb b v es)):=ae (λW o' d' xb kb fb vb a1 a2 a3 a4 a5=>Qe HW a1 a2 a3 hL a4 a5 hr af);have pU:Lk (∀W o' d'(i:Nat)x,aU W pb db n o' d' L->aM W sb pb name 20->o' sb=KK->es[i]? = IT x->K1 prog 178 #[ptrTo sb,i] W (Ip n pb db W o' d' L x)):=ae (λW o' d' i x a1 a2 a3 a4=>zB HW a1 a2 a3 hL a4);have HE:Lk (∀(y:aJ)(W:KX),K1 prog (tD b) #[LV #[y.t,y.h,y.x,y.m]] W λe w'=>e=Mk (Kx Mo (fY b y:Int))/\Lg W W w'):=ae (λy W=>Sn b y W);have Yy:=ae (λk j hs hm hl=>Uc (b:=b) (v:=v) (es:=es) (k:=k) (j:=j) hr hs hm hl);obtain⟨-,-,-,g3,-⟩:=hg.cells;have i6:=hg.lt;have Vy:=I.lt;have H:=ae h;have Z:=ae I;have g:=ae ho;have Aj:¬((v:Int) >= N):=af;have mm:¬((N:Int)<=v):=af;generalize eJ b v es=ts at *;have HT:=ae (Nf w (ptrTo sb) (Kx Mo v) (.func (.func (tD b)) #[] #[]) 104 33 198);clear h I ho hg hL hr;unfold ptrTo at *;go_enter func109,ntmps109;go_wp2_with fail;obtain⟨b1,b2,b3,b4⟩:=HT.out;have cD:=ae b1;have lu:=ae b2;have kT:=ae b3;have eM:=ae b4;clear b1 b2 b3 b4 HT;unfold ptrTo at *;generalize ((w.alloc (Mi #[.pointer sb] 104)).alloc (Mi #[Kx Mo v] 33)).alloc (Mi #[.func (.func (tD b)) #[] #[]] 198)=R at *;have G:Lk (w.heap.size+1<R.heap.size/\w.heap.size+2<R.heap.size/\w.heap.size<R.heap.size):=ae ⟨bD kT.out,bD eM.out,bD lu.out⟩;have OY:Lk (w.heap.size<=w.heap.size+1/\w.heap.size<=w.heap.size+2):=ae ⟨af,af⟩;rw[show w.heap.size+1+1=w.heap.size+2 from rfl];generalize w.heap.size+2=fb at *;generalize w.heap.size+1=vb at *;have K2:Lk (R.cell? ⟨vb,0,KK⟩=IT (Kx Mo v)):=ae (by rw[au kT.out];rfl);have K4:Lk (R.cell? ⟨gb,3,KK⟩=N):=ae (by rw[cD.out.cell i6];exact g3);have mT:cf Mm (v:Int)=v:=by rw[ax]<;>omega
 clear g3;refine wq R ?_;refine qz ?_ (λw' a=>by have z:=bq a K2.out;go_simp<;>rfl);iterate 4 (refine qz ?_)
 refine qz ?_ (λw' a=>by have z:=bq a K4.out;go_simp<;>rfl);refine qz ?_;refine wpQuiet_nil ?_;intro W2 q;have cA:=ae (cD.out.trans (q.mono cD.out.size));have E:Lk (W2.heap[w.heap.size]? = _):=ae ((q.block _ G.out.2.2).trans lu.out);have al:Lk (W2.heap[vb]? = _):=ae ((q.block _ G.out.1).trans kT.out);have Y:Lk (W2.heap[fb]? = _):=ae ((q.block _ G.out.2.1).trans eM.out);have k1:W2.cell? w.heap.size=IT (.pointer sb):=by rw[au E.out];rfl
 clear q lu kT eM cD G K2 K4 R;go_wp2_with fail;go_call(ci.out W2 cA.out) as e w3⟨c3,d3,o3,⟨x3',rfl,hx3⟩,fD,Ic⟩;have fH:Lk (Moved (λ_=>False) n pb db w o d w3 o3 d3 L):=ae ((Moved.aZ H.out cA.out).trans fD (λ_ _ h=>h));have p:Lk (∀x,w.heap.size<=x->o x=KK):=ae (λx c=>H.out.fresh c);have GI:Lk (aM w3 sb pb name 20):=ae (Z.out.moved fH.out g.out (λh=>h));have AP:Lk (o3 sb=KK):=ae (fH.out.free Vy g.out);have en:Lk (∀kb(U:KX),w3.heap.size<=kb->Lg w3 w3 U->(∃t,U.heap[kb]? = IT (Mi #[Kx Mm 0] t))->gH U o3 w.heap.size kb fb vb sb b v 0):=ae (λkb U gt P hc=>by have q1:=fD.heap E.out (p.out _ (cg _)) (λh=>h);have q2:=fD.heap al.out (p.out _ OY.out.1) (λh=>h);have q3:=fD.heap Y.out (p.out _ OY.out.2) (λh=>h);exact⟨⟨_,(P.block _ (bD q1)).trans q1⟩,hc,⟨_,(P.block _ (bD q3)).trans q3⟩,⟨_,(P.block _ (bD q2)).trans q2⟩,fD.free (bD E.out) (p.out _ (cg _)),fD.bh.fresh gt,fD.free (bD Y.out) (p.out _ OY.out.2),fD.free (bD al.out) (p.out _ OY.out.1),λe=>Nm (bD q1),λe=>Nm (bD q3),λe=>Nm (bD q2)⟩)
 have BL:=ae Ic;have eM:=ae hx3;clear fD Ic hx3 E al Y k1 cA W2;by_cases aE:c3=0
 .subst aE;obtain rfl:=eM.out rfl;clear eM BL;have oZ:Lk (Lg w3 w3 (w3.alloc (Mi #[Kx Mm 0] 34))):=ae aj;have OS:=ae (en.out w3.heap.size _ (cg _) oZ.out ⟨_,Lw w3 _⟩);have jg:=ae (fH.out.below oZ.out);have za:=ae (GI.out.below oZ.out);have kl:=GI.out.lt;clear en;have el:=ae (gx.out _ o3 d3 w.heap.size w3.heap.size fb vb jg.out.bh za.out AP.out af OS.out);clear kl;go_wp2_with fail;go_call el.out as e w5⟨k5,c5,d5,o5,rfl,XU,oq,agn,hs5⟩;have mu:w.heap.size<=w3.heap.size:=fH.out.size;have T:Lk (Moved (λ_=>False) n pb db w o d w5 o5 d5 L):=ae (jg.out.trans oq (λx c e=>af));have MZ:Lk (aM w5 sb pb name 20):=ae (Z.out.moved T.out g.out (λh=>h));have M0:Lk (o5 sb=KK):=ae (T.out.free Vy g.out);have de:=ae agn;have fI:=agn.cells.2.1;have cE:Lk (c5=0/\Split b v es k5 k5\/om d d5 L c5):=ae (hs5.imp id (λh=>h.later jg.out.on.bU));clear oq agn hs5 el OS jg za oZ fH GI AP;generalize w3.heap.size=kb at *;by_cases BI:c5=0
  .subst BI;have eS:Lk (Split b v es k5 k5):=ae (cE.out.elim (λh=>h.2) (λh=>absurd rfl h.ne));clear cE;obtain⟨M,hM⟩:=ac es.length;have kd:Lk (∀m,m<M->∃x,es[m]? = IT x):=ae (λm hm=>⟨_,bk af⟩);rw[<- hM]at XU hN ⊢;have VQ:=ae hM;clear hM;have me:w5.cell? ⟨kb,0,KK⟩=IT (Kx Mm 0):=fI;clear fI;go_wp2;go_loopw [13,14] (λi l wr=>∃(j:Nat)(d':Dsk)(o':ay),k5+j<=M/\i=Kx Mm ((k5+j:Nat):Int)/\Moved (λ_=>False) n pb db w o d wr o' d' L/\w5.heap.size<=wr.heap.size/\gH wr o' w.heap.size kb fb vb sb b v 0/\aG wr w5.heap.size l ((es.drop k5).take j)/\(∀x,l.ownBlock=IT x->o' x=KK)/\(∀x∈(es.drop k5).take j,fY b x=v)) (λi _ _=>M-(Lo i).toNat)
   case atStart=>exact⟨0,d5,o5,XU,rfl,T.out,cg _,de.out,gp _ _ _ 4,(λx c=>by cases c),ai⟩
   case round=>
    obtain⟨j,d6,o6,hj,rfl,q9,dl,Q,O,ee,fm⟩:=hrel;have BZ:=ae q9;have lw:=ae Q;have F:=ae O;have B:=ae ee;have am:=ae fm;have ke:=ae dl;obtain⟨la,lc,rfl⟩:=aw O;have kE:((es.drop k5).take j).length=j:=by rw[et,List.length_drop,<- VQ.out];omega
    rw[kE]at F B;simp only[kE];have Iq:=ae kE;have k1:=Q.cells.1;unfold ptrTo at k1;clear q9 Q O ee fm kE dl;by_cases lE:k5+j<M
    .obtain⟨x,c⟩:=kd.out _ lE;have vP:=ae (pU.out wr o6 d6 (k5+j) x BZ.out.bh (Z.out.moved BZ.out g.out (λh=>h)) (BZ.out.free Vy g.out) c);have HX:=ae c;clear c;go_wp2_with fail;go_call vP.out as e w7⟨c7,d7,o7,y,rfl,yC,he7,hy7⟩;have FU:Lk (Moved (λ_=>False) n pb db w o d w7 o7 d7 L):=ae (BZ.out.trans yC (λ_ _ h=>h));have co:Lk (w5.heap.size<=w7.heap.size):=ae (cp ke.out yC.size);have ff:=ae (lw.out.moved yC);have bd:Lk (aG w7 w5.heap.size (.slice la j lc) ((es.drop k5).take j)):=ae (yC.ownsRow F.out (λb hb=>⟨B.out b hb,λh=>h⟩));have V:Lk (∀x,(Value.slice la j lc).ownBlock=IT x->o7 x=KK):=ae (λx c=>yC.free (aA F.out x c).1 (B.out x c));have du:=ae he7;have O0:=ae hy7;clear yC he7 hy7 vP k1;have r:Lk (Lg w7 w7 (w7.alloc (Mi #[y.t,y.h,y.x,y.m] 63))):=ae aj;by_cases Ti:c7=0
     .subst Ti;obtain rfl:=O0.out rfl;clear O0 du;have u:Lk ((w7.alloc (Mi #[y.t,y.h,y.x,y.m] 63)).heap[w7.heap.size]? = IT (Mi #[y.t,y.h,y.x,y.m] 63)):=ae (Lw w7 _);have s:=ae (FU.out.below r.out);have C:=ae (ff.out.below r.out);have ce:Lk (aG (w7.alloc (Mi #[y.t,y.h,y.x,y.m] 63)) w5.heap.size (.slice la j lc) ((es.drop k5).take j)):=ae (World.ownsRow.alloc bd.out _);have dq:Lk (w5.heap.size<=(w7.alloc (Mi #[y.t,y.h,y.x,y.m] 63)).heap.size):=ae (cp co.out r.out.size);go_wp2;generalize w7.alloc (Mi #[y.t,y.h,y.x,y.m] 63)=W at *;generalize w7.heap.size=ab at *;have Q0:Lk (W.cell? ab=y.t):=ae (by rw[au u.out];rfl);have Q1:Lk (W.cell? ⟨ab,1,KK⟩=y.h):=ae (by rw[au u.out];rfl);have Q2:Lk (W.cell? ⟨ab,2,KK⟩=y.x):=ae (by rw[au u.out];rfl);have Q3:Lk (W.cell? ⟨ab,3,KK⟩=y.m):=ae (by rw[au u.out];rfl);have K3:=ae C.out.cells.2.2.1;have K4:=ae C.out.cells.2.2.2.1;refine wq W ?_;refine qz ?_ (λw' a=>by have z3:=bq a K3.out;go_simp<;>rfl);refine qz ?_ (λw' a=>by have z0:=bq a Q0.out;have z1:=bq a Q1.out;have z2:=bq a Q2.out;have z3:=bq a Q3.out;go_simp<;>rfl);refine xA rfl (λw' a=>(by go_simp;exact AZ b _ _)) (λw' a=>((HE.out y w').mono (λe mw h=>⟨h.1,a.trans (h.2.mono a.size)⟩))) (λK hK=>?_);go_simp;refine hK _ ?_;clear hK K;refine qz ?_ (λw' a=>by have z4:=bq a K4.out;go_simp<;>rfl);refine qz ?_;refine wpQuiet_nil ?_;intro W8 f;have vR:=ae (s.out.below f);have gE:=ae (C.out.below f);have A:Lk (aG W8 w5.heap.size (.slice la j lc) ((es.drop k5).take j)):=ae ((Moved.aZ s.out.bh f (S:=λ_=>False)).ownsRow ce.out (λb hb=>⟨V.out b hb,λh=>h⟩));have li:Lk (w5.heap.size<=W8.heap.size):=ae (cp dq.out f.size);have z0:=bq f Q0.out;have z1:=bq f Q1.out;have z2:=bq f Q2.out;have z3:=bq f Q3.out;clear f s C ce dq u r K3 K4 Q0 Q1 Q2 Q3 FU ff bd co W;by_cases Qg:fY b y=v
      .have yL:((es.drop k5).take j).length<=100000:=by rw[Iq.out];omega
       have nT:Lk ((es.drop k5).take (j+1)=(es.drop k5).take j++[y]):=ae (by rw[List.take_add_one,F1,HX.out];rfl)
       have J:=li.out;have i7:(fY b y:Int)=v:=af;have kw:=ae Qg;clear Qg;go_wp2_with (at_builtin;refine bR rfl _ _ rfl w5.heap.size _ _ rfl A.out y 1 rfl yL J ?_);intro l4 U X CW;obtain⟨fZ,TT,Vw,zW⟩:=CW.moved vR.out (λx c=>⟨V.out x c,cp T.out.size (aD A.out x c)⟩);have Sm:=ae fZ;have i8:Lk (gH U o7 w.heap.size kb fb vb sb b v 0):=ae (gE.out.kept (λx c=>by
        have nl:x<w5.heap.size:=by obtain⟨g1,g2,g3,g4⟩:=de.out.lts;rcases c with h | h | h | h<;>omega
        exact Vw x af (λe=>Nm (aD A.out x e))))
       have ks:Lk (w5.heap.size<=U.heap.size):=ae (cp J zW);rw[<- nT.out]at X;have ld:=ae X;have io:=ae TT;clear fZ TT Vw zW CW X z0 z1 z2 z3 J;go_wp2;go_roundw
       case rel=>exact⟨j+1,d7,o7,af,by go_num,Sm.out,ks.out,i8.out,ld.out,λx c=>(io.out x c).1,by rw[nT.out];intro x c;rcases List.mem_append.1 c with h | h;exact am.out x h;rw[List.mem_singleton.1 h];exact kw.out⟩
       case measure=>simp[Lo];omega
      .have i7:¬(fY b y:Int)=v:=af;have D:(es.drop k5).take j=ts:=Yy.out k5 j eS.out am.out (λx c=>by rw[HX.out]at c;cases c;exact Qg);have HF:=ae D;clear D Qg;go_wp2;go_ret2;exact⟨_,0,d7,o7,rfl,vR.out,.inl rfl,λ_=>⟨HF.out▸aQ A.out T.out.size,V.out⟩,λh=>absurd rfl h⟩
     .have m8:¬(c7:Int)=0:=af;have iS:=ae Ti;have jj:=ae ((du.out.resolve_left Ti).later BZ.out.on.bU);have s:=ae (FU.out.below r.out);clear Ti;go_wp2;go_ret2;exact⟨_,c7,d7,o7,rfl,s.out,.inr jj.out,λh=>absurd h iS.out,λ_=>rfl⟩
    .go_wp2;go_ret2;have mx:k5+j=M:=af;have D:(es.drop k5).take j=ts:=Yy.out k5 j eS.out am.out (λx c=>by have:=aK c;rw[<- VQ.out]at this;omega);exact⟨_,0,d6,o6,rfl,BZ.out,.inl rfl,λ_=>⟨D▸aQ F.out T.out.size,B.out⟩,λh=>absurd rfl h⟩
  .have mh:¬(c5:Int)=0:=af;have Mn:Lk (om d d5 L c5):=ae (cE.out.elim (λh=>absurd h.1 BI) id);have Tt:=ae BI;clear BI cE;go_wp2;go_quiet (fail)
   go_wp2;go_ret2;exact⟨_,c5,d5,o5,rfl,T.out.below (below_drewN aq _),.inr Mn.out,λh=>absurd h Tt.out,λ_=>rfl⟩
 .have PE:¬(c3:Int)=0:=af;have OV:=ae aE;clear aE;go_wp2;go_ret2;exact⟨_,c3,d3,o3,rfl,fH.out,BL.out,λh=>absurd h OV.out,λ_=>rfl⟩
end
section
variable {w:KX}{pb db n sb gb gen N ob ib vb v:Nat}{b:Bool}{o:ay}{d:Dsk}{L:aL}
theorem Nh(l:aV)(h:aU w pb db n o d L)(a:eF w o gb pb gen N ob ib vb)(j:aI L (aF 101 gen)=IT (az es fl))(i:Ka J0 es)(g:es.length<65536)(k:v<N)(b:v<4294967296):K1 prog 58 #[ptrTo gb,Kx Mo v] w (Qf n pb db w o d L (eJ J0 v es)):=by have f:=ae (Yx l h a.out a.Yr a.raw j i g k b);obtain⟨g0,-,-,-,-⟩:=a.raw.cells;clear h a j i g k b;unfold ptrTo tD at *;go_enter func58,ntmps58;go_wp2_with fail;go_call f.out as e w1⟨v1,c1,d1,o1,rfl,eO,yz,hx1,Yw⟩;have c:=ae (And.intro eO (And.intro yz (And.intro hx1 Yw)));clear eO yz hx1 Yw f;go_wp2;go_ret2;exact⟨v1,c1,d1,o1,rfl,c.out.1,c.out.2.1,c.out.2.2.1,c.out.2.2.2⟩
theorem Qh(l:aV)(h:aU w pb db n o d L)(a:eF w o gb pb gen N ob ib vb)(j:aI L (aF 114 gen)=IT (az es fl))(i:Ka Jd es)(g:es.length<65536)(k:v<N)(b:v<4294967296):K1 prog 59 #[ptrTo gb,Kx Mo v] w (Qf n pb db w o d L (eJ Jd v es)):=by have f:=ae (Yx l h a.vH a.oib a.raw j i g k b);obtain⟨-,m,-,-,-⟩:=a.raw.cells;clear h a j i g k b;unfold ptrTo tD at *;go_enter func59,ntmps59;go_wp2_with fail;go_call f.out as e w1⟨v1,c1,d1,o1,rfl,eO,yz,hx1,Yw⟩;have c:=ae (And.intro eO (And.intro yz (And.intro hx1 Yw)));clear eO yz hx1 Yw f;go_wp2;go_ret2;exact⟨v1,c1,d1,o1,rfl,c.out.1,c.out.2.1,c.out.2.2.1,c.out.2.2.2⟩
theorem ED(g:aV)(h:aU w pb db n o d L)(b:eF w o gb pb gen N ob ib vb)(f:aI L (aF 101 gen)=IT (az es fl)):K1 prog 118 #[ptrTo gb] w (Ia n pb db w o d L (Ib es.length)):=by
 have a:Lk (K1 prog 54 #[ptrTo ob] w (Ia n pb db w o d L (Ib es.length))):=ae (by have:=mG g h b.out b.Yr ag ag f (dN es);rw[dj]at this;exact this)
 obtain⟨g0,-,-,-,-⟩:=b.raw.cells;clear h b f;unfold ptrTo at *;go_enter func118,ntmps118;go_wp2_with fail;go_call a.out as e w1⟨c1,d1,o1,⟨x,rfl,hx⟩,eO,yz⟩;have c:=ae (And.intro eO (And.intro yz hx));clear eO yz hx a;go_wp2;go_ret2;exact⟨c1,d1,o1,⟨x,rfl,c.out.2.2⟩,c.out.1,c.out.2.1⟩
end
def bN(w:KX)(base:Nat)(v:J3)(bs:List UInt8):Prop:=
 (v=.slice KK 0 0/\bs=[]) \/
 ∃g cap a b,v=.slice (IT ⟨g,0,KK⟩) bs.length cap/\base<=g/\w.heap[g]? = IT (Mi a 5 b)/\(b.2=0\/a.size<=b.1)/\bs.length<=cap/\cap<=maxLen/\a.size=cap/\a.toList.take bs.length=bs.map bv
theorem bN.nil(w:KX)(base:Nat):bN w base (.slice KK 0 0) []:=.inl ⟨rfl,rfl⟩
theorem bN.of{w:KX}{base:Nat}{v:J3}(h:w.ownsRow base 5 1 v bs.length (bs.map bv)):bN w base v bs:=by
 obtain⟨j,⟨rfl,a⟩|⟨g,cap,b,rfl,a,e,c,d,i,f⟩⟩:=h
 .exact .inl ⟨rfl,sI.1 a⟩
 .exact .inr ⟨g,cap,b,(0,0),rfl,a,e,.inl rfl,c,d,af,M2⟩
theorem bN.base{w:KX}{base a:Nat}{v:J3}(h:bN w base v bs)(f:a<=base):bN w a v bs:=by
 rcases h with h |⟨g,cap,b,i,d,e,c⟩
 .exact .inl h
 .exact .inr ⟨g,cap,b,i,d,cp f e,c⟩
theorem bN.lt{w:KX}{base:Nat}{v:J3}(h:bN w base v bs):∀k,v.ownBlock=IT k->base<=k/\k<w.heap.size:=by
 intro k a;rcases h with⟨rfl,_⟩|⟨g,cap,b,e,rfl,c,d,_⟩
 .cases a
 .cases a;grind
theorem bN.kept{w:KX}{base:Nat}{v:J3}(h:bN w base v bs)(e:∀k,v.ownBlock=IT k->w'.heap[k]? = w.heap[k]?):bN w' base v bs:=by
 rcases h with h |⟨g,cap,a,f,rfl,c,d,b⟩
 .exact .inl h
 .exact .inr ⟨g,cap,a,f,rfl,c,(e g rfl).trans d,b⟩
theorem bN.cells{w:KX}{base g cap n:Nat}(h:bN w base (.slice g n cap) bs){j:Nat}(l:j<bs.length):w.cell? ⟨g,j,KK⟩=IT (bv bs[j]):=by
 rcases h with⟨h,_⟩|⟨p,b,a,e,h,o,c,f,i,m,k,d⟩
 .cases h
 .cases h;rw[cell_of_row w g j a _ e c];have:(a.toList.take bs.length)[j]? = (bs.map bv)[j]? := by rw[d]
  grind
theorem bN.rd{w:KX}{base:Nat}{v:J3}(h:bN w base v bs):Rd w v bs:=by
 rcases h with⟨rfl,rfl⟩|⟨g,cap,a,m,rfl,i,k,d,b,c,e,l⟩
 .exact⟨KK,0,rfl,cg _,em _,.inl rfl⟩
 .refine⟨IT ⟨g,0,KK⟩,cap,rfl,b,c,.inr ⟨g,0,rfl,λj f=>?_⟩⟩;rw[j0];exact bN.cells (.inr ⟨g,cap,a,m,rfl,i,k,d,b,c,e,l⟩) f
theorem A3{w:KX}(base ty:Nat)(v:J3)(bs:List UInt8)(h:bN w base v bs)(b c:Nat)(y:UInt8)(T:w.cell? b=IT (bv y))(I:bs.length<=100000)(f:base<=w.heap.size) :
 ∃v' w',(Builtin.append_ #[46,46] ty #[v,.slice b 1 c]).run prog w=.ok v' w'/\bN w' base v' (bs++[y])/\w.grownBy w' v.ownBlock/\(v'.ownBlock=v.ownBlock\/v'.ownBlock=IT w.heap.size):=by
 obtain⟨i0,hi,o,l,t⟩:=info_parts jZ;have d:∀(j:Nat)(u:J3),[bv y][j]? = IT u->w.cell? ((⟨b,0,KK⟩:Addr).add j)=IT u:=by grind [br]
 have m:∀g n cap,v=.slice (IT ⟨g,0,KK⟩) n cap->∀(j:Nat)(u:J3),(bs.map bv)[j]? = IT u->w.cell? ((⟨g,0,KK⟩:Addr).add j)=IT u:=by grind [br,bN.cells]
 rcases h with⟨rfl,rfl⟩|⟨g,cap,a,p,rfl,B,z,K,H,E,R,L⟩
 .obtain⟨v',w',Q,M,O,-,J⟩:=run_append_own_at (P:=prog) w base 46 ty 5 i0 (Kx .u8 0) 1 1 Tryz.underlying46 hi o l t rfl ag (.slice KK 0 0) 0 [] (gp _ _ _ _) ⟨b,0,KK⟩ 1 c [bv y] rfl d (by simp[jl]) (by grind [maxLen]) af f;grind [bN.of]
 .by_cases i:bs.length+1<=cap
  .have C:=run_firstCells_some (P:=prog) w 1 1 ⟨b,0,KK⟩ 1 c [bv y] rfl d;have q:w.cell? ⟨g,bs.length,KK⟩=IT a[bs.length]:=by rw[cell_of_row w g bs.length a _ p z];simp
   have D:w.frozen? ⟨g,bs.length,KK⟩=false:=by grind [World.frozen?]
   have r:(storeCells ⟨g,bs.length,KK⟩ [bv y] 0).run prog w=.ok () (w.setRow g (a.setIfInBounds bs.length (bv y))):=by grind [run_store,jl,setCell_eq_setRow,br,storeCells,Sem.run_bind,Result.andThen_ok,Sem.run_pure]
   have A:(bs++[y]).length=bs.length+1:=ai;have G:bs.length<a.toList.length:=M2;refine⟨.slice (IT ⟨g,0,KK⟩) (bs.length+1) cap,w.setRow g (a.setIfInBounds bs.length (bv y)),?_,.inr ⟨g,cap,a.setIfInBounds bs.length (bv y),p,ai,B,setRow_heap w g a _ _ p z,M2,af,E,M2,?_⟩,⟨rfl,rfl,rfl,ai,λk _ s=>setRow_other w g k _ (λe=>s (by simp[Value.ownBlock,e]))⟩,.inl rfl⟩
   .simp[Builtin.append_,run_underlying Tryz.underlying46,sizeOf,typeInfo,hi,l,Builtin.lenOf,i,C,br,r]
   grind [List.take_add_one,List.take_set_of_le]
  .have F:=run_append_grow (P:=prog) w 46 ty 5 i0 (Kx .u8 0) Tryz.underlying46 hi o ⟨g,0,KK⟩ bs.length cap (bs.map bv) M2 (m g _ _ rfl) ⟨b,0,KK⟩ 1 c [bv y] M2 d af af (growslice_fits af M2);have N:=grownCap_ge w (bs.length+1) cap 5;have x:grownCap w (bs.length+1) cap 5<=maxLen:=grownCap_le_maxLen w (bs.length+1) cap 5 (by grind [maxLen]);refine⟨_,_,F,.inr ⟨w.heap.size,_,_,(0,0),?_,f,Lw w.drew _,.inl rfl,?_,x,?_,?_⟩,⟨rfl,rfl,rfl,ai,λk s _=>(MapKept.heap_alloc w.drew _).2 k s⟩,.inr rfl⟩
   .simp
   .grind
   .simp only[Array.size_append,List.size_toArray,size_zeroCells,dj,List.length_cons,List.length_nil];have S:(Value.int IntKind.u8 0).cells.size=1:=rfl;grind
   grind
section
variable {w:KX}{ops:Array Oper}{rest:List Oper}{r:Oper}{a:Act}
theorem nH(e:r.guard=KK)(s x:Operand)(l:r.op=.call { callee:=.builtin .append,args:=#[s,x],argTypes:=#[46,46] })(base:Nat)(v:J3)(bs:List UInt8)(m:a.eval s=v)(h:bN w base v bs)(y:UInt8)(b c:Nat)(j:a.eval x=.slice b 1 c)(n:w.cell? b=IT (bv y))(i:bs.length<=100000)(d:base<=w.heap.size)(k:∀v' w',bN w' base v' (bs++[y])->w.grownBy w' v.ownBlock->wpList prog ops Q rest (a.put r.dst v') w') :
 wpList prog ops Q (r::rest) a w:=by refine wpList_plain e λK hK=>?_;obtain⟨v',w',o,g,f,p⟩:=A3 base r.type v bs h b c y n i d;unfold Oper.wp execOp;simp only[l,resolve,invoke,builtin,Sem.run_bind,Sem.run_pure,Result.andThen_ok,List.map_toArray,List.map_cons,List.map_nil,m,j,o];exact hK _ _ (k v' w' g f)
theorem bN.alloc{base:Nat}{v:J3}(h:bN w base v bs)(b:Obj):bN (w.alloc b) base v bs:=h.kept (λk a=>(MapKept.heap_alloc w _).2 k (h.lt k a).2)
end
def vr(w:KX)(bs:List UInt8)(e:Lp)(w':KX):Prop:=
 ∃v',e=Mk v'/\bN w' w.heap.size v' bs/\Lg w w w'
theorem Kb(w:KX)(s:ByteArray)(g:s.size<=100000):bN (Lib.bytesWorld w 5 s) w.heap.size (.slice w.heap.size s.size (grownCap w s.size 0 5)) s.data.toList:=by
 have a:s.data.toList.length=s.size:=by rw[Array.length_toList];rfl
 have f:=grownCap_ge w s.size 0 5;have b:=grownCap_le_maxLen w s.size 0 5 (by unfold maxLen;omega);have c:(Lib.bytesCells w 5 s).size=grownCap w s.size 0 5:=by unfold Lib.bytesCells;rw[Array.size_append,Array.size_map,Array.size_replicate];have:s.data.size=s.size:=rfl;omega
 have e:(Lib.bytesWorld w 5 s).heap[w.heap.size]? = IT (Mi (Lib.bytesCells w 5 s) 5 ((Lib.bytesCells w 5 s).size,(Lib.bytesCells w 5 s).size+1)):=by unfold Lib.bytesWorld World.freeze;rw[if_neg ag];have d:=Lw w.drew (Mi (Lib.bytesCells w 5 s) 5);rw[World.size_drew]at d;dsimp only;rw[Array.getElem?_modify,if_pos rfl,d];simp
 refine .inr ⟨w.heap.size,_,_,_,by rw[a],cg _,e,.inr (cg _),af,b,c,?_⟩;unfold Lib.bytesCells;rw[Array.toList_append,List.take_append_of_le_length ai,Array.toList_map,ey ai];rfl
theorem GV(v:J3)(bs:List UInt8)(w:KX)(p:Rd w v bs)(q:bs.length<=1000):K1 prog 149 #[v] w (vr w bs):=by
 obtain⟨a,cap,rfl,f,d,g⟩:=p;by_cases i:bs.length=0
 .have h:bs=[]:=sI.1 i;subst h;clear g f d;go_enter func149,ntmps149;go_wp2;go_ret;exact⟨_,rfl,bN.nil _ _,Below.refl _ _⟩
 .obtain⟨b,e,rfl,c⟩:=g.resolve_left i;have o:Sem.run prog (convert 46 9 (.slice (IT ⟨b,e,KK⟩) bs.length cap)) w=.ok (.string ⟨bs.toArray⟩) w:=
   run_convert_bytes_back (P:=prog) w 46 9 5 ⟨b,e,KK⟩ cap bs Tryz.underlying46 Tryz.underlying5 Tryz.underlying9 (λj k=>by rw[br];exact c j k)
  have n:=Lib.run_convert_string_bytes (P:=prog) w 9 46 5 ⟨bs.toArray⟩ Tryz.underlying9 Tryz.underlying46 Tryz.underlying5;have m:=ae (Kb w ⟨bs.toArray⟩ (by show bs.toArray.size<=_;simp;omega));have h:=ae (Joins.below_bytesWorld w.heap.size w 5 ⟨bs.toArray⟩ (cg _));have l:¬(bs.length:Int)=0:=af;clear c g f d;go_enter func149,ntmps149;go_wp2;go_ret;exact⟨_,rfl,m.out,h.out⟩
theorem ab0(w:KX):K1 prog 150 #[Kx Mm 4] w λe w'=>e=Mk (.bool Jd)/\w=w':=by go_enter func150,ntmps150;go_wp2;go_ret;exact⟨rfl,rfl⟩
theorem ab1(w:KX):K1 prog 150 #[Kx Mm 8] w λe w'=>e=Mk (.bool Jd)/\w=w':=by go_enter func150,ntmps150;go_wp2;go_ret;exact⟨rfl,rfl⟩
theorem Ud(size:Nat)(a:size=4\/size=8)(w:KX):K1 prog 150 #[size] w λe w'=>e=Mk (.bool Jd)/\w=w':=by
 rcases a with rfl | rfl
 .exact ab0 w
 .exact ab1 w
theorem xT(v:J3)(bs:List UInt8)(x size:Nat)(w:KX)(B:size=4\/size=8)(D:x<18446744073709551616)(t:Rd w v bs)(H:bs.length<=900):K1 prog 79 #[v,Kx MJ x,size] w (vr w (bs++le x size)):=by
 have f:=ae (GV v bs w t af);have m:=ae (Ud size B);have I:size<=8:=af;clear t B;go_enter func79,ntmps79;go_wp2_with fail;go_call f.out as e w1⟨v1,rfl,hb1,oh⟩;have C:=ae hb1;have r:=ae oh;clear hb1 oh f;go_wp2;go_loopw [1,7,8] (λy l i wr=>∃k:Nat,k<=size/\y=Kx MJ (x/256^k:Nat)/\i=k/\bN wr w.heap.size l (bs++le x k)/\Lg w w wr) (λ_ _ i _=>size-(Lo i).toNat)
 case atStart=>exact⟨0,em _,ai,rfl,by simpa[le]using C.out,r.out⟩
 case round=>
  obtain⟨k,u,rfl,rfl,g,s⟩:=hrel;have p:=ae g;have a:=ae s;clear g s;by_cases G:k<size
  .have J:x/256^k<18446744073709551616:=Nat.lt_of_le_of_lt (Nat.div_le_self _ _) D;have c:x/256^(k+1)=x/256^k/256:=by rw[Nat.pow_succ,Nat.div_div_eq_div_mul]
   have F:Lk (le x (k+1)=le x k++[UInt8.ofNat (x/256^k)]):=ae rfl;have q:=ae c;have j:(bs++le x k).length<=100000:=by rw[eh,bL];omega
   have b:w.heap.size<=wr.heap.size:=a.out.size;clear c;generalize x/256^k=z at *;go_wp2_with fail;go_call(m.out wr) as e w'⟨rfl,rfl⟩;have o:Lk (bv (UInt8.ofNat z)=Kx .u8 (z%256:Nat)):=ae (by unfold bv;simp);go_wp2_with (at_builtin;refine nH rfl _ _ rfl w.heap.size _ _ rfl (p.out.alloc _) (UInt8.ofNat z) wr.heap.size 1 rfl ?c1 j ?c2 ?_);case c1=>rw[o.out];simp
   case c2=>simp;omega
   intro v4 A h d;have E:Lk (bN A w.heap.size v4 (bs++le x (k+1))):=ae (by rw[F.out,<- List.append_assoc];simpa using h);have n:Lk (Lg w w A):=ae ((a.out.alloc b _).grown d (by simp;omega) (λk u=>(p.out.lt k u).1));clear h d;go_wp2;go_roundw
   case rel=>exact⟨k+1,af,by rw[q.out];rfl,by go_num,E.out,n.out⟩
   case measure=>simp[Lo];omega
  .go_wp2;obtain rfl:k=size:=af
   go_ret;exact⟨_,rfl,p.out,a.out⟩
theorem B0(e:aJ)(w:KX):K1 prog 39 #[LV #[e.t,e.h,e.x,e.m]] w (vr w e.bytes):=by
 have b:=ae xT;have N:=e.t.toNat_lt;have R:=e.h.toNat_lt;have P:=e.x.toNat_lt;have M:=e.m.toNat_lt;have m:Lk (e.bytes=le e.t.toNat 4++le e.h.toNat 4++le e.x.toNat 8++le e.m.toNat 4):=ae rfl;generalize e.bytes=bs at *;generalize e.t.toNat=c at *;generalize e.h.toNat=d at *;generalize e.x.toNat=f at *;generalize e.m.toNat=g at *;go_enter func39,ntmps39;have o:Lk (Lg w w (w.alloc (Mi #[Kx Mo c,Kx Mo d,Kx MJ f,Kx Mo g] 63))):=ae aj;have y:Lk ((w.alloc (Mi #[Kx Mo c,Kx Mo d,Kx MJ f,Kx Mo g] 63)).heap[w.heap.size]? = IT (Mi #[Kx Mo c,Kx Mo d,Kx MJ f,Kx Mo g] 63)):=ae (Lw w _);have E:=ae (bN.nil (w.alloc (Mi #[Kx Mo c,Kx Mo d,Kx MJ f,Kx Mo g] 63)) w.heap.size).rd;go_wp2_with fail;generalize w.alloc (Mi #[Kx Mo c,Kx Mo d,Kx MJ f,Kx Mo g] 63)=w0 at *;have a:Lk (∀W,Lg w0 w0 W->W.cell? w.heap.size=IT (Kx Mo c)/\W.cell? ⟨w.heap.size,1,KK⟩=IT (Kx Mo d)/\W.cell? ⟨w.heap.size,2,KK⟩=IT (Kx MJ f)/\W.cell? ⟨w.heap.size,3,KK⟩=IT (Kx Mo g)):=ae (λW L=>by have F:=(L.block _ (bD y.out)).trans y.out;refine⟨?_,?_,?_,?_⟩<;>rw[au F]<;>rfl)
 refine(b.out (.slice KK 0 0) [] c 4 w0 (.inl rfl) af E.out ag).mono ?_;rintro S r⟨A,rfl,i,x⟩;have p:=ae x;have z:=ae i;obtain⟨-,C,-,-⟩:=a.out r p.out;clear i x;go_wp2_with fail;refine(b.out A (le c 4) d 4 r (.inl rfl) af z.out.rd (by rw[bL];omega)).mono ?_;rintro O t⟨v2,rfl,j,s⟩;have n:=ae (p.out.trans (s.mono p.out.size));have K:=ae j;obtain⟨-,-,J,-⟩:=a.out t n.out;clear j s C;go_wp2_with fail;refine(b.out v2 (le c 4++le d 4) f 8 t (.inr rfl) af K.out.rd (by rw[eh,bL,bL];omega)).mono ?_;rintro T u⟨v3,rfl,h,v⟩;have l:=ae (n.out.trans (v.mono n.out.size));have D:=ae h;obtain⟨-,-,-,G⟩:=a.out u l.out;clear h v J;go_wp2_with fail;refine(b.out v3 (le c 4++le d 4++le f 8) g 4 u (.inl rfl) af D.out.rd (by simp only[eh,bL];omega)).mono ?_;rintro Q I⟨v4,rfl,k,q⟩;have B:=ae (l.out.trans (q.mono l.out.size));have H:Lk (bN I w.heap.size v4 bs):=ae (by rw[m.out];exact k.base (cp o.out.size l.out.size));clear k q G;go_wp2;go_ret;exact⟨_,rfl,H.out,o.out.trans (B.out.mono o.out.size)⟩
structure Held(w0 w:KX)(pb db n:Nat)(o:ay)(d:Dsk)(L:aL):Prop where
 bh:aU w pb db n o d L
 new:∀x t,o x=IT t->w0.heap.size<=x
 below:Lg w0 w0 w
 dS:d.dS=0
 dead:d.dead=J0
 bU:d.bU=131072
section
variable {w0 w:KX}{pb db n:Nat}{o:ay}{d:Dsk}{L k:aL}
theorem Held.moved(h:Held w0 w pb db n o d L)(a:Moved S n pb db w o d w' o' d' L')(l:∀x,S x->w0.heap.size<=x):Held w0 w' pb db n o' d' L':=by
 have f:=h.below.size;refine⟨a.bh,λx t c=>?_,?_,(a.on.calm h.dS).1,(a.on.calm h.dS).2 h.dead,a.on.bU.trans h.bU⟩
 .rcases lb x w.heap.size with e | g
  .rw[a.grow x e]at c;exact h.new x t c
  .omega
 .refine h.below.trans ⟨a.turn.os,a.turn.tape,a.turn.output,a.size,λk j=>a.turn.block k af ?_⟩;rintro(⟨t,b,i⟩| b)
  .have:=h.new k t b;omega
  grind
theorem Held.later(h:Held w0 w pb db n o d L)(a:Lg w w w'):Held w0 w' pb db n o d L:=⟨h.bh.below a,h.new,h.below.trans (a.mono h.below.size),h.dS,h.dead,h.bU⟩
theorem Held.fine(h:Held w0 w pb db n o d L)(e:Moved S n pb db w o d w' o' d' L'){B c:Nat}(b:c=0\/lM d d' B c)(f:B<=131072):c=0:=by
 refine b.elim id λb=>?_;rcases b with⟨_,a⟩|⟨_,a⟩
 .grind [bU]
 .rw[(e.on.calm h.dS).2 h.dead]at a;cases a
theorem Held.wX(h:Held w0 w pb db n o d L)(f:Moved S n pb db w o d w' o' d' L'){c:Nat}(b:c=0\/om d d' k c)(a:need k<=131072):c=0:=
 h.fine f (b.imp id λe=>e.num a) (cg _)
theorem Held.tick(h:Held w0 w pb db n o d L):d.tick.dead=false:=by grind [Dsk.tick,dS,dead]
theorem Ue(q n:Nat):Sound (Dsk.new q) (ei n cB.none) []:=by
 have c:∀a∈ei n cB.none,a=cB.none:=λa h=>(List.mem_replicate.1 h).2;refine⟨ai,by simp[Dsk.new],λx=>rfl,λx h=>by simp[aI]at h,λx ps fl h=>by simp[aI]at h,λx f g h=>by simp[aI]at h,λa h b=>?_,λa h _=>c a h,λi j e l d k b=>?_,λx s h=>by grind [Dsk.new]⟩
 .rw[c a h]at b;cases b
 .rw[c e (cx d)]at b;cases b
def gR(w:KX)(v:J3)(es:List aJ):Prop:=
 ∃a cap,v=.slice a es.length cap/\(es.length=0\/∃b c,a=IT ⟨b,c,KK⟩/\∀(j:Nat)(x:aJ),es[j]? = IT x->w.cell? ⟨b,c+j*4,KK⟩=x.t/\w.cell? ⟨b,c+j*4+1,KK⟩=x.h/\w.cell? ⟨b,c+j*4+2,KK⟩=x.x/\w.cell? ⟨b,c+j*4+3,KK⟩=x.m)
theorem gR.below{w:KX}{v:J3}(h:gR w v es)(e:Lg w w w'):gR w' v es:=by
 obtain⟨a,cap,rfl,h |⟨b,c,rfl,f⟩⟩:=h
 .exact⟨a,cap,rfl,.inl h⟩
 .refine⟨_,cap,rfl,.inr ⟨b,c,rfl,λj x d=>?_⟩⟩;grind [bq]
end
structure Kept(q:Nat)(w0 w:KX)(pb db n:Nat)(o:ay)(d:Dsk)(L:aL):Prop where
 bh:aU w pb db n o d L
 new:∀x t,o x=IT t->w0.heap.size<=x
 below:Lg w0 w0 w
 dS:d.dS=0
 dead:d.dead=J0
 bU:d.bU=q
section
variable {q:Nat}{w0 w:KX}{pb db n:Nat}{o:ay}{d:Dsk}{L k:aL}
theorem Kept.later(h:Kept q w0 w pb db n o d L)(a:Lg w w w'):Kept q w0 w' pb db n o d L:=⟨h.bh.below a,h.new,h.below.trans (a.mono h.below.size),h.dS,h.dead,h.bU⟩
theorem Kept.count(h:Kept q w0 w pb db n o d L):d.files.length=L.length:=by
 obtain⟨_,_,_,_,_,_,_,g⟩:=h.bh;have a:(d.files.map (·.1)).Perm (L.map (·.1)):=by grind [List.perm_ext_iff_of_nodup,Sound.ij,Sound.keys,mem_keys,Sound.names]
 have:=a.length_eq;grind
end
def CF:Name:=⟨#[120]⟩
def GX(es:List aJ)(L:aL):Prop:=(∃fl,aI L CF=IT (az es fl))/\(∀y,y≠CF->aI L y=KK)/\need L<=4*es.length
theorem A5{L:aL}{nm:Name}{f:jV}(h:∀y,y≠nm->aI L y=KK):aX L nm f=[(nm,f)]:=by
 unfold aX;have:b9 L nm=[]:=by
  rw[List.eq_nil_iff_forall_not_mem];rintro⟨y,g⟩c;have b:y∈(b9 L nm).map (·.1):=gl.2 ⟨_,c,rfl⟩;rw[mem_keys,cV]at b;split at b
  .cases b
  .rename_i a
   rw[h y (by first | exact a | exact λe=>a e.symm)]at b;cases b
 rw[this]
theorem GX.add{x:aJ}{L:aL}(h:GX es L):GX (es++[x]) (aX L CF (az (es++[x]) J0)):=by refine⟨⟨J0,by rw[aC,if_pos rfl]⟩,λy a=>by rw[A5 h.2.1];rw[<- A5 (L:=[]) (λ_ _=>rfl),aC,if_neg a];rfl,?_⟩;rw[A5 h.2.1,mn];have:=dz (es++[x]) J0;show _+0<=_;omega
def Sp(w:KX)(n:Nat)(es:List aJ)(e:Lp)(w':KX):Prop:=
 ∃db pb o d L,e=Mk (Ly #[ptrTo db,ptrTo pb])/\Held w w' pb db n o d L/\GX es L
theorem ab2(HW:aV)(n:Nat)(h1:1<=n)(h2:n<=4096)(v:J3)(es:List aJ)(w:KX)(hv:gR w v es)(P:es.length<=10000):K1 prog 17 #[n,v] w (Sp w n es):=by
 have F6:Lk (K1 prog 34 #[Kx Mm 131072] w λe w'=>∃db o,e=Mk (Ly #[ptrTo db,Kx Mm 0])/\cI w' db o (Dsk.new 131072)/\Lg w w w'/\∀x t,o x=IT t->w.heap.size<=x):=ae (LK 131072 ag w);have j:Lk (∀W db o,cI W db o (Dsk.new 131072)->K1 prog 35 #[ptrTo db,n] W (BK W db n o (Dsk.new 131072) [])):=ae (λW db o h=>Mx h n h1 h2 (Ue _ n));have HV:=ae hv;obtain⟨a,cap,rfl,-⟩:=hv;unfold ptrTo at *;go_enter func17,ntmps17;go_wp2_with fail;go_call F6.out as e w1⟨db,o1,rfl,qE,hb1,tQ⟩;have r:=ae (j.out w1 db o1 qE);have V:=ae hb1;have Cm:=ae tQ;clear qE hb1 tQ F6 j;unfold ptrTo at *;go_wp2_with fail;go_call r.out as e w2⟨pb,o2,rfl,mF,hb2,hg2,Td⟩;have C:Lk (Held w w2 pb db n o2 (Dsk.new 131072) []):=ae ⟨mF,λx t l=>by
  rcases lb x w1.heap.size with P | hg
  .rw[hg2 x P]at l;exact Cm.out x t l
  .exact cp V.out.size hg,V.out.trans (hb2.mono V.out.size),rfl,rfl,rfl⟩
 clear mF hb2 hg2 Td r;have z:dK (Dsk.new 131072) [] CF=0:=ag;have q:=ae (mP C.out.bh CF ag);unfold iC at q;rw[z]at q;simp only[if_true]at q;clear z;have N:Lk (∀W o' d' L',aU W pb db n o' d' L'->d'.dead=J0->GX [] L'->K1 prog 37 #[ptrTo pb,.string CF,Kx Mm 20] W (eT W pb CF 20 0)):=ae (λW o' d' L' H hd R=>by have E:=eU (sz:=20) H CF ag ag ag;obtain⟨fl,Q⟩:=R.1;rw[jH H Q,hd]at E;exact E)
 have PH:Lk (∀W o' d' L' sb D(x:aJ)(k:Nat),aU W pb db n o' d' L'->aM W sb pb CF 20->o' sb=KK->GX (es.take k) L'->Rd W D x.bytes->(∀y,D.ownBlock=IT y->o' y=KK)->K1 prog 38 #[ptrTo sb,D] W (ll (λ_=>False) n pb db W o' d' L' (aX L' CF (az (es.take k++[x]) J0)))):=ae (λW o' d' L' sb D x k H Z ho R vP J=>by obtain⟨fl,Q⟩:=R.1;have E:=mH HW H Z ho ag ag Q (dN _) (by rw[dj,et];omega) vP x.fE J;unfold az;rw[k8];exact E)
 have s:Lk (GX [] (aX [] CF (.inl (([]:List Pg),Jd)))):=ae ⟨⟨Jd,by rw[aC,if_pos rfl];rfl⟩,λy I=>by rw[aC,if_neg I];rfl,cg _⟩;unfold ptrTo CF at *;go_wp2_with fail;go_call q.out as e w3⟨d3,o3,rfl,fD,hx3,-⟩;have Dw:=ae (hx3 trivial);have O:=ae (C.out.moved fD (λ_ h=>h.elim));clear fD hx3 q;have g:=ae (N.out w3 o3 d3 _ O.out.bh Dw.out s.out);go_wp2_with fail;go_call g.out as e w4⟨v4,rfl,hb4,r8,-⟩;obtain⟨sb,rfl,Jz,zi⟩:=r8 rfl;have za:=ae Jz;have T:Lk (o3 sb=KK):=ae (O.out.bh.fresh zi);have X:=ae (O.out.later hb4);clear r8 Jz zi hb4 g;unfold ptrTo at *;obtain⟨M,G⟩:=ac es.length;rw[<- G]at P;have m:=HV;rw[<- G]at m ⊢;have VQ:=ae G;clear G HV;go_wp2;go_loopw [10] (λi wr=>∃(k:Nat)(d':Dsk)(o':ay)(L':aL),k<=M/\i=k/\Held w wr pb db n o' d' L'/\GX (es.take k) L'/\aM wr sb pb ⟨#[120]⟩ 20/\o' sb=KK) (λi _=>M-(Lo i).toNat)
 case atStart=>exact⟨0,d3,o3,_,em _,rfl,X.out,s.out,za.out,T.out⟩
 case round=>
  obtain⟨k,d5,o5,L5,hk,rfl,S7,Kc,A,B⟩:=hrel;have c:=ae S7;have F:=ae Kc;have MZ:=ae A;have Y:=ae B;clear S7 Kc A B;by_cases al:k<M
  .have S:k<es.length:=by rw[<- VQ.out];exact al
   have l:es[k]? = IT es[k]:=bk S;have nT:Lk (es.take (k+1)=es.take k++[es[k]]):=ae (fh S);obtain⟨a',p,BM,u⟩:=m.out;obtain⟨rfl,-,rfl⟩:a=a'/\M=es.length/\cap=p:=by simpa using BM
   obtain⟨b,am,rfl,VT⟩:=u.resolve_left af;obtain⟨q0,q1,q2,q3⟩:=VT k _ l;generalize es[k]=x at *;clear u VT BM l S;have z0:=bq c.out.below q0;have z1:=bq c.out.below q1;have z2:=bq c.out.below q2;have z3:=bq c.out.below q3;clear q0 q1 q2 q3;have Ld:=ae (B0 x wr);go_wp2_with fail;go_call Ld.out as e w6⟨v6,rfl,Cr,hB6⟩;have kQ:=ae (PH.out w6 o5 d5 L5 sb v6 x k (c.out.bh.below hB6) (MZ.out.below hB6) Y.out F.out Cr.rd (λy I=>c.out.bh.fresh (Cr.lt y I).1));have d:=ae (c.out.later hB6);have L:=ae (MZ.out.below hB6);clear Cr hB6 Ld z0 z1 z2 z3;go_wp2_with fail;go_call kQ.out as e w7⟨c7,d7,o7,rfl,yC,he7⟩;have f:=F.out.add (x:=x);have Ti:c7=0:=d.out.wX yC he7 (by have:=F.out.2.2;rw[et]at this;omega)
   subst Ti;rw[if_pos rfl]at yC;rw[<- nT.out]at f yC;have U:=ae (d.out.moved yC (λ_ h=>h.elim));have FV:=ae f;have Ya:=ae (L.out.moved yC Y.out (λh=>h));have K:=ae (yC.free L.out.lt Y.out);clear yC he7 f kQ d L;go_wp2;go_roundw
   case rel=>exact⟨k+1,d7,o7,_,af,by go_num,U.out,FV.out,Ya.out,K.out⟩
   case measure=>simp[Lo];omega
  .go_wp2;go_returns;have aE:k=es.length:=by rw[<- VQ.out];omega
   exact⟨db,pb,o5,d5,L5,rfl,c.out,by have:=F.out;rwa [ey af]at this⟩
end Go.Proofs.YtofigggbapdfhaaGreatDoor
namespace Go.Proofs
open Go.Shelf
def Tryz.sortStrs_ren:Go.Shelf.Ren:=⟨λ| 190=>33 | 125=>72 | 258=>73 | 128=>134 | 129=>135 | 302=>136 | 303=>137 | 304=>138 | 305=>139 | 306=>140 | 307=>141 | 308=>142 | 309=>143 | 310=>144 | 333=>192 | 329=>188 | 330=>189 | 334=>193 | 335=>194 | 336=>195 | 344=>231 | n=>n,λ| 31=>56 | 9=>9 | 3=>3 | 46=>156 | 0=>0 | 51=>33 | 53=>61 | 4=>4 | 183=>220 | 182=>219 | 131=>224 | 5=>5 | 218=>264 | 222=>268 | 228=>307 | 229=>54 | n=>n,λ| n=>n⟩
theorem Tryz.sortStrs:Go.Proofs.Lays.n190 prog Tryz.sortStrs_ren:={
 mixed:=ah
 f125:=func72.trans ar
 f128:=func134.trans ar
 f129:=func135.trans ar
 f190:=func33.trans ar
 f258:=func73.trans ar
 f302:=func136.trans ar
 f303:=func137.trans ar
 f304:=func138.trans ar
 f305:=func139.trans ar
 f306:=func140.trans ar
 f307:=func141.trans ar
 f308:=func142.trans ar
 f309:=func143.trans ar
 f310:=func144.trans ar
 f329:=func188.trans ar
 f330:=func189.trans ar
 f333:=func192.trans ar
 f334:=func193.trans ar
 f335:=func194.trans ar
 f336:=func195.trans ar
 f344:=func231.trans ar
 t0:=Tryz.underlying0
 a0:=Tryz.isAgg0
 z0:=Tryz.sizeOf0
 v0:=Tryz.zeroValue0
 t3:=Tryz.underlying3
 a3:=Tryz.isAgg3
 z3:=Tryz.sizeOf3
 v3:=Tryz.zeroValue3
 t4:=Tryz.underlying4
 a4:=Tryz.isAgg4
 z4:=Tryz.sizeOf4
 v4:=Tryz.zeroValue4
 t5:=Tryz.underlying5
 a5:=Tryz.isAgg5
 z5:=Tryz.sizeOf5
 v5:=Tryz.zeroValue5
 t9:=Tryz.underlying9
 a9:=Tryz.isAgg9
 z9:=Tryz.sizeOf9
 v9:=Tryz.zeroValue9
 t31:=Tryz.underlying56
 a31:=Tryz.isAgg56
 z31:=Tryz.sizeOf56
 v31:=Tryz.zeroValue56
 t46:=Tryz.underlying156
 a46:=Tryz.isAgg156
 z46:=Tryz.sizeOf156
 v46:=Tryz.zeroValue156
 t51:=Tryz.underlying33
 a51:=Tryz.isAgg33
 z51:=Tryz.sizeOf33
 v51:=Tryz.zeroValue33
 t53:=Tryz.underlying61
 a53:=Tryz.isAgg61
 z53:=Tryz.sizeOf61
 v53:=Tryz.zeroValue61
 t131:=Tryz.underlying224
 a131:=Tryz.isAgg224
 z131:=Tryz.sizeOf224
 v131:=Tryz.zeroValue224
 t182:=Tryz.underlying219
 a182:=Tryz.isAgg219
 z182:=Tryz.sizeOf219
 v182:=Tryz.zeroValue219
 t183:=Tryz.underlying220
 a183:=Tryz.isAgg220
 z183:=Tryz.sizeOf220
 v183:=Tryz.zeroValue220
 t218:=Tryz.underlying264
 a218:=Tryz.isAgg264
 z218:=Tryz.sizeOf264
 v218:=Tryz.zeroValue264
 t222:=Tryz.underlying268
 a222:=Tryz.isAgg268
 z222:=Tryz.sizeOf268
 v222:=Tryz.zeroValue268
 t228:=Tryz.underlying307
 a228:=Tryz.isAgg307
 z228:=Tryz.sizeOf307
 v228:=Tryz.zeroValue307
 t229:=Tryz.underlying54
 a229:=Tryz.isAgg54
 z229:=Tryz.sizeOf54
 v229:=Tryz.zeroValue54 }
end Go.Proofs
namespace Go.Proofs.YtofigggbapdfhaaGreatDoor
open Go.RowKit Go.Maps Go.ChangeMaps Go.ChangeShapes Go.WideShapes Go.ChangeAt Go.Joins Go.MapKept
open Go.Proofs.Tryz
open Go renaming World->KX,Value->J3,Calls->K1,Ending->Lp,heap_alloc_new->Lw
open Go.RowKit renaming Below->Lg,Hid->Lk,intOf->Lo
open Go.Value renaming int->Kx,tuple->Ly,agg->LV
open Go.Obj renaming cells->Mi
open Go.Ending renaming returned->Mk
open Go.IntKind renaming i64->Mm,u32->Mo,u64->MJ
open Go.IntKind renaming wrap->cf,wrap_u32->Hz
open Go.RowKit.Below renaming heap_setCell->e8
open Go.Value renaming slice->fz,string->ki,ownBlock->B2
open Go.World renaming ownsRow_nil->gp,block_lt_of_cell?->jK
variable {db j n gen:Nat}{d:Dsk}{w0 w':KX}{L:aL}{z:Int}{H:Type}{u:Nat->Bool}{es:List aJ}{vs:List bZ}{ops:Array Oper}{Q:Exit->Act->KX->Prop}{v':J3}{K:Act->KX->Prop}{E:Prop}{name:Name}{bs:List UInt8}
theorem B5(l:List Name):(l.map (λx:Name=>x.data.toList)).map Go.Proofs.encStr=l.map ki:=by rw[rj];congr 1
def Ni(w:KX)(base g len cap:Nat)(ns:List Name)(e:Lp)(w':KX):Prop:=
 ∃ts:List Name,e=Mk (Ly #[])/\ts.Perm ns/\w'.ownsRow base 9 1 (.slice g len cap) len (ts.map ki)/\aN (·=g) w w'
theorem Nj(l:List (List UInt8)):(l.map λb=>(⟨b.toArray⟩:Name)).map (λx:Name=>x.data.toList)=l:=by
 rw[rj];conv=>rhs;rw[<- List.map_id l]
 congr 1
theorem Ke{w:KX}{base g len cap:Nat}{ns:List Name}(c:ns.length=len)(j:len<4611686018427387904)(d:w.ownsRow base 9 1 (.slice g len cap) len (ns.map ki)):K1 prog 33 #[.slice g len cap] w (Ni w base g len cap ns):=by
 obtain⟨o,⟨r,_⟩|⟨A,p,v,s,q,h,u,t,i,l⟩⟩:=d
 .cases r
 cases s;rw[Nat.mul_one]at l;have z:=holds_of_block Go.Proofs.encStr (ss:=ns.map λx:Name=>x.data.toList) h (by rw[B5,dj,c];exact l);have a:=Any.slices_Sort_string Tryz.sortStrs g 0 cap (ns.map λx:Name=>x.data.toList) w z (ds.1 h).1 (by rw[dj,c];exact j);rw[dj,c]at a;go_call a as e w'⟨rfl,n,os,rfl⟩;have m:((ns.map λx:Name=>x.data.toList).mergeSort λx y=>decide (x<=y)).Perm (ns.map λx:Name=>x.data.toList):=List.mergeSort_perm _ _;generalize ((ns.map λx:Name=>x.data.toList).mergeSort λx y=>decide (x<=y))=ts at *;refine⟨ts.map λb=>(⟨b.toArray⟩:Name),rfl,?_,?_,uf Go.Proofs.encStr _⟩
 .have f:=m.map (λb=>(⟨b.toArray⟩:Name));rw[rj]at f;have:((λb=>(⟨b.toArray⟩:Name)) ∘ λx:Name=>x.data.toList)=id:=by
   funext x
   simp
  rw[this,List.map_id]at f;exact f
 .have k:=ownsRow_sorted (base:=base) (g:=g) (cap:=cap) (n:=n) (e:=9) (os:=os) Go.Proofs.encStr (ss:=ns.map λx:Name=>x.data.toList) (ts:=ts) m.length_eq q h (by rw[dj,c];exact u) t i;rw[dj,c,<- Nj ts,B5,Nj]at k;exact k
def Ir(w:KX)(d:Dsk)(e:Lp)(w':KX):Prop:=
 ∃(v:J3)(ns:List Name),e=Mk v/\ns.Perm (d.files.map (·.1))/\w'.ownsRow (w.heap.size+1) 9 1 v ns.length (ns.map ki)/\Lg w w w'
theorem Iu{w:KX}{o:ay}(h:cI w db o d)(N:d.files.length<=1000):K1 prog 14 #[ptrTo db] w (Ir w d):=by
 obtain⟨z,ml,l,h⟩:=h;have H:=ae h;have Yz:d.files.map (·.1)=l.map (·.1):=by rw[<- h.strip,rj];rfl
 have HN:Lk (l.length<=1000):=ae (by rw[<- h.strip,dj]at N;exact N);unfold Ir;rw[Yz];obtain⟨⟨ac,M,L,T,je⟩,Q,K,Cl⟩:=h.head.cells;clear h M L T je Q K Cl Yz N;unfold ptrTo;go_enter func14,ntmps14;go_wp2_with (at_range;refine lU _ rfl _ _ rfl 80 Tryz.underlying81 z l rfl H.out.files ?_;intro p tj);go_frame
 have aE:=H.out.owned _ _ H.out.FA;go_loopw [3] (λv wr=>∃(b:List (Name×(Nat×bY)))(a:List Name),wr.ownsRow (w.heap.size+1) 9 1 v a.length (a.map ki)/\cL prog 9 ki (λx:Nat×bY=>ptrTo x.1) wr z w.heap.size l b/\Lg w w wr/\Lk ((a++b.map (·.1)).Perm (l.map (·.1)))) (λ_ wr=>wr.rangeLeft z w.heap.size)
 case atStart=>exact⟨_,[],⟨rfl,.inl ⟨rfl,rfl⟩⟩,tj,aq.alloc (cg _) _,ae (List.Perm.refl _)⟩
 case round=>
  generalize u3=v at *;obtain⟨b,a,Z,hi,hb,y⟩:=hrel;have S:=ae hb;have B:=ae Z;clear hb Z tj;go_wp2_with (at_next;refine lV _ rfl _ rfl z w.heap.size l b rfl hi ?_ ?_)
  .rintro rfl;have I:Lk (a.Perm (l.map (·.1))):=ae (by simpa using y.out);have HL:Lk (a.length<=1000):=ae (by have i:=I.out.length_eq;have P:=HN.out;rw[dj]at i;omega)
   clear y hi;obtain⟨D,⟨rfl,m⟩|⟨g,cap,am,rfl,hg,hh,al,bd,R,A⟩⟩:=B.out
   .have E:=ae (Any.slices_Sort_string_none Tryz.sortStrs KK 0 wr);go_wp2_with fail;go_call E.out as e w2⟨rfl,rfl⟩;go_wp2;go_ret;exact⟨_,a,rfl,I.out,B.out,S.out⟩
   .have E:=ae (Ke rfl (Nm HL.out) B.out);clear D hh R A;go_wp2_with fail;go_call E.out as e w2⟨ts,rfl,hp,hr2,ht⟩;have rD:=ae hp;have ve:=ae hr2;have mE:=ae ht;clear hp hr2 ht E;go_wp2;go_ret;refine⟨_,ts,rfl,rD.out.trans I.out,by rw[rD.out.length_eq];exact ve.out,?_⟩;have m:aN (λx=>w.heap.size<=x) w wr:=aN.aZ S.out;exact(m.trans mE.out (λx A e=>af)).below (cg _) (λ_ h=>h)
  .intro nm pf f rs q C hp Y F r;have n:Lg w w (setBlock q w.heap.size C):=by
    have:aN (λx=>w.heap.size<=x) w (setBlock q w.heap.size C):=by
     have m:aN (λx=>w.heap.size<=x) w wr:=aN.aZ S.out;rcases Y with rfl | rfl
     .exact m.setBlock _ _ (.inl (cg _))
     .exact m.drew.setBlock _ _ (.inl (cg _))
    exact this.below (cg _) (λ_ h=>h)
   have j:(setBlock q w.heap.size C).ownsRow (w.heap.size+1) 9 1 v a.length (a.map ki):=by
    refine bg B.out (λx A=>?_);have:=aD B.out x A;have u:x≠w.heap.size:=af;rcases Y with rfl | rfl
    .exact bm _ u
    .exact bm _ u
   have U:=ae hp;have HI:=ae hi;have J:=ae j;have V:=ae n;have G:Lk (a.length<=1000/\w.heap.size+1<=(setBlock q w.heap.size C).heap.size):=ae ⟨by have i:=y.out.length_eq;have P:=HN.out;simp only[eh,dj]at i;omega,F.lt⟩
   clear hp hi n j;unfold ptrTo at r;generalize hW:setBlock q w.heap.size C=W at r J V F G ⊢;clear hW;have O:=ae F;clear F;go_wp2_with (refine p9 rfl _ _ rfl (w.heap.size+1) _ a rfl J.out nm 1 rfl (Nm G.out) G.out.2 (λv2 w2 P ha=>?_));obtain⟨⟨q1,t,q3,q4,q5⟩,-⟩:=ha;have s:(W.alloc (Mi #[.string nm] 9)).heap.size=W.heap.size+1:=ai;have ce:=G.out.2;have c:∀x,x<=w.heap.size->w2.heap[x]? = W.heap[x]? := λx A=>by rw[q5 x (by rw[s];omega) (λe=>Nm (aD J.out x (by first | exact e | exact e.symm)))];exact(MapKept.heap_alloc W _).2 _ af
   have X:cL prog 9 ki (λx:Nat×bY=>ptrTo x.1) w2 z w.heap.size l rs:=O.out.kept (c _ af) (c _ (cg _));refine⟨⟨rs,a++[nm],P,X,?_,ae ?_⟩,?_⟩
   .refine V.out.trans ⟨by rw[q1];rfl,by rw[t];rfl,by rw[q3];rfl,by rw[s]at q4;omega,λk y=>c k af⟩
   .have i:=(U.out.map (·.1)).append_left a;simp only[oj]at i;rw[o0];exact i.symm.trans y.out
   .have e2:=U.out.length_eq;rw[it]at e2;rw[X.left,HI.out.left];omega
theorem Qi{q:Nat}{w:KX}{o:ay}(h:Kept q w0 w j db n o d L)(k:L.length<=1000):K1 prog 14 #[ptrTo db] w λe w'=>∃a cap,e=Mk (.slice a L.length cap)/\Kept q w0 w' j db n o d L:=by
 have l:=h.count;have f:cI w db o d:=by obtain⟨_,_,_,_,_,g,_,_⟩:=h.bh;exact g.l6
 refine(Iu f af).mono ?_;rintro e w'⟨v,ns,rfl,i,c,hb⟩;have b:ns.length=L.length:=by have:=i.length_eq;rw[dj]at this;omega
 rw[b]at c;obtain⟨a,cap,rfl⟩:=aw c;exact⟨a,cap,rfl,h.later hb⟩
theorem V4:laidOutB prog=true:=ah
theorem EE{w:KX}{a:Addr}{v:J3}(h:w.cell? a=IT v):a.spot=none:=by
 obtain⟨b,o,s⟩:=a;cases s with
 |none=>rfl
 |some s=>unfold World.cell? at h;simp at h;split at h<;>cases h
theorem Kf(h:(Lit.int Mo z).wf=Jd):z=((h9 z.toNat).toNat:Int):=by simp[Lit.wf]at h;have a:IntKind.u32.min=0:=rfl;have b:IntKind.u32.max=4294967295:=rfl;rw[a,b]at h;rw[UInt32.toNat_ofNat'];omega
theorem ab3(h:(Lit.int MJ z).wf=Jd):z=((nM z.toNat).toNat:Int):=by simp[Lit.wf]at h;have a:IntKind.u64.min=0:=rfl;have b:IntKind.u64.max=18446744073709551615:=rfl;rw[a,b]at h;rw[UInt64.toNat_ofNat'];omega
theorem YA(h:(Lit.int .u8 z).wf=Jd):∃k:Nat,k<256/\z=(k:Int):=by simp[Lit.wf]at h;have a:IntKind.u8.min=0:=rfl;have b:IntKind.u8.max=255:=rfl;rw[a,b]at h;exact⟨z.toNat,af,af⟩
theorem Uf:prog.cellsOf 63=4:=ah
theorem Ug:prog.cellsOf 33=1:=ah
theorem Uh:prog.cellsOf 61=1:=ah
theorem Kg{enc:TypeId×J3->H}{W:KX}{a:Option Addr}{len cap:Nat}{d:DataW H}{p:List MemPlace}(h:DataW.Trod enc prog W 0 u Jd 22 (.slice a len cap) d p) :
 ∃vs,gR W (.slice a len cap) vs:=by
 obtain⟨R,l⟩:=h;rcases Deep.open_slice Tryz.underlying22 l with⟨g,-⟩|⟨e,S,T,m,n,D,Pl,g,-,X,-,K,-,w⟩
 .simp[Value.cells]at g;obtain⟨rfl,rfl,rfl⟩:=g;exact⟨[],KK,0,rfl,.inl rfl⟩
 .simp[Value.cells]at g;obtain⟨rfl,rfl,rfl⟩:=g;have G:len<=m:=by rw[K];split<;>omega
  rw[Uf]at w;have each:∀i,i<len->∃x:aJ,W.cell? (e.add (i*4))=x.t/\W.cell? (e.add (i*4+1))=x.h/\W.cell? (e.add (i*4+2))=x.x/\W.cell? (e.add (i*4+3))=x.m:=by
   intro i hi;obtain⟨F,r,q⟩:=w i af;obtain⟨_,z,c⟩:=World.cells?_some r;obtain⟨xs,k,hk,ac,_,Hg,l⟩:=DataW.trod_struct Tryz.underlying63 q;match xs,Hg,F,z with
   | [y0,y1,y2,y3],_,[v0,v1,v2,v3],_=>have g0:=l 0 _ rfl;have L:=l 1 _ rfl;have O:=l 2 _ rfl;have M:=l 3 _ rfl;simp[Ug,Uh]at g0 L O M;obtain⟨U,V,-,w0⟩:=DataW.trod_int Tryz.underlying33 g0;obtain⟨n1,q1,-,Y⟩:=DataW.trod_int Tryz.underlying33 L;obtain⟨n2,t,-,w2⟩:=DataW.trod_int Tryz.underlying61 O;obtain⟨n3,q3,-,w3⟩:=DataW.trod_int Tryz.underlying33 M;obtain⟨rfl⟩:=V;obtain⟨rfl⟩:=q1;obtain⟨rfl⟩:=t;obtain⟨rfl⟩:=q3;have I:=c 0 af;have P:=c 1 af;have J:=c 2 af;have Q:=c 3 af;rw[Deep.add_add]at I P J Q;exact⟨⟨h9 U.toNat,h9 n1.toNat,nM n2.toNat,h9 n3.toNat⟩,by rw[<- Kf w0];simpa using I,by rw[<- Kf Y];simpa using P,by rw[<- ab3 w2];simpa using J,by rw[<- Kf w3];simpa using Q⟩
  have Z:∃vs:List aJ,vs.length=len/\∀(j:Nat)(x:aJ),vs[j]? = IT x->W.cell? (e.add (j*4))=x.t/\W.cell? (e.add (j*4+1))=x.h/\W.cell? (e.add (j*4+2))=x.x/\W.cell? (e.add (j*4+3))=x.m:=by
   clear w l;generalize len=N at *;clear X K G;induction N with
   |zero=>exact⟨[],rfl,λj x f=>by cases f⟩
   |succ N ih=>
     obtain⟨vs,r,q⟩:=ih (λi hi=>each i af);obtain⟨x,w⟩:=each N af;refine⟨vs++[x],by simp[r],λj y f=>?_⟩;rcases lb j vs.length with E | Aj
     .rw[List.getElem?_append_left E]at f;exact q j y f
     .rw[List.getElem?_append_right Aj]at f;have:j-vs.length=0:=by
       rcases qp (j-vs.length) with h | h
       .exact h
       .rw[List.getElem?_eq_none (by simp;omega)]at f;cases f
      rw[this]at f;cases f;rw[show j=N by omega];exact w
  obtain⟨vs,r,q⟩:=Z;subst r;refine⟨vs,IT e,cap,rfl,?_⟩;rcases qp vs.length with A | A
  .exact .inl A
  .refine .inr ⟨e.block,e.off,?_,?_⟩
   .have C:=(q 0 vs[0] (bk A)).1;have B:=EE (a:=e) (by simpa[Addr.add]using C);obtain⟨b,o,s⟩:=e;cases B;rfl
   .have C:=(q 0 vs[0] (bk A)).1;have B:=EE (a:=e) (by simpa[Addr.add]using C);intro j x f;have v:=q j x f;obtain⟨b,o,s⟩:=e;cases B;simp only[br]at v;exact⟨v.1,by rw[Nat.add_assoc];exact v.2.1,by rw[Nat.add_assoc];exact v.2.2.1,by rw[Nat.add_assoc];exact v.2.2.2⟩
section
variable {w:KX}{o o':ay}{d':Dsk}{L':aL}
theorem sN(c:UInt8)(k:Nat):aF c k≠CF:=by grind [aF,CF]
theorem akF(k:Nat):eu k≠CF:=by
 intro e;have:=AV k;rw[e]at this;revert this
 decide
def Nk(w0:KX)(a db n:Nat)(gen:Nat)(es:List aJ)(vs:List bZ)(L:aL)(e:Lp)(w':KX):Prop:=
 ∃d' o',e=Mk (Kx Mm 0)/\Held w0 w' a db n o' d' (iJ L gen es vs)
theorem Ui(r:aV){m:Nat}(l:eW m)(h:Held w0 w j db n o d L)(q:8<=n)(a:GX es L)(g:lN w o gen)(u:es.length<=m)(s:es.length<=1000){v:J3}(b:gW w v vs)(t:∀x,v.ownBlock=IT x->o x=KK)(f:vs.length<=1000):K1 prog 19 #[ptrTo j,.string CF,gen,v] w (Nk w0 j db n gen es vs L):=by
 obtain⟨fl,p⟩:=a.1;go_call(wH r l h.bh q g p ag u (a.2.1 _ (sN _ _)) (a.2.1 _ (sN _ _)) (a.2.1 _ (sN _ _)) (λk=>a.2.1 _ (akF k)) b t af) as e w'⟨c,d',o',L',rfl,tL,-,hc⟩;have y:=a.2.2;have i:c=0:=h.fine tL (hc.imp (λh=>h.1) id) af;subst i;rcases hc with⟨_,rfl⟩| hc
 .exact⟨d',o',rfl,h.moved tL (λ_ h=>h.elim)⟩
 grind [lM.ne]
theorem Uk{b:Bool}{l a:List aJ}(h:eG b l a):Ka b a:=by
 intro i j x y hi d k;rcases lb i j with c | g
 .have f:=aK hi;have e:=aK d;rw[bk f]at hi;rw[bk e]at d;have m:=List.pairwise_iff_getElem.1 h.il i j f e c;grind [CU]
 grind
theorem B6(b:Bool)(l:List aJ):Ka b (aH b l):=Uk (bM b l)
theorem B7(L:aL)(gen:Nat)(es:List aJ)(vs:List bZ) :
 aI (iJ L gen es vs) (aF 101 gen)=IT (az (aH J0 es) Jd)/\aI (iJ L gen es vs) (aF 114 gen)=IT (az (aH Jd es) Jd)/\aI (iJ L gen es vs) (aF 118 gen)=IT (cH vs Jd):=by grind [iI,iJ,aC]
theorem EF(L:aL)(gen:Nat)(es:List aJ)(vs:List bZ):need (iJ L gen es vs)<=need L+8*es.length+4*vs.length:=by grind [iJ,dm,iR,dz,cq]
end
def xV(w:KX)(v:J3)(vs:List bZ):Prop:=
 ∃a cap,v=.slice a vs.length cap/\(vs.length=0\/∃b c,a=IT ⟨b,c,KK⟩/\∀(j:Nat)(x:bZ),vs[j]? = IT x->w.cell? ⟨b,c+j*3,KK⟩=x.r/\w.cell? ⟨b,c+j*3+1,KK⟩=x.l/\w.cell? ⟨b,c+j*3+2,KK⟩=x.g)
theorem xV.below{w:KX}{v:J3}(h:xV w v vs)(e:Lg w w w'):xV w' v vs:=by
 obtain⟨a,cap,rfl,h |⟨b,c,rfl,f⟩⟩:=h
 .exact⟨a,cap,rfl,.inl h⟩
 .refine⟨_,cap,rfl,.inr ⟨b,c,rfl,λj x d=>?_⟩⟩;grind [bq]
def cz:List bZ->List J3
 | []=>[]
 |x::l=>[Kx Mo (x.r.toNat:Int),Kx Mo (x.l.toNat:Int),Kx Mo (x.g.toNat:Int)]++cz l
theorem jX(l:List bZ):(cz l).length=l.length*3:=by
 induction l with
 |nil=>rfl
 |cons e l a=>grind [cz]
theorem kx{l:List bZ}{i:Nat}{x:bZ}(h:l[i]? = IT x){j:Nat}(a:j<3):(cz l)[i*3+j]? = [Value.int Mo (x.r.toNat:Int),x.l,x.g][j]? := by
 induction l generalizing i with
 |nil=>cases h
 |cons q l b=>
   rw[cz];cases i with
   |zero=>grind
   |succ i=>grind
theorem EG(l:List bZ):∀u∈cz l,u.oneCell'=true:=by
 induction l with
 |nil=>intro u a;cases a
 |cons x l b=>
   intro u a;rw[cz,hS]at a;rcases a with a | a
   .simp at a;rcases a with rfl | rfl | rfl<;>rfl
   grind
theorem xV.cells{w:KX}{v:J3}{b c cap:Nat}(h:xV w v vs)(m:v=.slice (IT ⟨b,c,KK⟩) n cap):∀j u,(cz vs)[j]? = IT u->w.cell? ((⟨b,c,KK⟩:Addr).add j)=IT u:=by
 intro j u g;obtain⟨a,e,i,f⟩:=h;have k:=aK g;rw[jX]at k;rcases f with s |⟨l,d,rfl,f⟩
 .omega
 .rw[m]at i;obtain⟨⟨rfl,rfl⟩,-,-⟩:(b=l/\c=d)/\n=vs.length/\cap=e:=M2
  have hi:j/3<vs.length:=af;obtain⟨p,q,o⟩:=f (j/3) vs[j/3] (bk hi);have r:=kx (bk hi) (j:=j%3) af;grind [br]
theorem rN:(prog.info? 110).map (λi=>(i.zero,i.size,i.bytes))=IT (IT (LV #[Kx Mo 0,Kx Mo 0,Kx Mo 0]),3,12):=ah
theorem wpList_want{P:Program}{a:Act}{w:KX}{rest:List Oper}{o:Oper}(b:Region.wanted o (yielded ops a.tmps)=Jd)(h:∀K:Act->KX->Prop,(∀a w,wpList P ops Q rest a w->K a w)->o.wp P a w K Q):wpList P ops Q (o::rest) a w:=
 wpList_step λK hK=>M2
theorem tE(w:KX)(T:TypeId)(size:Nat):(w.alloc (Mi #[] T)).ownsRow w.heap.size T size (.slice w.heap.size 0 0) 0 []:=
 ⟨ai,.inr ⟨w.heap.size,0,#[],rfl,cg _,Lw w _,cg _,em _,ai,ai⟩⟩
theorem jY{w:KX}{base:Nat}{v:J3}(h:w.ownsRow base 110 3 v vs.length (cz vs)):gW w v vs/\∀x,v.ownBlock=IT x->base<=x:=by
 refine⟨?_,aD h⟩;obtain⟨p,⟨rfl,q⟩|⟨g,cap,l,rfl,c,o,b,a,d,r⟩⟩:=h
 .have:=jJ q;subst this;exact⟨KK,0,rfl,cg _,em _,.inl rfl⟩
 .refine⟨_,cap,rfl,b,a,.inr ⟨g,0,rfl,λi hi=>?_⟩⟩;have f:∀(j:Nat)(u:J3),(cz vs)[j]? = IT u->w.cell? ⟨g,j,KK⟩=IT u:=λj u m=>by have:=World.ownsRow.cells (w:=w) (base:=base) (e:=110) (size:=3) (v:=.slice g vs.length cap) (n:=vs.length) (xs:=cz vs) ⟨p,.inr ⟨g,cap,l,rfl,c,o,b,a,d,r⟩⟩ (g:=g) rfl j u m;grind [br]
  have k:=bk hi;refine⟨f _ _ ?_,f _ _ ?_,f _ _ ?_⟩
  .have:=kx k (j:=0) ag;grind
  .rw[j0,kx k ag];rfl
  .rw[j0,kx k ag];rfl
theorem nI{w:KX}{rest:List Oper}{o:Oper}{a:Act}(h:Region.wanted o (yielded ops a.tmps)=Jd)(s x:Operand)(D:o.op=.call { callee:=.builtin .append,args:=#[s,x],argTypes:=#[37,37] })(O:a.eval s=.slice w.heap.size 0 0)(v:J3)(vs:List bZ)(L:a.eval x=v)(p:xV w v vs)(R:vs.length<=100000)(k:∀v' w',Lk (gW w' v' vs)->Lk (∀x,v'.ownBlock=IT x->w.heap.size<=x)->Lk (Lg w w w')->wpList prog ops Q rest (a.put o.dst v') w') :
 wpList prog ops Q (o::rest) a (w.alloc (Mi #[] 110)):=by
 obtain⟨i0,q,l,f,i⟩:=info_parts rN;have c:=tE w 110 3;refine wpList_want h λK hK=>?_;have d:∃v' w',(Builtin.append_ #[37,37] o.type #[.slice w.heap.size 0 0,v]).run prog (w.alloc (Mi #[] 110))=.ok v' w'/\w'.ownsRow w.heap.size 110 3 v' vs.length (cz vs)/\Lg w w w':=by
  have g:=p;obtain⟨ad,cap,rfl,z⟩:=g;cases ad with
  |none=>
    have m:vs=[]:=M2;subst m;have M:∀ad,(storeCells ad []).run prog (w.alloc (Mi #[] 110))=.ok () (w.alloc (Mi #[] 110)):=λ_=>rfl;exact⟨_,_,by simp[Builtin.append_,run_underlying Tryz.underlying37,sizeOf,typeInfo,q,Builtin.lenOf,Builtin.firstCells,M],c,aq.alloc (cg _) _⟩
  |some ad=>
    have J:∀j u,(cz vs)[j]? = IT u->(w.alloc (Mi #[] 110)).cell? (ad.add j)=IT u:=λj u n=>by
     have y:=aK n;rw[jX]at y;rcases z with m |⟨b,F,N,_⟩
     .omega
     .cases N;have e:=p.cells rfl j u n;rw[br]at *;exact bq aj e
    obtain⟨v',w',E,T,G,W,V⟩:=run_append_own_at (P:=prog) (w.alloc (Mi #[] 110)) w.heap.size 37 o.type 110 i0 _ 3 12 Tryz.underlying37 q l f i rfl ag _ 0 [] c ad vs.length cap (cz vs) (jX vs) J (EG vs) (by grind [maxLen]) af ai;refine⟨v',w',E,M2,?_⟩;obtain⟨q1,t,C,A,S⟩:=G;refine⟨q1,t,C,by simp at A;omega,λk U=>?_⟩;grind [B2,MapKept.heap_alloc]
 obtain⟨v',w',e,I,B⟩:=d;obtain⟨r,H⟩:=jY I;unfold Oper.wp execOp;simp only[D,resolve,invoke,builtin,Sem.run_bind,Sem.run_pure,Result.andThen_ok,GO,oj,FP,O,L,e];exact hK _ _ (k v' w' (ae r) (ae H) (ae B))
theorem Qj:prog.cellsOf 22=1:=ah
theorem ab4:prog.cellsOf 5=1:=ah
theorem Qk{enc:TypeId×J3->H}{W:KX}{t e:TypeId}{v:J3}{y:DataW H×List MemPlace}(f:prog.underlying t=IT (.slice e))(h:DataW.trod enc prog W 0 u Jd n t [v]=IT y) :
 ∃a len cap,v=.slice a len cap:=by
 rcases Deep.open_slice f h with⟨b,-⟩|⟨i,c,d,m,n,D,g,b,-⟩
 .simp at b;exact⟨_,_,_,b⟩
 .simp at b;exact⟨_,_,_,b⟩
theorem Kh:prog.cellsOf 24=3:=ah
theorem Db{enc:TypeId×J3->H}{W:KX}{r:Reach}{w:Nat}{v:J3}{d:DataW H}{p:List MemPlace}(a:Value.okWide prog W r w 24 v)(h:DataW.Trod enc prog W 0 u Jd 24 v d p) :
 ∃(k:Nat)(j:J3)(es:List aJ)(c:Nat),v=LV #[Kx .u8 k,j,Kx .u8 c]/\gR W j es/\k<256/\c<256:=by
 obtain⟨i,rfl,b⟩:=okWide_struct Tryz.underlying24 a;obtain⟨n,q⟩:=h;obtain⟨xs,k,m,x,B,y,e⟩:=DataW.trod_struct Tryz.underlying24 q;rw[Kh]at b;obtain⟨i⟩:=i;match xs,y,i,b with
 | [y0,y1,y2],_,[v0,v1,v2],_=>have g0:=e 0 _ rfl;have g:=e 1 _ rfl;have l:=e 2 _ rfl;simp[Qj,ab4,Value.cells]at g0 g l;obtain⟨A,o,-,w0⟩:=DataW.trod_int Tryz.underlying5 g0;obtain⟨C,D,c1,rfl⟩:=Qk Tryz.underlying22 g;obtain⟨n2,t,-,s⟩:=DataW.trod_int Tryz.underlying5 l;obtain⟨rfl⟩:=o;obtain⟨rfl⟩:=t;obtain⟨es,f⟩:=Kg (d:=y1.1) (p:=y1.2) ⟨_,g⟩;obtain⟨k,m,rfl⟩:=YA w0;obtain⟨c,z,rfl⟩:=YA s;exact⟨k,_,es,c,rfl,f,m,z⟩
abbrev gO:=Nat×Nat
def ji(a b:gO):Prop:=a.1<b.1\/a.1=b.1/\a.2<b.2
instance(a b:gO):Decidable (ji a b):=by unfold ji;infer_instance
theorem ji.asym{a b:gO}(h:ji a b):¬ji b a:=by grind [ji]
theorem ji.oA{a b c:gO}(h:¬ji b a)(k:¬ji c b):¬ji c a:=by grind [ji]
theorem ji.pd(a:gO):¬ji a a:=by grind [ji]
theorem ji.eq{a b:gO}(h:¬ji a b)(k:¬ji b a):a=b:=by grind [ji]
def gI(l:List gO)(i:Nat):gO:=l.getD i (0,0)
def sw(l:List gO)(i j:Nat):List gO:=(l.set i (gI l j)).set j (gI l i)
theorem Nl{l:List gO}{i:Nat}{x:gO}(h:l[i]? = IT x):gI l i=x:=by grind [gI]
theorem Sr{l:List gO}{i:Nat}(h:i<l.length):l[i]? = IT (gI l i):=by grind [gI]
theorem kK(l:List gO)(i j:Nat):(sw l i j).length=l.length:=by unfold sw;simp
theorem aee{l:List gO}{i j:Nat}(hi:i<l.length)(a:j<l.length)(k:Nat):gI (sw l i j) k=if k=j then gI l i else if k=i then gI l j else gI l k:=by grind [sw,gI]
theorem Ss{l:List gO}{i j:Nat}(hi:i<l.length)(a:j<l.length):(sw l i j).Perm l:=by
 have h:=Array.swap_perm (xs:=l.toArray) (i:=i) (j:=j) af af;have b:=h.toList;have e:(l.toArray.swap i j af af).toList=sw l i j:=by unfold sw;rw[Array.swap_def];rw[Nl (bk hi),Nl (bk a)];simp
 grind
def Iw(l:List gO)(i:Nat):Prop:=(∀j,0<j->j<l.length->j≠i->¬ji (gI l j) (gI l ((j-1)/2)))/\(0<i->∀j,0<j->j<l.length->(j-1)/2=i->¬ji (gI l j) (gI l ((i-1)/2)))
def Ix(l:List gO)(i:Nat):Prop:=(∀j,0<j->j<l.length->(j-1)/2≠i->¬ji (gI l j) (gI l ((j-1)/2)))/\(0<i->∀j,0<j->j<l.length->(j-1)/2=i->¬ji (gI l j) (gI l ((i-1)/2)))
def jP(l:List gO):Prop:=∀j,0<j->j<l.length->¬ji (gI l j) (gI l ((j-1)/2))
theorem Sv{l:List gO}{i:Nat}(h:Iw l i)(hi:i=0\/¬ji (gI l i) (gI l ((i-1)/2))):jP l:=by
 intro j b a;by_cases e:j=i
 .grind
 .exact h.1 j b a e
theorem ab5{l:List gO}{i:Nat}(h:Iw l i)(n:0<i)(hi:i<l.length)(m:ji (gI l i) (gI l ((i-1)/2))):Iw (sw l i ((i-1)/2)) ((i-1)/2):=by
 obtain⟨f,hb⟩:=h;generalize r:(i-1)/2=p at *;have g:p<i:=af;have a:=aee hi (show p<l.length by omega);refine⟨λj e b d=>?_,λk j e b d=>?_⟩
 .rw[kK]at b;rw[a,a,if_neg d];by_cases c:j=i
  .grind [ji.asym]
  .rw[if_neg c];have:=f j e b c;by_cases o:(j-1)/2=p
   .grind [ji.oA,ji.asym]
   grind
 .rw[kK]at b;rw[a,a,if_neg (show ¬(p-1)/2=p by omega),if_neg (show ¬(p-1)/2=i by omega),if_neg (show ¬j=p by omega)];have q:=f p k af af;by_cases c:j=i
  .grind
  grind [ji.oA]
theorem Iy{l:List gO}{i:Nat}(h:Ix l i)(hi:∀j,0<j->j<l.length->(j-1)/2=i->¬ji (gI l j) (gI l i)):jP l:=by
 intro j b a;by_cases e:(j-1)/2=i
 .grind
 .exact h.1 j b a e
theorem Ul{l:List gO}{i c:Nat}(h:Ix l i)(q:0<c)(k:c<l.length)(f:(c-1)/2=i)(p:ji (gI l c) (gI l i))(r:∀j,0<j->j<l.length->(j-1)/2=i->¬ji (gI l j) (gI l c)):Ix (sw l i c) c:=by
 obtain⟨s,hb⟩:=h;have n:i<c:=af;have b:=aee (show i<l.length by omega) k;refine⟨λj e d a=>?_,λ_ j e d a=>?_⟩
 .rw[kK]at d;rw[b,b,if_neg a];by_cases m:j=c
  .grind [ji.asym]
  .rw[if_neg m];by_cases g:(j-1)/2=i
   .grind
   .rw[if_neg g];by_cases o:j=i
    .grind
    grind
 grind [kK]
theorem YB{l:List gO}(h:jP l):∀j,j<l.length->¬ji (gI l j) (gI l 0):=by
 intro j;induction j using Nat.strongRecOn with
 |_ j b=>
   intro a;by_cases e:j=0
   .grind [ji.pd]
   .exact ji.oA M2 (h j af a)
theorem Um{l:List gO}(h:jP l)(x:gO):Iw (l++[x]) l.length:=by
 have e:∀j,j<l.length->gI (l++[x]) j=gI l j:=λj d=>Nl (by grind [Sr]);refine⟨λj b a c=>?_,λ_ j b a c=>?_⟩
 .simp only[eh,it,List.length_nil]at a;rw[e j af,e _ af];exact h j b af
 grind
def EH(l:List gO):List gO:=(l.set 0 (gI l (l.length-1))).take (l.length-1)
theorem B8(l:List gO):(EH l).length=l.length-1:=by grind [EH]
theorem Nn{l:List gO}{j:Nat}(a:0<j)(b:j<l.length-1):gI (EH l) j=gI l j:=by apply Nl;grind [EH,Sr]
theorem Un{l:List gO}(h:jP l):Ix (EH l) 0:=by refine⟨λj b a c=>?_,af⟩;rw[B8]at a;rw[Nn b a,Nn af af];exact h j b af
theorem Uo{l:List gO}(h:0<l.length):(gI l 0::EH l).Perm l:=by
 match l,h with
 |x::l,_=>
   rcases List.eq_nil_or_concat l with rfl |⟨m,y,rfl⟩
   .rfl
   .have e:EH (x::m.concat y)=y::m:=by unfold EH;grind [gI]
    rw[e];show(x::y::m).Perm _;grind
theorem Iz(x y:Int)(b:Nat)(w:KX)(d:w.cell? b=IT (Kx Mm x))(f:w.cell? ⟨b,1,KK⟩=IT (Kx Mm y)):K1 prog 179 #[.slice b 2 2] w λe w'=>e=Mk (Kx Mm (qL x y))/\w=w':=by
 by_cases a:x=0
 .subst a;by_cases c:y=0
  .subst c;go_enter func179,ntmps179;go_wp2;refine wp_loop_rounds 3 ?_;iterate 3 (rw[rounds_succ];go_wp2)
   go_ret;exact⟨rfl,rfl⟩
  .go_enter func179,ntmps179;go_wp2;refine wp_loop_rounds 2 ?_;iterate 2 (rw[rounds_succ];go_wp2)
   go_ret;exact⟨rfl,rfl⟩
 .have H:=ae a;go_enter func179,ntmps179;go_wp2;refine wp_loop_rounds 1 ?_;iterate 1 (rw[rounds_succ];go_wp2)
  go_ret;exact⟨by unfold qL;rw[if_neg H.out];rfl,rfl⟩
theorem EI{w:KX}(c:Lg w w w'){a:Addr}{v:J3}(b:w.cell? a=IT v):w'.cell? a=IT v:=(c.cell (jK w a b)).trans b
theorem Up(a b:gO):decide (qL (tJ a.1 b.1) (tJ a.2 b.2)<0)=decide (ji a b):=by
 rw[decide_eq_decide];unfold ji qL;rcases jr a.1 b.1 with⟨f,c⟩|⟨f,c⟩|⟨f,c⟩
 .rw[c,if_neg ag];omega
 .rw[c,if_neg ag];omega
 .rw[c,if_pos rfl];rcases jr a.2 b.2 with⟨e,d⟩|⟨e,d⟩|⟨e,d⟩<;>rw[d]<;>omega
abbrev mr(x:gO):Value:=LV #[Kx MJ x.1,Kx Mo x.2]
theorem YC(x y:gO)(w:KX):K1 prog 259 #[mr x,mr y] w λe w'=>e=Mk (.bool (decide (ji x y)))/\eV w w':=by have l:=ae (Up x y);unfold mr;generalize x.1=d at *;generalize x.2=f at *;generalize y.1=b at *;generalize y.2=c at *;go_enter func259,ntmps259;have k:Lk (eV w ((w.alloc (Mi #[Kx MJ (d:Int),Kx Mo (f:Int)] 336)).alloc (Mi #[Kx MJ (b:Int),Kx Mo (c:Int)] 336))):=ae (((eV.refl w).alloc _).alloc _);go_wp2;have K:Lk (((w.alloc (Mi #[Kx MJ (d:Int),Kx Mo (f:Int)] 336)).alloc (Mi #[Kx MJ (b:Int),Kx Mo (c:Int)] 336)).cell? ⟨w.heap.size,0,KK⟩=IT (Kx MJ (d:Int))/\((w.alloc (Mi #[Kx MJ (d:Int),Kx Mo (f:Int)] 336)).alloc (Mi #[Kx MJ (b:Int),Kx Mo (c:Int)] 336)).cell? ⟨w.heap.size,1,KK⟩=IT (Kx Mo (f:Int))/\((w.alloc (Mi #[Kx MJ (d:Int),Kx Mo (f:Int)] 336)).alloc (Mi #[Kx MJ (b:Int),Kx Mo (c:Int)] 336)).cell? ⟨w.heap.size+1,0,KK⟩=IT (Kx MJ (b:Int))/\((w.alloc (Mi #[Kx MJ (d:Int),Kx Mo (f:Int)] 336)).alloc (Mi #[Kx MJ (b:Int),Kx Mo (c:Int)] 336)).cell? ⟨w.heap.size+1,1,KK⟩=IT (Kx Mo (c:Int))):=ae ai;generalize ((w.alloc (Mi #[Kx MJ (d:Int),Kx Mo (f:Int)] 336)).alloc (Mi #[Kx MJ (b:Int),Kx Mo (c:Int)] 336))=W at *;refine cm (eV W) 10 ah ah (eV.refl W).drew ?_;simp only[ii,j2,ot,qd];refine qz ?_;refine qz ?_ (λw' a=>by have j:=a.cell K.out.1;go_simp<;>rfl);refine qz ?_;refine qz ?_ (λw' a=>by have j:=a.cell K.out.2.2.1;go_simp<;>rfl);refine qw (λw' a=>(AG d b w').mono (λe i h=>⟨h.1,h.2▸a⟩)) ?_;refine qz ?_;refine qz ?_ (λw' a=>by have j:=a.cell K.out.2.1;go_simp<;>rfl);refine qz ?_;refine qz ?_ (λw' a=>by have j:=a.cell K.out.2.2.2;go_simp<;>rfl);refine qw (λw' a=>(AH f c w').mono (λe i h=>⟨h.1,h.2▸a⟩)) ?_;refine wpQuiet_nil ?_;intro n g;have m:=ae g;clear g;go_wp2_with fail;go_call(Iz (tJ d b) (tJ f c) _ _ ai ai) as e w4⟨rfl,rfl⟩;go_wp2;go_ret;exact⟨by rw[<- l.out];rfl,(k.out.trans m.out).alloc _⟩
abbrev gO.cells(x:gO):List Value:=[Kx MJ x.1,Kx Mo x.2]
def fR:List gO->List J3
 | []=>[]
 |x::l=>gO.cells x++fR l
theorem GY(l:List gO):(fR l).length=l.length*2:=by
 induction l with
 |nil=>rfl
 |cons e l a=>rw[fR,eh,a,it];simp;omega
theorem GZ(a b:List gO):fR (a++b)=fR a++fR b:=by
 induction a with
 |nil=>rfl
 |cons e a c=>rw[DD,fR,fR,c,o0]
theorem Np(l:List gO)(k:Nat):fR (l.take k)=(fR l).take (k*2):=by
 induction l generalizing k with
 |nil=>simp[fR]
 |cons e l a=>
   cases k with
   |zero=>simp[fR]
   |succ k=>rw[ii,fR,fR,a,show(k+1)*2=k*2+2 by omega];simp[gO.cells]
theorem Ql(l:List gO)(i:Nat)(x:gO)(hi:i<l.length):((fR l).set (i*2) (Kx MJ x.1)).set (i*2+1) (Kx Mo x.2)=fR (l.set i x):=by
 induction l generalizing i with
 |nil=>simp at hi
 |cons e l b=>
   cases i with
   |zero=>simp[fR,gO.cells]
   |succ i=>
     have:=b i (by simpa using hi);have a:(i+1)*2=i*2+2:=af;simp only[List.set_cons_succ,fR];rw[<- this];simp only[gO.cells,DD,List.nil_append,a,List.set_cons_succ]
theorem Qm{l:List gO}{i:Nat}(h:i<l.length):(fR l)[i*2]? = IT (Kx MJ (gI l i).1)/\(fR l)[i*2+1]? = IT (Kx Mo (gI l i).2):=by
 induction l generalizing i with
 |nil=>simp at h
 |cons q l a=>
   cases i with
   |zero=>exact⟨rfl,rfl⟩
   |succ i=>have:=a (i:=i) (by simpa using h);rw[show(i+1)*2=i*2+2 by omega];exact this
theorem Uq:(prog.info? 336).map (λi=>(i.zero,i.size,i.bytes))=IT (IT (LV #[Kx MJ 0,Kx Mo 0]),2,16):=ah
abbrev Sw:Value:=.func (.func 259) #[] #[]
abbrev pj(w:KX)(v:J3)(l:List gO):Prop:=w.ownsRow 0 336 2 v l.length (fR l)
structure eQ(w:KX)(hb:Nat)(v:J3)(l:List gO):Prop where
 hd:∃t,w.heap[hb]? = IT (Mi #[v,Sw] t)
 row:pj w v l
 ne:v.ownBlock≠IT hb
section
variable {w W:KX}{hb g cap:Nat}{v:J3}{l:List gO}
theorem eQ.lt(h:eQ w hb v l):hb<w.heap.size:=by obtain⟨t,h⟩:=h.hd;exact(ds.1 h).1
theorem eQ.kept(h:eQ w hb v l)(a:∀b,b=hb\/v.ownBlock=IT b->w'.heap[b]? = w.heap[b]?):eQ w' hb v l:=by obtain⟨⟨t,d⟩,e,c⟩:=h;exact⟨⟨t,(a hb (.inl rfl)).trans d⟩,bg e (λx f=>a x (.inr f)),c⟩
theorem eQ.below(h:eQ w hb v l)(c:Lg w w w'):eQ w' hb v l:=
 h.kept (λb a=>c.block _ (a.elim (λe=>e▸h.lt) (λe=>(aA h.row b e).1)))
theorem eQ.cells(h:eQ w hb v l):w.cell? hb=IT v/\w.cell? ⟨hb,1,KK⟩=IT Sw/\∀k,w.frozen? ⟨hb,k,KK⟩=false:=by obtain⟨t,a⟩:=h.hd;exact⟨by rw[au a];rfl,by rw[au a];rfl,λ_=>aO a _⟩
theorem eQ.item(h:eQ w hb (.slice g l.length cap) l){i:Nat}(hi:i<l.length) :
 w.cell? ⟨g,i*2,KK⟩=IT (Kx MJ (gI l i).1)/\w.cell? ⟨g,i*2+1,KK⟩=IT (Kx Mo (gI l i).2):=by
 obtain⟨d,b⟩:=Qm hi;have a:∀(j:Nat)(u:J3),(fR l)[j]? = IT u->w.cell? ⟨g,j,KK⟩=IT u:=λj u c=>by have:=World.ownsRow.cells h.row (g:=g) rfl j u c;rwa [br,j0]at this
 exact⟨a _ _ d,a _ _ b⟩
theorem eQ.put(h:eQ w hb (.slice g l.length cap) l){i:Nat}(hi:i<l.length)(x:gO) :
 eQ ((w.setCell ⟨g,i*2,KK⟩ (Kx MJ x.1)).setCell ⟨g,i*2+1,KK⟩ (Kx Mo x.2)) hb (.slice g (l.set i x).length cap) (l.set i x):=by
 obtain⟨⟨t,j⟩,f,b⟩:=h;have a:hb≠g:=λe=>b (by rw[e];rfl);refine⟨⟨t,?_⟩,?_,by rw[k9];exact b⟩
 .rw[k9,e8 _ _ _ _ a,e8 _ _ _ _ a];exact j
 .have d:=World.ownsRow.stored f (i*2) (Kx MJ x.1);have c:=World.ownsRow.stored d.1 (i*2+1) (Kx Mo x.2);unfold pj;rw[k9,<- Ql l i x hi];exact c.1
def agu(W:KX)(b g p q cap:Nat)(n:Nat)(x y:gO):Prop:=∀w',Lg W W w' ->
 (w'.cell? b=IT (.slice g n cap)/\w'.cell? ⟨b,1,KK⟩=IT Sw) /\
 (w'.cell? ⟨g,p,KK⟩=IT (Kx MJ x.1)/\w'.cell? ⟨g,p+1,KK⟩=IT (Kx Mo x.2)) /\
 (w'.cell? ⟨g,q,KK⟩=IT (Kx MJ y.1)/\w'.cell? ⟨g,q+1,KK⟩=IT (Kx Mo y.2)) /\
 Calls prog 259 #[LV #[Kx MJ x.1,Kx Mo x.2],LV #[Kx MJ y.1,Kx Mo y.2]] w' λe a=>e=Mk (.bool (decide (ji x y)))/\Lg W W a
theorem eQ.reads(h:eQ W hb (.slice g l.length cap) l){i j:Nat}(hi:i<l.length)(c:j<l.length):agu W hb g (i*2) (j*2) cap l.length (gI l i) (gI l j):=λw' a=>⟨⟨(h.below a).cells.1,(h.below a).cells.2.1⟩,(h.below a).item hi,(h.below a).item c,(YC _ _ w').mono λ_ _ ⟨d,b⟩=>⟨d,a.trans (b.below.mono a.size)⟩⟩
structure akG(W:KX)(hb g cap:Nat)(l:List gO)(i j p q:Nat)(x y:gO):Prop where
 hp:i*2=p
 hq:j*2=q
 c0:W.cell? hb=IT (.slice g l.length cap)
 p0:W.cell? ⟨g,p,KK⟩=IT (Kx MJ x.1)
 p1:W.cell? ⟨g,p+1,KK⟩=IT (Kx Mo x.2)
 q0:W.cell? ⟨g,q,KK⟩=IT (Kx MJ y.1)
 q1:W.cell? ⟨g,q+1,KK⟩=IT (Kx Mo y.2)
 fr:∀k,W.frozen? ⟨g,k,KK⟩=J0
 gh:g≠hb
 n0:p≠q
 n1:p≠q+1
 n2:p+1≠q
 done:eQ ((((W.setCell ⟨g,p,KK⟩ (Kx MJ y.1)).setCell ⟨g,p+1,KK⟩ (Kx Mo y.2)).setCell ⟨g,q,KK⟩ (Kx MJ x.1)).setCell ⟨g,q+1,KK⟩ (Kx Mo x.2)).drew hb (.slice g (sw l i j).length cap) (sw l i j)
 turn:aN (·=g) W ((((W.setCell ⟨g,p,KK⟩ (Kx MJ y.1)).setCell ⟨g,p+1,KK⟩ (Kx Mo y.2)).setCell ⟨g,q,KK⟩ (Kx MJ x.1)).setCell ⟨g,q+1,KK⟩ (Kx Mo x.2)).drew
theorem eQ.nQ(h:eQ W hb (.slice g l.length cap) l){i j:Nat}(hi:i<l.length)(a:j<l.length)(r:i≠j){x y:gO}(f:gI l i=x)(n:gI l j=y):∃p q,akG W hb g cap l i j p q x y:=by
 subst f n;have b:=h.put hi (gI l j);have d:=b.put (i:=j) (by rw[k9];exact a) (gI l i);obtain⟨o,a2⟩:=h.item hi;obtain⟨m,c⟩:=h.item a;exact⟨i*2,j*2,rfl,rfl,h.cells.1,o,a2,m,c,λk=>World.ownsRow.frozenAt h.row k,λe=>h.ne (by rw[<- e];rfl),af,af,af,d.below aq.drew,
  (((((aN.refl (·=g) W).setCell _ _ (.inl rfl)).setCell _ _ (.inl rfl)).setCell _ _ (.inl rfl)).setCell _ _ (.inl rfl)).drew⟩
end
section
variable {w W:KX}{hb g cap:Nat}{l:List gO}
def YD(w:KX)(b g cap:Nat)(l:List gO)(e:Lp)(w':KX):Prop:=
 ∃a,e=Mk (Ly #[])/\a.Perm l/\jP a/\eQ w' b (.slice g l.length cap) a/\aN (·=g) w w'
theorem agv(h:eQ w hb (.slice g l.length cap) l)(i:Nat)(hi:i<l.length)(O:Iw l i)(Q:l.length<=1000000):K1 prog 283 #[ptrTo hb,i] w (YD w hb g cap l):=by
 have H:=ae h;have HU:=ae O;clear h O;obtain⟨N,y⟩:=ac l.length;rw[<- y]at hi Q;have u:=ae y;clear y;unfold ptrTo;go_enter func283,ntmps283;go_wp2;go_loopw [1] (λI wr=>∃(i:Nat)(c:List gO),I=i/\i<N/\Lk (c.length=N)/\eQ wr hb (.slice g N cap) c/\aN (·=g) w wr/\Lk (Iw c i/\c.Perm l)) (λI _=>(Lo I).toNat)
 case atStart=>exact⟨i,l,rfl,hi,ae u.out.symm,by rw[u.out];exact H.out,aN.refl _ _,ae ⟨HU.out,List.Perm.refl _⟩⟩
 case round=>
  obtain⟨i,c,rfl,hi,m,K,M,q⟩:=hrel;generalize wr=J at *;have v:Lk (eQ J hb (.slice g c.length cap) c):=ae (by rw[m.out];exact K);have B:=ae M;clear K M;by_cases R:0<i
  .have C:(i:Int)>0:=af;obtain⟨p,V⟩:=ac ((i-1)/2);have w1:cf Mm ((i:Int)-1)=(i-1:Nat):=by rw[ax]<;>omega
   have w2:((i-1:Nat):Int)/2=(p:Int):=af;have bi:(i:Int)<N:=af;have bp:(p:Int)<N:=af;have f:Lk (i<c.length/\p<c.length/\p<i/\p=(i-1)/2):=ae (Nm m.out);clear V;have F:=ae (v.out.reads (i:=i) (j:=p) f.out.1 f.out.2.1);obtain⟨D,t⟩:∃x,gI c i=x:=⟨_,rfl⟩;obtain⟨G,s⟩:∃x,gI c p=x:=⟨_,rfl⟩;rw[t,s,m.out]at F;by_cases k:ji D G
   .have P:decide (ji D G)=true:=decide_eq_true k;go_wp2_with fail;refine wq J ?_;iterate 3 (refine qz ?_)
    refine qz ?_ (λw' a=>by obtain⟨⟨d,c1⟩,-,-,-⟩:=F.out w' a;go_simp<;>rfl);iterate 3 (refine qz ?_)
    refine qz ?_ (λw' a=>by obtain⟨⟨d,c1⟩,-,-,-⟩:=F.out w' a;go_simp<;>rfl);iterate 2 (refine qz ?_)
    refine qz ?_ (λw' a=>by obtain⟨-,⟨d,c1⟩,-,-⟩:=F.out w' a;go_simp<;>rfl);iterate 3 (refine qz ?_)
    refine qz ?_ (λw' a=>by obtain⟨⟨d,c1⟩,-,-,-⟩:=F.out w' a;go_simp<;>rfl);iterate 2 (refine qz ?_)
    refine qz ?_ (λw' a=>by obtain⟨-,-,⟨d,c1⟩,-⟩:=F.out w' a;go_simp<;>rfl);refine qw (λw' a=>(F.out w' a).2.2.2) ?_;refine qz ?_;refine wpQuiet_nil ?_;intro U b;have E:=ae (B.out.b7 b);have z:=ae (v.out.below b);clear b;go_wp2_with fail;obtain⟨pp,qq,r⟩:=z.out.nQ f.out.1 f.out.2.1 (Nm f.out) t s;have L:=ae r;obtain⟨pE,JF,d,T,Y,W,Z,X,A,S,n1,n2,-,-⟩:=r;rw[m.out]at d;clear F;go_big_region
    all_goals
     clear d T Y W Z S n1 n2 X A;have o:=ae L.out.done;have n:=ae L.out.turn;go_wp2;refine⟨⟨p,sw c i p,rfl,?_,ae (by rw[kK];exact m.out),?_,?_,ae ⟨?_,?_⟩⟩,?_⟩
     .omega
     .have:=o.out;rwa [kK,m.out]at this
     .exact E.out.trans n.out (λ_ _ e=>e)
     .have:=f.out;rw[this.2.2.2]at s ⊢;exact ab5 q.out.1 R this.1 (by rw[t,s];exact k)
     .exact(Ss f.out.1 f.out.2.1).trans q.out.2
     .have:=f.out;simp[Lo];omega
   .have P:decide (ji D G)=false:=decide_eq_false k;go_wp2_with fail;refine wq J ?_;iterate 3 (refine qz ?_)
    refine qz ?_ (λw' a=>by obtain⟨⟨d,c1⟩,-,-,-⟩:=F.out w' a;go_simp<;>rfl);iterate 3 (refine qz ?_)
    refine qz ?_ (λw' a=>by obtain⟨⟨d,c1⟩,-,-,-⟩:=F.out w' a;go_simp<;>rfl);iterate 2 (refine qz ?_)
    refine qz ?_ (λw' a=>by obtain⟨-,⟨d,c1⟩,-,-⟩:=F.out w' a;go_simp<;>rfl);iterate 3 (refine qz ?_)
    refine qz ?_ (λw' a=>by obtain⟨⟨d,c1⟩,-,-,-⟩:=F.out w' a;go_simp<;>rfl);iterate 2 (refine qz ?_)
    refine qz ?_ (λw' a=>by obtain⟨-,-,⟨d,c1⟩,-⟩:=F.out w' a;go_simp<;>rfl);refine qw (λw' a=>(F.out w' a).2.2.2) ?_;refine qz ?_;refine wpQuiet_nil ?_;intro U b;have E:=ae (B.out.b7 b);have z:=ae (v.out.below b);clear b;go_wp2;go_returns;exact⟨c,rfl,q.out.2,Sv q.out.1 (.inr (by have:=f.out;rw[<- this.2.2.2,t,s];exact k)),by rw[<- u.out,<- m.out];exact z.out,E.out⟩
  .have C:¬(i:Int)>0:=af;go_wp2;go_returns;exact⟨c,rfl,q.out.2,Sv q.out.1 (.inl af),by rw[<- u.out,<- m.out];exact v.out,B.out⟩
theorem YE(h:eQ w hb (.slice g l.length cap) l)(hu:Ix l 0)(hl:l.length<=1000000):K1 prog 284 #[ptrTo hb,Kx Mm 0] w (YD w hb g cap l):=by
 have H:=ae h;have HU:=ae hu;clear h hu;obtain⟨N,Y⟩:=ac l.length;rw[<- Y]at hl;have J:=ae Y;clear Y;unfold ptrTo;go_enter func284,ntmps284;go_wp2;go_loopw [1] (λX wr=>∃(i:Nat)(b:List gO),X=i/\i<=N/\Lk (b.length=N)/\eQ wr hb (.slice g N cap) b/\aN (·=g) w wr/\Lk (Ix b i/\b.Perm l)) (λX _=>N-(Lo X).toNat)
 case atStart=>exact⟨0,l,rfl,em _,ae J.out.symm,by rw[J.out];exact H.out,aN.refl _ _,ae ⟨HU.out,List.Perm.refl _⟩⟩
 case round=>
  obtain⟨i,b,rfl,hi,f,Z,ht,t⟩:=hrel;generalize wr=K at *;have O:Lk (eQ K hb (.slice g b.length cap) b):=ae (by rw[f.out];exact Z);have L:=ae ht;have d:=Z.cells.1;clear Z ht;obtain⟨A,hA⟩:=ac (2*i);obtain⟨B,hB⟩:=ac (A+1);obtain⟨C,hC⟩:=ac (B+1);have wA:cf Mm (2*(i:Int))=A:=by rw[ax]<;>omega
  have wB:cf Mm ((A:Int)+1)=B:=by rw[ax]<;>omega
  have wC:cf Mm ((B:Int)+1)=C:=by rw[ax]<;>omega
  have HE:Lk (B=2*i+1/\C=2*i+2):=ae af;by_cases oh:B<N
  .have W:¬(B:Int) >= N:=af;have bB:(B:Int)<N:=af;have bi:(i:Int)<N:=af;have u:Lk (B<b.length/\i<b.length/\i<B/\i<C):=ae (Nm f.out);clear hA hB hC;have v:∃n,Lk (n=decide (C<N/\ji (gI b C) (gI b B))):=⟨_,ae rfl⟩;obtain⟨n,v⟩:=v;go_upto_region 2 with fail
   go_cut [44] from 15 to 44 (λr R=>r=.bool n/\Lg K K R)
   case first=>
    clear H HU L t;by_cases z:C<N
    .have p:(C:Int)<N:=af;have V:decide ((C:Int)<N)=true:=decide_eq_true p;have F:=ae (O.out.reads (i:=C) (j:=B) (Nm f.out) u.out.1);rw[f.out]at F;have Q:Lk (n=decide (ji (gI b C) (gI b B))):=ae (by rw[v.out];simp[z]);generalize gI b C=xc at *;generalize gI b B=xb at *;clear d;refine wq K ?_;iterate 5 (refine qz ?_)
     refine qz ?_ (λw' a=>by obtain⟨⟨d,c1⟩,-,-,-⟩:=F.out w' a;go_simp<;>rfl);iterate 6 (refine qz ?_)
     refine qz ?_ (λw' a=>by obtain⟨⟨d,c1⟩,-,-,-⟩:=F.out w' a;go_simp<;>rfl);iterate 3 (refine qz ?_)
     refine qz ?_ (λw' a=>by obtain⟨⟨d,c1⟩,-,-,-⟩:=F.out w' a;go_simp<;>rfl);iterate 3 (refine qz ?_)
     refine qz ?_ (λw' a=>by obtain⟨-,⟨d,c1⟩,-,-⟩:=F.out w' a;go_simp<;>rfl);iterate 3 (refine qz ?_)
     refine qz ?_ (λw' a=>by obtain⟨⟨d,c1⟩,-,-,-⟩:=F.out w' a;go_simp<;>rfl);iterate 2 (refine qz ?_)
     refine qz ?_ (λw' a=>by obtain⟨-,-,⟨d,c1⟩,-⟩:=F.out w' a;go_simp<;>rfl);refine qw (λw' a=>(F.out w' a).2.2.2) ?_;refine qz ?_;refine wpQuiet_nil ?_;intro w3 al;go_wp2;go_meet
     exact⟨by rw[Q.out],al⟩
    .have p:¬(C:Int)<N:=af;have V:decide ((C:Int)<N)=false:=decide_eq_false p;have Q:Lk (n=J0):=ae (by rw[v.out];simp[z]);go_quiet (fail)
     go_wp2;go_meet
     exact⟨by rw[Q.out],⟨rfl,rfl,rfl,cg _,λ_ _=>rfl⟩⟩
   case rest=>
    obtain⟨rfl,hcut⟩:=hcut;have uQ:=ae (L.out.b7 hcut);have T:=ae (O.out.below hcut);clear hcut d O L;have k:∃c,Lk (c<b.length/\0<c/\(c-1)/2=i/\i<c/\(c:Nat)=(if n=Jd then C else B)/\∀j,0<j->j<b.length->(j-1)/2=i->¬ji (gI b j) (gI b c)):=by
     have e1:=HE.out;have e2:=u.out;have e3:=v.out;have e4:=f.out;cases n with
     |true=>
       have:=of_decide_eq_true e3.symm;refine⟨C,ae ⟨af,af,af,af,rfl,λj D M I=>?_⟩⟩;have:j=B\/j=C:=af
       rcases this with rfl | rfl
       .exact ji.asym (by assumption |> And.right)
       .exact ji.pd _
     |false=>
       have:=of_decide_eq_false e3.symm;refine⟨B,ae ⟨af,af,af,af,rfl,λj D M I=>?_⟩⟩;have hj:j=B\/j=C:=af;rcases hj with rfl | rfl
       .exact ji.pd _
       .exact λe=>this ⟨af,e⟩
    obtain⟨c,k⟩:=k;go_upto_if 44 with fail
    go_cut [4] from 45 to 46 (λvc R=>vc=Kx Mm (c:Int)/\R=wc)
    case first=>
     have E:=k.out.2.2.2.2.1;cases n with
     |true=>
       rw[if_pos rfl]at E;subst E;go_wp2;go_meet
       exact⟨rfl,rfl⟩
     |false=>
       rw[if_neg ag]at E;subst E;go_wp2;go_meet
       exact⟨rfl,rfl⟩
    case rest=>
     obtain⟨rfl,rfl⟩:=hcut;have bc:(c:Int)<N:=No k.out f.out;have F:=ae (T.out.reads (i:=c) (j:=i) k.out.1 u.out.2.1);obtain⟨xc,G⟩:∃x,gI b c=x:=⟨_,rfl⟩;obtain⟨U,P⟩:∃x,gI b i=x:=⟨_,rfl⟩;rw[G,P,f.out]at F;generalize wc=w4 at *;by_cases m:ji xc U
     .have Ii:decide (ji xc U)=true:=decide_eq_true m;go_wp2_with fail;refine wq w4 ?_;iterate 3 (refine qz ?_)
      refine qz ?_ (λw' a=>by obtain⟨⟨d,c1⟩,-,-,-⟩:=F.out w' a;go_simp<;>rfl);iterate 3 (refine qz ?_)
      refine qz ?_ (λw' a=>by obtain⟨⟨d,c1⟩,-,-,-⟩:=F.out w' a;go_simp<;>rfl);iterate 2 (refine qz ?_)
      refine qz ?_ (λw' a=>by obtain⟨-,⟨d,c1⟩,-,-⟩:=F.out w' a;go_simp<;>rfl);iterate 3 (refine qz ?_)
      refine qz ?_ (λw' a=>by obtain⟨⟨d,c1⟩,-,-,-⟩:=F.out w' a;go_simp<;>rfl);iterate 2 (refine qz ?_)
      refine qz ?_ (λw' a=>by obtain⟨-,-,⟨d,c1⟩,-⟩:=F.out w' a;go_simp<;>rfl);refine qw (λw' a=>(F.out w' a).2.2.2) ?_;refine qz ?_;refine wpQuiet_nil ?_;intro w5 o;have FE:=ae (uQ.out.b7 o);have VS:=ae (T.out.below o);clear o;go_wp2_with fail;obtain⟨pp,qq,y⟩:=VS.out.nQ u.out.2.1 k.out.1 (Nm k.out) P G;have sA:=ae y;obtain⟨pE,JF,d,x0,x1,y0,y1,ew,S,n0,n1,n2,-,-⟩:=y;rw[f.out]at d;clear F;go_big_region
      all_goals
       clear d x0 x1 y0 y1 n0 n1 n2 ew S;have q:=ae sA.out.done;have s:=ae sA.out.turn;go_wp2;refine⟨⟨c,sw b i c,rfl,?_,ae (by rw[kK];exact f.out),?_,?_,ae ⟨?_,?_⟩⟩,?_⟩
       .omega
       .have:=q.out;rwa [kK,f.out]at this
       .exact FE.out.trans s.out (λ_ _ e=>e)
       .obtain⟨k1,k2,k3,-,-,k6⟩:=k.out;exact Ul t.out.1 k2 k1 k3 (by rw[P,G];exact m) k6
       .exact(Ss u.out.2.1 k.out.1).trans t.out.2
       .have:=k.out;simp[Lo];omega
     .have Ii:decide (ji xc U)=false:=decide_eq_false m;go_wp2_with fail;refine wq w4 ?_;iterate 3 (refine qz ?_)
      refine qz ?_ (λw' a=>by obtain⟨⟨d,c1⟩,-,-,-⟩:=F.out w' a;go_simp<;>rfl);iterate 3 (refine qz ?_)
      refine qz ?_ (λw' a=>by obtain⟨⟨d,c1⟩,-,-,-⟩:=F.out w' a;go_simp<;>rfl);iterate 2 (refine qz ?_)
      refine qz ?_ (λw' a=>by obtain⟨-,⟨d,c1⟩,-,-⟩:=F.out w' a;go_simp<;>rfl);iterate 3 (refine qz ?_)
      refine qz ?_ (λw' a=>by obtain⟨⟨d,c1⟩,-,-,-⟩:=F.out w' a;go_simp<;>rfl);iterate 2 (refine qz ?_)
      refine qz ?_ (λw' a=>by obtain⟨-,-,⟨d,c1⟩,-⟩:=F.out w' a;go_simp<;>rfl);refine qw (λw' a=>(F.out w' a).2.2.2) ?_;refine qz ?_;refine wpQuiet_nil ?_;intro w5 o;have FE:=ae (uQ.out.b7 o);have VS:=ae (T.out.below o);clear o;go_wp2;go_returns;refine⟨b,rfl,t.out.2,Iy t.out.1 (λj D M I=>?_),by rw[<- J.out,<- f.out];exact VS.out,FE.out⟩;have:=k.out.2.2.2.2.2 j D M I;rw[G]at this;rw[P];exact ji.oA m this
  .have W:(B:Int) >= N:=af;go_wp2;go_returns;exact⟨b,rfl,t.out.2,Iy t.out.1 (λj D M I=>Nm f.out),by rw[<- J.out,<- f.out];exact O.out,L.out⟩
end
section
variable {w W:KX}{hb g cap:Nat}{v:J3}{l:List gO}
theorem po{P:Program}{w:KX}{o:Oper}{a:Act}(S:o.guard=KK)(s x:Operand)(t:TypeId)(F:o.op=.call { callee:=.builtin .append,args:=#[s,x],argTypes:=#[t,t] })(base:Nat)(e:TypeId)(z:J3)(size d:Nat)(G:P.underlying t=IT (.slice e))(hi:(P.info? e).map (λi=>(i.zero,i.size,i.bytes))=IT (IT z,size,d))(A:z.cells.size=size)(r:0<size)(v:J3)(n:Nat)(xs:List J3)(R:a.eval s=v)(l:w.ownsRow base e size v n xs)(ad:Addr)(m c:Nat)(b:List J3)(M:a.eval x=.slice (IT ad) m c)(D:b.length=m*size)(h:∀j u,b[j]? = IT u->w.cell? (ad.add j)=IT u)(C:∀u∈b,u.oneCell'=Jd)(q:n+m<=maxLen)(f:(n+m)*d<=140737488355328)(g:base<=w.heap.size)(k:∀v' w',w'.ownsRow base e size v' (n+m) (xs++b)->gP v w w' v'->K (a.put o.dst v') w'):if Region.wanted o (yielded ops a.tmps)=Jd then Oper.wp P o a w K Q else E:=by
 have I:Region.wanted o (yielded ops a.tmps)=true:=by grind [Region.wanted]
 rw[if_pos I];obtain⟨i0,O,B,p,y⟩:=info_parts hi;obtain⟨v',w',H,L,J,T,N⟩:=run_append_own_at (P:=P) w base t o.type e i0 z size d G O B p y A r v n xs l ad m c b D h C q f g;unfold Oper.wp execOp;simp only[F,resolve,invoke,builtin,Sem.run_bind,Sem.run_pure,Result.andThen_ok,GO,oj,FP,R,M,H];exact k v' w' L ⟨J,N⟩
theorem A6{o:Oper}{a:Act}{w:KX}(d:o.guard=KK)(s x:Operand)(m:o.op=.call { callee:=.builtin .append,args:=#[s,x],argTypes:=#[338,338] })(v:J3)(l:List gO)(n:a.eval s=v)(b:pj w v l)(y:gO)(e c:Nat)(i:a.eval x=.slice e 1 c)(f:w.heap[e]? = IT (Mi #[Kx MJ y.1,Kx Mo y.2] 336))(q:l.length<=100000)(k:∀v' w',pj w' v' (l++[y])->gP v w w' v'->K (a.put o.dst v') w'):if Region.wanted o (yielded ops a.tmps)=Jd then Oper.wp prog o a w K Q else E:=by
 refine po d s x 338 m 0 336 _ 2 16 Tryz.underlying338 Uq rfl ag v l.length (fR l) n b ⟨e,0,KK⟩ 1 c (gO.cells y) i rfl (λj u p=>?_) (by simp[Value.oneCell']) (by grind [maxLen]) af (em _) (λv' w' g h=>k v' w' ?_ h)
 .rw[br,j0,au f];grind
 .unfold pj;rw[GZ,eh];exact g
theorem eQ.CG{x:gO}(h:eQ W hb v l)(j:gP v W w' v')(r:pj w' v' (l++[x])) :
 w'.cell? hb=IT v/\w'.frozen? ⟨hb,0,KK⟩=J0/\eQ (w'.setCell hb v') hb v' (l++[x])/\aN (λb=>b=hb\/v.ownBlock=IT b) W (w'.setCell hb v')/\∀b,v'.ownBlock=IT b->v.ownBlock=IT b\/W.heap.size<=b:=by
 obtain⟨a,u⟩:=j;have n:=h.lt;obtain⟨⟨t,p⟩,q,o⟩:=h;have d:w'.heap[hb]? = IT (Mi #[v,Sw] t):=by grind [World.grownBy.block]
 have f:∀b,v'.ownBlock=IT b->v.ownBlock=IT b\/W.heap.size<=b:=λb g=>M2
 have c:v'.ownBlock≠IT hb:=λe=>M2
 refine⟨by rw[au d];rfl,aO d _,⟨⟨t,aS d 0 v'⟩,?_,c⟩,?_,f⟩
 .grind [bg,e8]
 .have s:aN (λb=>b=hb\/v.ownBlock=IT b) W w':=⟨a.os,a.tape,a.output,a.size,λk i m=>a.block k i (λe=>m (.inr e.symm))⟩;grind [aN.setCell]
theorem qm(h:eQ w hb v l):K1 prog 282 #[ptrTo hb] w λe w'=>e=l.length/\w'=w:=by obtain⟨a,c,rfl⟩:=aw h.row;have b:=h.cells.1;clear h;unfold ptrTo;go_enter func282,ntmps282;go_wp2;go_ret;simp
theorem Nq(w:KX):K1 prog 214 #[] w λe w'=>e=Mk (ptrTo w.heap.size)/\eQ w' w.heap.size (.slice KK 0 0) []/\Lg w w w'/\w.heap.size<w'.heap.size:=by unfold ptrTo;go_enter func214,ntmps214;go_wp2;go_ret;refine⟨rfl,⟨⟨_,Lw _ _⟩,gp _ _ _ _,by simp[B2]⟩,aq.alloc (cg _) _,ai⟩
theorem Qn{x:gO}(h:pj w v (l++[x])):∃g k M,Lk (M=l.length+1)/\v=.slice (IT ⟨g,0,KK⟩) M k:=by
 obtain⟨-,⟨a,b⟩|⟨g,k,_,a,_⟩⟩:=h
 .grind
 grind [ae]
def EJ(w:KX)(c:Nat)(v:J3)(l:List gO)(x:gO)(e:Lp)(w':KX):Prop:=
 ∃v' a,e=Mk (Kx Mm 0)/\eQ w' c v' a/\jP a/\a.Perm (l++[x])/\aN (λb=>b=c\/v.ownBlock=IT b) w w'/\∀b,v'.ownBlock=IT b->v.ownBlock=IT b\/w.heap.size<=b
theorem YG(h:eQ w hb v l)(F:jP l)(x:gO)(N:l.length<65536):K1 prog 260 #[ptrTo hb,mr x] w (EJ w hb v l x):=by
 obtain⟨a,c,rfl⟩:=aw h.row;have f:Lk (eQ (w.alloc (Mi #[Kx MJ (x.1:Int),Kx Mo (x.2:Int)] 336)) hb (.slice a l.length c) l):=ae (h.below aj);have K:Lk ((w.alloc (Mi #[Kx MJ (x.1:Int),Kx Mo (x.2:Int)] 336)).cell? ⟨w.heap.size,0,KK⟩=IT (Kx MJ (x.1:Int))/\(w.alloc (Mi #[Kx MJ (x.1:Int),Kx Mo (x.2:Int)] 336)).cell? ⟨w.heap.size,1,KK⟩=IT (Kx Mo (x.2:Int))):=ae ai;have q:Lk (aN (λb=>b=hb\/(fz a l.length c).ownBlock=IT b) w (w.alloc (Mi #[Kx MJ (x.1:Int),Kx Mo (x.2:Int)] 336))):=ae ((aN.refl _ w).alloc _);have HH:=ae F;have d:=ae (qm f.out);have P:decide ((l.length:Int) >= 65536)=false:=decide_eq_false af;clear h F N;unfold mr ptrTo EJ at *;go_enter func260,ntmps260;go_wp2_with fail;go_call d.out as e w2⟨rfl,rfl⟩;clear d;generalize w.alloc (Mi #[Kx MJ (x.1:Int),Kx Mo (x.2:Int)] 336)=z at *;go_wp2_with fail;have Z:=f.out.cells.1;obtain⟨E,x1⟩:=K.out;have A:=f.out.lt;have YH:=jK _ _ E;have U:=f.out.cells.2.2;have n:Lk (∀p,Lg z z (z.alloc p).drew):=ae (λp=>(aq.alloc (cg _) p).drew);go_region_law (refine A6 rfl _ _ rfl _ l rfl (World.ownsRow.alloc (World.ownsRow.drew f.out.row) _) x _ 1 rfl (Lw _ _) M2 ?_;intro v5 C t I;obtain⟨o,s,M,T,rfl⟩:=Qn t;obtain⟨c5,L,J,G,m⟩:=(f.out.below (n.out _)).CG I t;have r:=ae (show _/\_/\_ from⟨J,G,m⟩);clear J G m I t)
 all_goals
  clear Z E x1 A YH U c5 L;have H:Lk (eQ (C.setCell ⟨hb,0,KK⟩ (.slice (IT ⟨o,0,KK⟩) M s)) hb (.slice (IT ⟨o,0,KK⟩) (l++[x]).length s) (l++[x])):=ae Xy;have Y:=ae ((q.out.b7 (n.out (Mi #[Kx MJ (x.1:Int),Kx Mo (x.2:Int)] 336))).trans r.out.2.1 (λ_ _ e=>e));have O:Lk (∀b,o=b->(fz a l.length c).ownBlock=IT b\/w.heap.size<=b):=ae (λb hb=>(r.out.2.2 b (by rw[hb];rfl)).imp id (λe=>cp (q.out.b7 (n.out (Mi #[Kx MJ (x.1:Int),Kx Mo (x.2:Int)] 336))).size e));clear r n f q K;generalize C.setCell ⟨hb,0,KK⟩ (.slice (IT ⟨o,0,KK⟩) M s)=D at *;have d:=ae (λW B=>qm (w:=W) (H.out.below (w':=W) B));have k:=ae (λW B=>agv (w:=W) (i:=l.length) (H.out.below (w':=W) B) ai (Um HH.out x) M2);rw[show(l++[x]).length=M by rw[T.out];simp]at d;have R:cf Mm ((M:Int)-1)=(l.length:Int):=by grind [Hid.out,ax]
  unfold ptrTo at *;go_wp2_with fail;refine cm (Lg D D) 6 (by rfl) ah (aq.drew) ?_;simp only[ii,j2,ot,qd];iterate 4 (refine qz ?_)
  refine qw (λw' j=>(d.out w' j).mono (λe V h=>⟨h.1,h.2▸j⟩)) ?_;refine qz ?_;refine wpQuiet_nil ?_;intro Q g;go_wp2_with fail;go_call(k.out Q g) as e w7⟨l7,rfl,hp7,hh7,ha7,VA⟩;have u:=ae ((Y.out.b7 g).trans VA (S:=λb=>b=hb\/(fz a l.length c).ownBlock=IT b) (λy hy e=>Xy))
  clear d k g VA R;have X:=ae ha7;clear ha7;go_wp2;go_ret;exact⟨_,l7,rfl,X.out,hh7,hp7,u.out,λb hb=>O.out b (by cases hb;rfl)⟩
theorem eQ.shrink(h:eQ W hb (.slice g l.length cap) l)(k:Nat)(u:k<=l.length):eQ (W.setCell hb (.slice g k cap)) hb (.slice g (l.take k).length cap) (l.take k):=by
 obtain⟨⟨t,n⟩,o,d⟩:=h;have e:(l.take k).length=k:=M2;have f:g≠hb:=λe=>d (by rw[e];rfl);refine⟨⟨t,?_⟩,?_,Nd⟩
 .rw[e];exact aS n 0 _
 .obtain⟨s,⟨a,i⟩|⟨r,c,b,a,i,q,v,p,j,m⟩⟩:=o
  .cases a
  .cases a;refine⟨by rw[GY],.inr ⟨g,cap,b,rfl,em _,?_,af,p,j,?_⟩⟩
   .grind [e8]
   grind [Np]
theorem eQ.agw(h:eQ W hb (.slice g l.length cap) l)(c:0<l.length){y:gO}(a:gI l (l.length-1)=y) :
 eQ (((W.setCell g (Kx MJ y.1)).setCell ⟨g,1,KK⟩ (Kx Mo y.2)).setCell hb (.slice g (l.length-1) cap)) hb (.slice g (EH l).length cap) (EH l) /\
 aN (λb=>b=hb\/g=b) W (((W.setCell g (Kx MJ y.1)).setCell ⟨g,1,KK⟩ (Kx Mo y.2)).setCell hb (.slice g (l.length-1) cap)):=by subst a;refine⟨(h.put c (gI l (l.length-1))).shrink (l.length-1) ai,?_⟩;exact(((aN.refl _ W).setCell _ _ (.inl (.inr rfl))).setCell _ _ (.inl (.inr rfl))).setCell _ _ (.inl (.inl rfl))
theorem Nr(h:eQ w hb v []):K1 prog 262 #[ptrTo hb] w λe w'=>e=Mk (Ly #[mr (0,0),.bool J0])/\Lg w w w':=by have a:=ae (λW c=>qm (w:=W) (h.below (w':=W) c));have b:Lk (Lg w w (w.alloc (Mi #[Kx MJ 0,Kx Mo 0] 336))):=ae aj;clear h;unfold mr ptrTo at *;go_enter func262,ntmps262;go_wp2_with fail;go_call(a.out _ b.out) as e w2⟨rfl,rfl⟩;go_wp2;go_returns;grind [Hid.out]
def Sx(w:KX)(c:Nat)(v:J3)(l:List gO)(e:Lp)(w':KX):Prop:=
 ∃v' a,e=Mk (Ly #[mr (gI l 0),.bool Jd])/\eQ w' c v' a/\jP a/\(gI l 0::a).Perm l/\aN (λb=>b=c\/v.ownBlock=IT b) w w'/\v'.ownBlock=v.ownBlock
theorem ab6(h:eQ w hb v l)(H:jP l)(X:0<l.length)(W:l.length<=100000):K1 prog 262 #[ptrTo hb] w (Sx w hb v l):=by
 obtain⟨g,cap,rfl⟩:∃g cap,v=.slice (IT ⟨g,0,KK⟩) l.length cap:=by
  obtain⟨-,⟨G,h2⟩|⟨g,cap,_,G,_⟩⟩:=h.row
  .omega
  grind
 have F:Lk (Lg w w (w.alloc (Mi #[Kx MJ 0,Kx Mo 0] 336))):=ae aj;have c:=ae (h.below F.out);have D:Lk ((w.alloc (Mi #[Kx MJ 0,Kx Mo 0] 336)).heap[w.heap.size]? = IT (Mi #[Kx MJ 0,Kx Mo 0] 336)):=ae (Lw _ _);have d:=ae (qm c.out);have HH:=ae H;have HN:Lk (hb≠w.heap.size/\g≠w.heap.size/\hb<w.heap.size/\g<w.heap.size):=ae (by have G:=h.lt;have h2:=(aA h.row g rfl).1;omega)
 clear h H;obtain⟨M,hM⟩:=ac (l.length-1);obtain⟨N,r⟩:=ac l.length;have m:Lk (M=l.length-1/\N=l.length/\M<l.length):=ae af;have wM:cf Mm ((N:Int)-1)=M:=by grind [ax]
 have b0:¬(N:Int)=0:=af;have b1:(0:Int)<N:=af;have b2:(M:Int)<N:=af;rw[<- r]at X W d;unfold mr Sx ptrTo at *;rw[<- r];clear hM r;go_enter func262,ntmps262;go_wp2_with fail;go_call d.out as e w2⟨rfl,rfl⟩;clear d;generalize w.alloc (Mi #[Kx MJ 0,Kx Mo 0] 336)=j at *;obtain⟨P,-,Y⟩:=c.out.cells;obtain⟨A,E⟩:=c.out.item (i:=0) Xy;obtain⟨Q,S⟩:=c.out.item (i:=M) m.out.2.2;obtain⟨a,f⟩:∃x,gI l 0=x:=⟨_,rfl⟩;obtain⟨n,C⟩:∃x,gI l M=x:=⟨_,rfl⟩;have ew:=λk=>World.ownsRow.frozenAt c.out.row k;rw[f]at A E;rw[C]at Q S;rw[<- m.out.2.1]at P;rw[Nat.zero_mul]at A E;obtain⟨n1,n2,n3,n4⟩:=HN.out;have n6:=c.out.lt;have b4:M<=cap:=by
  obtain⟨-,⟨h,-⟩|⟨_,_,_,h,-,-,h7,-⟩⟩:=c.out.row
  .cases h
  grind [Hid.out]
 have n7:=(aA c.out.row g rfl).1;have L:=(ds.1 D.out).1;have n5:hb≠g:=λe=>c.out.ne M2;go_wp2_with fail;have O:=c.out.agw Xy (y:=n) Xy;rw[<- m.out.1]at O;obtain⟨I,K⟩:=O;have R:=ae (I.below (aq.alloc (cg _) (Mi #[Kx MJ a.1,Kx Mo a.2] 336)));have q:=ae (K.alloc (Mi #[Kx MJ a.1,Kx Mo a.2] 336));have T:Lk (((((j.setCell ⟨g,0,KK⟩ (Kx MJ n.1)).setCell ⟨g,1,KK⟩ (Kx Mo n.2)).setCell hb (.slice (IT ⟨g,0,KK⟩) M cap)).alloc (Mi #[Kx MJ a.1,Kx Mo a.2] 336)).heap[j.heap.size]? = IT (Mi #[Kx MJ a.1,Kx Mo a.2] 336)):=ae (by grind [Lw,World.setCell])
 have s:Lk (j.heap.size<((((j.setCell ⟨g,0,KK⟩ (Kx MJ n.1)).setCell ⟨g,1,KK⟩ (Kx Mo n.2)).setCell hb (.slice (IT ⟨g,0,KK⟩) M cap)).alloc (Mi #[Kx MJ a.1,Kx Mo a.2] 336)).heap.size):=ae ai;clear I K A E Q S ew P Y;generalize ((((j.setCell ⟨g,0,KK⟩ (Kx MJ n.1)).setCell ⟨g,1,KK⟩ (Kx Mo n.2)).setCell hb (.slice (IT ⟨g,0,KK⟩) M cap)).alloc (Mi #[Kx MJ a.1,Kx Mo a.2] 336))=W2 at *;go_call(YE R.out (Un HH.out) (by grind [B8,Hid.out])) as e w3⟨l3,rfl,VD,hh3,TL,Cs⟩;have o:=ae TL;have u:w3.heap[j.heap.size]? = IT (Mi #[Kx MJ a.1,Kx Mo a.2] 336):=(Cs.block _ s.out af).trans T.out;have p:w3.heap[w.heap.size]? = IT (Mi #[Kx MJ 0,Kx Mo 0] 336):=(Cs.block _ (Nat.lt_trans L s.out) af).trans ((q.out.block _ L af).trans D.out);have J:Lk (eQ ((w3.setCell w.heap.size (Kx MJ a.1)).setCell ⟨w.heap.size,1,KK⟩ (Kx Mo a.2)) hb (.slice (IT ⟨g,0,KK⟩) (EH l).length cap) l3/\aN (λb=>b=hb\/(fz (IT ⟨g,0,KK⟩) N cap).ownBlock=IT b) w ((w3.setCell w.heap.size (Kx MJ a.1)).setCell ⟨w.heap.size,1,KK⟩ (Kx Mo a.2))/\(a::l3).Perm l):=ae (by
  refine⟨o.out.kept (λb z=>?_),?_,(VD.cons a).trans (f▸Uo Xy)⟩
  .have Z:b≠w.heap.size:=by
    rcases z with rfl | e
    .exact n1
    .cases e;exact n2
   grind [e8]
  .refine((((aN.aZ F.out).trans q.out (λb _ e=>?_)).trans Cs (λb _ e=>?_)).setCell _ _ (.inr (cg _))).setCell _ _ (.inr (cg _))
   .exact e.imp id (λe=>by rw[e];rfl)
   .exact .inr (by rw[e];rfl))
 have q0:w3.cell? j.heap.size=IT (Kx MJ a.1):=by rw[au u];rfl
 have q1:w3.cell? ⟨j.heap.size,1,KK⟩=IT (Kx Mo a.2):=by rw[au u];rfl
 have t:w3.cell? w.heap.size=IT (Kx MJ 0):=by rw[au p];rfl
 have q3:w3.cell? ⟨w.heap.size,1,KK⟩=IT (Kx Mo 0):=by rw[au p];rfl
 have q4:∀k,w3.frozen? ⟨w.heap.size,k,KK⟩=false:=λk=>aO p k;have s1:=aS p 0 (Kx MJ a.1);have s2:=aS s1 1 (Kx Mo a.2);have U:(w3.setCell w.heap.size (Kx MJ a.1)).cell? w.heap.size=IT (Kx MJ a.1):=by rw[au s1];rfl
 have e1:((w3.setCell w.heap.size (Kx MJ a.1)).setCell ⟨w.heap.size,1,KK⟩ (Kx Mo a.2)).cell? ⟨w.heap.size,1,KK⟩=IT (Kx Mo a.2):=by rw[au s2];rfl
 clear s1 s2;have V:=ae hh3;have B:=ae f;clear TL VD Cs u p o R q T c D hh3 f F s;go_wp2;refine bodyPost_ret (by simp[results,Tryz.results262,go_sem,U,e1];try rfl) rfl ?_;exact⟨_,l3,by rw[B.out],J.out.1,V.out,Xy,J.out.2.1,rfl⟩
def agy(w:KX)(c:Nat)(v:J3)(l:List gO)(e:Lp)(w':KX):Prop:=
 ∃(ok:Bool)(x:gO)(v':J3)(a:List gO),e=Mk (Ly #[mr x,.bool ok])/\eQ w' c v' a/\jP a/\aN (λb=>b=c\/v.ownBlock=IT b) w w'/\v'.ownBlock=v.ownBlock/\a.length<=l.length/\if ok=Jd then (x::a).Perm l/\∀y∈a,¬ji y x else l=[]/\a=[]
theorem YJ(h:eQ w hb v l)(c:jP l)(m:l.length<=100000):K1 prog 262 #[ptrTo hb] w (agy w hb v l):=by
 rcases qp l.length with b | b
 .obtain rfl:=jJ b;go_call(Nr h) as e w'⟨rfl,hb⟩;exact⟨J0,_,v,[],rfl,h.below hb,c,aN.aZ hb,rfl,cg _,ai⟩
 .refine(ab6 h c b m).mono ?_;rintro e w'⟨v',n,rfl,i,k,a,f,g⟩;refine⟨Jd,_,v',n,rfl,i,k,f,g,by have:=a.length_eq;grind,?_⟩;rw[if_pos rfl];refine⟨a,λy p=>?_⟩;obtain⟨j,d⟩:=List.mem_iff_getElem?.1 (a.mem_iff.1 (List.mem_cons_of_mem _ p));have o:=(List.getElem?_eq_some_iff.1 d).1;rw[<- Nl d];grind [YB]
end
abbrev Aa:=List (Nat×Nat)
def wY(h:List gO)(m:Aa):Prop:=(∀v d,aI m v=IT d->(d,v)∈h)/\∀y∈h,y.2<4294967296
def nJ:Aa->Option (Nat×Nat)
 | []=>KK
 |p::m=>match nJ m with
   |none=>IT p
   |some q=>if ji (p.2,p.1) (q.2,q.1) then IT p else IT q
theorem EK{m:Aa}(h:nJ m=KK):m=[]:=by
 cases m with
 |nil=>rfl
 |cons p m=>grind [nJ]
theorem xW{m:Aa}{q:Nat×Nat}(h:nJ m=IT q):q∈m/\∀p∈m,¬ji (p.2,p.1) (q.2,q.1):=by
 induction m generalizing q with
 |nil=>cases h
 |cons p m b=>
   rw[nJ]at h;split at h
   .grind [EK,ji.pd]
   .rename_i a e
    split at h
    .rename_i c
     grind [ji.oA,ji.asym]
    grind
theorem Ns{m:Aa}(b:(m.map (·.1)).Nodup){v d:Nat}(a:aI m v=IT d)(c:∀v' d',aI m v'=IT d'->¬ji (d',v') (d,v)):nJ m=IT (v,d):=by
 cases e:nJ m with
 |none=>rw[EK e]at a;cases a
 |some q=>grind [xW,kD,fy,ji.eq]
def pq(m:Aa)(v d:Nat):Aa:=match aI m v with
 |some old=>if old<=d then m else aX m v d
 |none=>aX m v d
theorem Us{h c:List gO}{m:Aa}(b:wY h m){v d:Nat}(g:v<4294967296)(e:c.Perm (h++[(d,v)])):wY c (aX m v d):=by
 refine⟨λv' d' a=>?_,λy f=>?_⟩;rotate_left
 .rcases hS.1 (e.mem_iff.1 f) with h | h
  .exact b.2 y h
  grind
 rw[aC]at a;refine e.mem_iff.2 (hS.2 ?_);split at a
 .grind
 .exact .inl (b.1 _ _ a)
theorem IA{h a:List gO}{m:Aa}(b:wY h m){x:gO}(i:(x::a).Perm h):wY a (match aI m x.2 with | some d=>if d=x.1 then b9 m x.2 else m | none=>m):=by
 have g:∀v d,aI m v=IT d->¬(v=x.2/\d=x.1)->(d,v)∈a:=by
  intro v d c f;rcases qk.1 (i.mem_iff.2 (b.1 v d c)) with e | e
  .grind
  omega
 refine⟨λv d c=>?_,λy j=>b.2 y M2⟩;grind [cV]
def ft(A:Nat->Bool)(S:List Nat)(dist:Nat)(m:Aa)(es:List aJ):Aa:=
 es.foldl (λm x=>if dist+x.x.toNat<9223372036854775808/\x.h.toNat ∉ S/\A x.h.toNat=J0 then pq m x.h.toNat (dist+x.x.toNat) else m) m
def gj(E:Nat->List aJ)(A:Nat->Bool)(a most:Nat):Nat->Aa->List Nat->Bool
 |0,_,_=>J0
 |k+1,m,S=>match nJ m with
   |none=>J0
   |some (v,d)=>if most<d then J0 else if v=a then Jd else gj E A a most k (ft A (v::S) d (b9 m v) (E v)) (v::S)
def ky(E:Nat->List aJ)(A:Nat->Bool)(v:UInt32)(a b:aJ):Option aJ:=
 let s:=a.x.toNat+b.x.toNat
 let c:Nat->Bool:=λw=>w == v.toNat || A w
 if a.t.toNat=b.h.toNat\/c a.t.toNat=Jd\/c b.h.toNat=Jd\/¬s<9223372036854775808\/(∃x∈E a.t.toNat,x.h.toNat=b.h.toNat/\x.x.toNat<=s)\/gj E c b.h.toNat s 16 [(a.t.toNat,0)] []=Jd then KK
 else IT ⟨a.t,b.h,nM s,v⟩
def ju(E:Nat->List aJ)(A:Nat->Bool)(b:List aJ)(v:UInt32):List aJ:=b.flatMap λa=>(E v.toNat).filterMap (ky E A v a)
open Go.ChangeMaps (setBlock)
theorem cF:Keyed prog 33:=int_keyed Tryz.underlying33
abbrev jf(k:Nat):Value:=Kx Mo k
abbrev akJ(k:Nat):Value:=Kx MJ k
theorem dP:∀a b:Nat,jf a=jf b->a=b:=λa b h=>M2
theorem iK{k:Nat}(h:k<4294967296):Good prog 33 (jf k):=by
 refine⟨.int Mo k,?_⟩;unfold keyOf mapKey;rw[Tryz.underlying33];have:(Lit.int Mo (k:Int)).wf=true:=by have a:IntKind.u32.min=0:=rfl;have b:IntKind.u32.max=4294967295:=rfl;grind [Lit.wf]
 grind
abbrev aeg(w:KX)(b:Nat)(m:Aa):Prop:=cj prog 33 jf akJ w b m
structure dQ(w:KX)(fb hb mb:Nat)(v:J3)(h:List gO)(m:Aa):Prop where
 hd:w.heap[fb]? = IT (Mi #[ptrTo hb,.map (IT mb)] 295)
 hp:eQ w hb v h
 hh:jP h
 far:aeg w mb m
 n1:fb≠hb
 n2:fb≠mb
 n3:hb≠mb
 n4:v.ownBlock≠IT fb
 n5:v.ownBlock≠IT mb
def gJ(w:KX)(a:Nat)(B:Nat->Prop)(m:Aa)(c:Nat):Prop:=
 ∃hb mb v h,dQ w a hb mb v h m/\wY h m/\h.length<=c/\B a/\B hb/\B mb/\∀b,v.ownBlock=IT b->B b
section
variable {w W:KX}{fb hb mb c:Nat}{B:Nat->Prop}{v:J3}{h a:List gO}{m m':Aa}
theorem dQ.lt(f:dQ w fb hb mb v h m):fb<w.heap.size/\hb<w.heap.size/\mb<w.heap.size/\∀b,v.ownBlock=IT b->b<w.heap.size:=
 ⟨(ds.1 f.hd).1,f.hp.lt,f.far.lt,λb hb=>(aA f.hp.row b hb).1⟩
theorem dQ.kept(f:dQ w fb hb mb v h m)(a:∀b,b=fb\/b=hb\/b=mb\/v.ownBlock=IT b->w'.heap[b]? = w.heap[b]?):dQ w' fb hb mb v h m:=
 ⟨(a fb (.inl rfl)).trans f.hd,f.hp.kept (λb hb=>a b (hb.elim (λe=>.inr (.inl e)) (λe=>.inr (.inr (.inr e))))),f.hh,f.far.kept (a mb (.inr (.inr (.inl rfl)))),f.n1,f.n2,f.n3,f.n4,f.n5⟩
theorem dQ.below(f:dQ w fb hb mb v h m)(a:Lg w w w'):dQ w' fb hb mb v h m:=by obtain⟨e,d,b,c⟩:=f.lt;grind [kept,Below.block]
theorem gJ.kept(f:gJ w fb B m c)(k:∀b,B b->w'.heap[b]? = w.heap[b]?):gJ w' fb B m c:=by
 obtain⟨hb,mb,v,h,f,j,l,d,a,i,g⟩:=f;refine⟨hb,mb,v,h,f.kept λb hb=>k b ?_,j,l,d,a,i,g⟩;rcases hb with rfl | rfl | rfl | e
 .exact d
 .exact a
 .exact i
 .exact g b e
theorem dQ.cells(f:dQ w fb hb mb v h m):w.cell? fb=IT (ptrTo hb)/\w.cell? ⟨fb,1,KK⟩=IT (.map (IT mb)):=
 ⟨by rw[au f.hd];rfl,by rw[au f.hd];rfl⟩
theorem dQ.mapped(f:dQ w fb hb mb v h m)(a:Obj)(d:aeg (setBlock w mb a) mb m'):dQ (setBlock w mb a) fb hb mb v h m'/\aN (·=mb) w (setBlock w mb a):=by
 have c:∀b,b≠mb->(setBlock w mb a).heap[b]? = w.heap[b]? := λb hb=>bm a hb;refine⟨⟨(c _ f.n2).trans f.hd,f.hp.kept (λb hb=>c b ?_),f.hh,d,f.n1,f.n2,f.n3,f.n4,f.n5⟩,?_⟩
 .grind [n3,n5]
 .exact(aN.refl _ w).setBlock _ _ (.inl rfl)
theorem dQ.turned(f:dQ w fb hb mb v h m)(l:eQ w' hb v' a)(g:jP a)(n:aN (λb=>b=hb\/v.ownBlock=IT b) w w')(r:∀b,v'.ownBlock=IT b->v.ownBlock=IT b\/w.heap.size<=b):dQ w' fb hb mb v' a m:=by
 obtain⟨o,q,i,p⟩:=f.lt;have c:∀b,b<w.heap.size->b≠hb->v.ownBlock≠IT b->w'.heap[b]? = w.heap[b]? := λb j k d=>n.block b j (λe=>e.elim k d);refine⟨(c fb o f.n1 f.n4).trans f.hd,l,g,f.far.kept (c mb i f.n3.symm f.n5),f.n1,f.n2,f.n3,λe=>?_,λe=>?_⟩
 .grind [n4]
 grind [n5]
def EM(w:KX)(a:Nat)(B:Nat->Prop)(m:Aa)(c:Nat)(e:Lp)(w':KX):Prop:=
 e=Mk (Ly #[])/\gJ w' a (λb=>B b\/w.heap.size<=b/\b<w'.heap.size) m (c+1)/\aN B w w'
theorem Nt(w:KX):(zeroValue 61).run prog w=.ok (Kx MJ 0) w:=Tryz.zeroValue61 w
theorem Nu(V:gJ w fb B m c)(hc:c<65536)(x d:Nat)(T:x<4294967296):K1 prog 215 #[ptrTo fb,Kx Mo x,Kx MJ d] w (EM w fb B (pq m x d) c):=by
 have t:=ae V;obtain⟨hb,mb,v,h,f,D,H,s,r,q,p⟩:=V;have F:=ae f;have HW:=ae D;have X:Lk (B fb/\B hb/\B mb/\∀b,v.ownBlock=IT b->B b):=ae ⟨s,r,q,p⟩;obtain⟨E,c1⟩:=f.cells;have u:=ae (iK T);have L:=ae Nt;clear f D s r q p;unfold ptrTo EM at *;by_cases i:∃g,aI m x=IT g/\g<=d
 .obtain⟨g,k,y⟩:=i;have l:=ae k;have A:(g:Int)<=d:=af;have P:Lk (pq m x d=m):=ae (by grind [pq]);clear k y;go_enter func215,ntmps215;go_wp2_with (at_lookup;refine cy _ rfl _ _ _ _ rfl 61 cF dP Tryz.underlying293 (L.out _) mb m rfl F.out.far x rfl u.out ?_;unfold tH;rw[l.out];simp only[ql,FS,H4]);go_returns;exact⟨rfl,by rw[P.out];obtain⟨hb,mb,v,h,f,D,H,s,r,q,p⟩:=t.out;exact⟨hb,mb,v,h,f,D,af,.inl s,.inl r,.inl q,λb e=>.inl (p b e)⟩,aN.refl _ _⟩
 .have P:Lk (pq m x d=aX m x d):=ae (by grind [pq])
  clear t;have C:Lk (∀W,dQ W fb hb mb v h (aX m x d)->K1 prog 260 #[ptrTo hb,mr (d,x)] W (EJ W hb v h (d,x))):=ae (λW f=>YG f.hp f.hh (d,x) af);unfold mr ptrTo at *;dsimp only at C;cases k:aI m x;case' none=>have l:=ae k;clear k i;go_enter func215,ntmps215;go_wp2_with (first | (at_lookup;refine cy _ rfl _ _ _ _ rfl 61 cF dP Tryz.underlying293 (L.out _) mb m rfl F.out.far x rfl u.out ?_;unfold tH;rw[l.out];simp only[Option.map_none,Option.getD_none,Option.isSome_none]) | (at_mapUpdate;refine fL _ rfl _ _ _ _ rfl 61 cF dP Tryz.underlying293 mb m rfl F.out.far x d rfl rfl u.out ?_;intro es a N));clear l
  case' some g=>have l:=ae k;have A:¬(g:Int)<=d:=λy=>i ⟨g,k,af⟩;clear k i;go_enter func215,ntmps215;go_wp2_with (first | (at_lookup;refine cy _ rfl _ _ _ _ rfl 61 cF dP Tryz.underlying293 (L.out _) mb m rfl F.out.far x rfl u.out ?_;unfold tH;rw[l.out];simp only[ql,FS,H4]) | (at_mapUpdate;refine fL _ rfl _ _ _ _ rfl 61 cF dP Tryz.underlying293 mb m rfl F.out.far x d rfl rfl u.out ?_;intro es a N));clear l A
  all_goals
   obtain⟨Q,R⟩:=F.out.mapped _ N;have Y:=ae Q;have O:Lk (aN B w (setBlock w mb (.map es a))):=ae (R.mono (λb _ e=>e▸X.out.2.2.1));have J:(setBlock w mb (.map es a)).heap.size=w.heap.size:=by grind [setBlock]
   clear N Q R E c1 F J;generalize setBlock w mb (.map es a)=n at *;have I:Lk (dQ (n.alloc (Mi #[Kx MJ d,Kx Mo x] 336)) fb hb mb v h (aX m x d)):=ae (Y.out.below aj);have K:Lk ((n.alloc (Mi #[Kx MJ d,Kx Mo x] 336)).cell? n.heap.size=IT (Kx MJ d)/\(n.alloc (Mi #[Kx MJ d,Kx Mo x] 336)).cell? ⟨n.heap.size,1,KK⟩=IT (Kx Mo x)):=ae ai;have U:Lk (aN B w (n.alloc (Mi #[Kx MJ d,Kx Mo x] 336))):=ae (O.out.alloc _);clear O Y;go_wp2_with fail;generalize n.alloc (Mi #[Kx MJ d,Kx Mo x] 336)=S at *;refine cm (Lg S S) 5 (by rfl) ah (aq.drew) ?_;simp only[ii,j2,ot,qd];iterate 3 (refine qz ?_)
   refine qz ?_ (λw' j=>by have E:=(I.out.below j).cells.1;unfold ptrTo at E;go_simp<;>rfl);refine qz ?_ (λw' j=>by have E:=EI j K.out.1;have c1:=EI j K.out.2;go_simp<;>rfl);refine wpQuiet_nil ?_;intro w4 o;have M:=ae (I.out.below o);have G:=ae (U.out.b7 o);have z:=ae (C.out _ M.out);clear o I U K;go_wp2_with fail;go_call z.out as e w5⟨v5,h5,rfl,K8,S7,akL,vG,hn5⟩;have HQ:Lk (gJ w5 fb (λb=>B b\/w.heap.size<=b/\b<w5.heap.size) (aX m x d) (c+1)/\aN B w w5):=ae (by
    obtain⟨s,r,q,p⟩:=X.out;refine⟨⟨hb,mb,v5,h5,M.out.turned K8 S7 vG hn5,Us HW.out T akL,?_,.inl s,.inl r,.inl q,λb e=>?_⟩,G.out.trans vG (λb _ e=>?_)⟩
    .grind [List.Perm.length_eq,eh]
    .exact(hn5 b e).imp (p b) (λZ=>⟨cp G.out.size Z,(aA K8.row b e).1⟩)
    grind)
   clear K8 S7 akL vG hn5 z M G;go_wp2;go_returns;grind [Hid.out]
def A7(w:KX)(a:Nat)(B:Nat->Prop)(m:Aa)(c:Nat)(e:Lp)(w':KX):Prop:=
 (nJ m=KK/\e=Mk (Ly #[Kx Mo 0,Kx MJ 0,.bool J0])/\aN B w w') \/
 ∃x d,nJ m=IT (x,d)/\e=Mk (Ly #[Kx Mo (x:Int),Kx MJ (d:Int),.bool Jd])/\gJ w' a B (b9 m x) c/\aN B w w'
def Qo:Option J3->Nat
 |some (.slice _ n _)=>n
 |_=>0
def YK:J3->Nat
 | .bool Jd=>1
 |_=>0
theorem eQ.Qo(b:eQ w hb v h):Qo (w.cell? hb)=h.length:=by obtain⟨a,k,rfl⟩:=aw b.row;rw[b.cells.1];rfl
theorem YL(a:(m.map (·.1)).Nodup)(b:wY [] m):m=[]:=by
 cases m with
 |nil=>rfl
 |cons p m=>exact absurd (b.1 p.1 p.2 (kD a ai)) ai
structure xX(w:KX)(fb hb mb:Nat)(v0:J3)(B:Nat->Prop)(m:Aa)(c xb:Nat)(ok:Bool)(x:gO)(v:J3)(h:List gO)(W:KX):Prop where
 cs:W.heap[xb]? = IT (Mi #[Kx MJ x.1,Kx Mo x.2] 336)
 ge:w.heap.size<=xb
 fr:dQ W fb hb mb v h m
 ow:v.ownBlock=v0.ownBlock
 tn:aN B w W
 ln:h.length<=c
 yes:ok=Jd->wY (x::h) m/\∀y∈h,¬ji y x
 no:ok=J0->h=[]/\m=[]
section
variable {v0:J3}{xb:Nat}{ok:Bool}{x:gO}
theorem xX.of(J:(m.map (·.1)).Nodup)(f:dQ W fb hb mb v h m)(n:wY h m)(z:v.ownBlock=v0.ownBlock)(A:aN B w W)(q:h.length<=c)(H:B hb/\∀b,v0.ownBlock=IT b->B b){ok:Bool}{x:gO}{a:List gO}{i j:KX}(p1:eQ i hb v' a)(p2:jP a)(k:aN (λb=>b=hb\/v.ownBlock=IT b) W i)(p:v'.ownBlock=v.ownBlock)(E:a.length<=h.length)(g:if ok=Jd then (x::a).Perm h/\∀y∈a,¬ji y x else h=[]/\a=[])(s:j.heap[xb]? = IT (Mi #[Kx MJ x.1,Kx Mo x.2] 336))(C:w.heap.size<=xb)(D:∀b,b=fb\/b=hb\/b=mb\/v0.ownBlock=IT b->b≠xb)(l:aN (·=xb) i j):xX w fb hb mb v0 B m c xb ok x v' a j:=by
 have o:=f.turned p1 p2 k (λb e=>.inl (p▸e));obtain⟨K,F,I,G⟩:=o.lt;refine⟨s,C,o.kept (λb r=>l.block b ?_ (D b ?_)),p.trans z,(A.trans k (λb _ e=>?_)).trans l (λb hb e=>?_),cp E q,λe=>?_,λe=>?_⟩
 .grind
 .grind
 .grind
 .omega
 .rw[if_pos e]at g;exact⟨⟨λv d u=>g.1.mem_iff.2 (n.1 v d u),λy t=>n.2 y (g.1.mem_iff.1 t)⟩,g.2⟩
 grind [YL]
theorem Ut(hF:gJ w fb B m c)(hc:c<=65536):K1 prog 216 #[ptrTo fb] w (A7 w fb B m c):=by
 obtain⟨hb,mb,v0,h0,f,u,L,b1,b2,b3,b4⟩:=hF;have HK:Lk ((m.map (·.1)).Nodup):=ae f.far.keys;have C:Lk (B fb/\B hb/\B mb/\∀b,v0.ownBlock=IT b->B b):=ae ⟨b1,b2,b3,b4⟩;have PU:=ae f.lt;have Q:Lk (∀W v h,dQ W fb hb mb v h m->h.length<=c->K1 prog 262 #[ptrTo hb] W (agy W hb v h)):=ae (λW v h f hl=>YJ f.hp f.hh af);have F:=ae f;have S:=ae (Q.out _ _ _ f L);obtain⟨o,c1⟩:=f.cells;have HZ:=ae Nt;have A:Lk (∀xb,w.heap.size<=xb->∀b,b=fb\/b=hb\/b=mb\/v0.ownBlock=IT b->b≠xb):=ae (λxb FW b co=>Xy)
 have P:Lk (∀{W:KX}{v:J3}{h:List gO}{xb:Nat}{ok:Bool}{x:gO}{v':J3}{K:List gO}{z Y:KX},dQ W fb hb mb v h m->wY h m->v.ownBlock=v0.ownBlock->aN B w W->h.length<=c->eQ z hb v' K->jP K->aN (λb=>b=hb\/v.ownBlock=IT b) W z->v'.ownBlock=v.ownBlock->K.length<=h.length->(if ok=Jd then (x::K).Perm h/\∀y∈K,¬ji y x else h=[]/\K=[])->Y.heap[xb]? = IT (Mi #[Kx MJ (x.1:Int),Kx Mo (x.2:Int)] 336)->w.heap.size<=xb->aN (·=xb) z Y->xX w fb hb mb v0 B m c xb ok x v' K Y):=
  ae (λf u ho ht hl p1 p2 q G J r hc Aj rY=>xX.of HK.out f u ho ht hl ⟨C.out.2.1,C.out.2.2.2⟩ p1 p2 q G J r hc Aj (A.out _ Aj) rY)
 have M:=ae u;clear f u b1 b2 b3 b4;unfold mr ptrTo A7 agy at *;go_enter func216,ntmps216;go_wp2_with fail;go_call S.out as e z⟨ok,x,v1,h1,rfl,p1,p2,q,G,J,r⟩;have Ps:Lk (xX w fb hb mb v0 B m c z.heap.size ok x v1 h1 (z.alloc (Mi #[Kx MJ (x.1:Int),Kx Mo (x.2:Int)] 336))):=ae (P.out F.out M.out rfl (aN.refl _ _) L p1 p2 q G J r (Lw _ _) q.size ((aN.refl _ _).alloc _));clear p1 p2 q G J r S F M o c1 L;go_wp2_with fail;generalize FW:z.heap.size=dl at *;clear FW;generalize z.alloc (Mi #[Kx MJ (x.1:Int),Kx Mo (x.2:Int)] 336)=W1 at *;go_loopw [5,6] (λv5 v6 wr=>∃xb ok x v h,v5=.pointer (IT ⟨xb,0,KK⟩)/\v6=.bool ok/\Lk (xX w fb hb mb v0 B m c xb ok x v h wr)) (λ_ v6 wr=>Qo (wr.cell? hb)+YK v6)
 case atStart=>grind
 case round=>
  obtain⟨xb,ok,x,v,h,rfl,rfl,i⟩:=hrel;clear Ps;generalize wr=E at *;cases ok with
  |false=>obtain⟨rfl,ci⟩:=i.out.no rfl;go_wp2;go_returns;exact .inl ⟨by rw[ci];rfl,rfl,i.out.tn⟩
  |true=>
    obtain⟨u,zu⟩:=i.out.yes rfl;have M:=ae u;have T1:=ae zu;have HG:=ae (iK (u.2 x ai));have N:=ae i.out.fr.hp.Qo;clear u zu;obtain⟨D,b,HD,HL⟩:∃(D:Nat)(b:Bool),Lk (aI m x.2=if b=Jd then IT D else KK)/\Lk (∀w',Lg E E w'->Sem.run prog (Instr.lookup 293 (.map (IT mb)) (Kx Mo (x.2:Int)) Jd) w'=.ok (Ly #[Kx MJ D,.bool b]) w'):=by
     have hl:=λw' d=>(i.out.fr.below (w':=w') d).far.lookup cF dP Tryz.underlying293 (HZ.out w') x.2 HG.out Jd;cases e:aI m x.2 with
     |none=>exact⟨0,J0,ae ai,ae (λw' d=>by grind [tH])⟩
     |some D=>exact⟨D,Jd,ae ai,ae (λw' d=>by grind [tH])⟩
    have s:Lk (∀w',Lg E E w'->w'.cell? fb=IT (.pointer hb)/\w'.cell? ⟨fb,1,KK⟩=IT (.map (IT mb))/\w'.cell? ⟨xb,0,KK⟩=IT (Kx MJ (x.1:Int))/\w'.cell? ⟨xb,1,KK⟩=IT (Kx Mo (x.2:Int))):=ae (λw' d=>by have f:=i.out.fr.below d;have R:w'.heap[xb]? = IT (Mi #[Kx MJ (x.1:Int),Kx Mo (x.2:Int)] 336):=(d.block _ (ds.1 i.out.cs).1).trans i.out.cs;exact⟨f.cells.1,f.cells.2,by rw[au R];rfl,by rw[au R];rfl⟩)
    have ce:Lk (xb≠mb):=ae (by have:=i.out.ge;grind [Hid.out]);by_cases I:b=Jd/\D=x.1
    .obtain⟨rfl,rfl⟩:=I;go_wp2_with fail;refine wq E ?_;iterate 3 (refine qz ?_)
     refine qz ?_ (λw' d=>by obtain⟨o,c1,c2,c3⟩:=s.out w' d;go_simp<;>rfl);refine qz ?_;refine qz ?_ (λw' d=>by obtain⟨o,c1,c2,c3⟩:=s.out w' d;go_simp<;>rfl);refine qz ?_ (λw' d=>by have c4:=HL.out w' d;go_simp<;>rfl);iterate 5 (refine qz ?_)
     refine wpQuiet_nil ?_;intro n g;have H:=ae g;obtain⟨o,c1,c2,c3⟩:=s.out n g;clear g;go_wp2_with fail;clear o c1 c2 c3;refine cm (Lg n n) 6 (by rfl) ah (aq.drew) ?_;simp only[ii,j2,ot,qd];iterate 3 (refine qz ?_)
     refine qz ?_ (λw' d=>by obtain⟨o,c1,c2,c3⟩:=s.out w' (H.out.trans (d.mono H.out.size));go_simp<;>rfl);refine qz ?_;refine qz ?_ (λw' d=>by obtain⟨o,c1,c2,c3⟩:=s.out w' (H.out.trans (d.mono H.out.size));go_simp<;>rfl);refine wpQuiet_nil ?_;intro T O;have U:=ae (H.out.trans (O.mono H.out.size));clear O;have Z:=ae (i.out.fr.below U.out);go_wp2_with (at_delete;refine xy _ rfl _ _ _ rfl 61 cF dP Tryz.underlying293 mb m rfl Z.out.far x.2 rfl HG.out ?_;intro es l oq;obtain⟨f5,vG⟩:=Z.out.mapped _ oq;have F5:=ae f5;have FE:=ae ((i.out.tn.b7 U.out).trans vG (λb _ e=>e▸C.out.2.2.1));have c3:(setBlock T mb (.map es l)).cell? ⟨xb,1,KK⟩=IT (Kx Mo (x.2:Int)):=(by rw[World.cell?_of_block (a:=⟨xb,1,KK⟩) (bm (w:=T) (b:=mb) (.map es l) ce.out)];exact(s.out T U.out).2.2.2);clear f5 vG oq);generalize setBlock T mb (.map es l)=W5 at *;have HQ:Lk (nJ m=IT (x.2,x.1)/\gJ W5 fb B (b9 m x.2) c/\aN B w W5):=ae (by
      have hm:aI m x.2=IT x.1:=Nd;refine⟨Ns HK.out hm (λv' d' ac=>?_),⟨hb,mb,v,h,F5.out,?_,i.out.ln,C.out.1,C.out.2.1,C.out.2.2.1,λb e=>C.out.2.2.2 b (i.out.ow▸e)⟩,FE.out⟩
      .rcases qk.1 (M.out.1 _ _ ac) with e | e
       .rw[e];exact ji.pd _
       .exact T1.out _ e
      .have:=IA M.out (List.Perm.refl (x::h));rw[hm]at this;simpa using this)
     clear F5 FE Z U H;go_returns;exact .inr ⟨_,_,HQ.out.1,rfl,HQ.out.2.1,HQ.out.2.2⟩
    .have aE:Lk (wY h m):=ae (by have:=IA M.out (List.Perm.refl (x::h));grind [Hid.out])
     cases b;case' false=>skip
     case' true=>have de:¬(D:Int)=x.1:=λe=>I ⟨rfl,af⟩
     all_goals
      clear I;go_wp2_with fail;refine wq E ?_;iterate 3 (refine qz ?_)
      refine qz ?_ (λw' d=>by obtain⟨o,c1,c2,c3⟩:=s.out w' d;go_simp<;>rfl);refine qz ?_;refine qz ?_ (λw' d=>by obtain⟨o,c1,c2,c3⟩:=s.out w' d;go_simp<;>rfl);refine qz ?_ (λw' d=>by have c4:=HL.out w' d;go_simp<;>rfl);iterate 5 (refine qz ?_)
      refine wpQuiet_nil ?_;intro n g;have F3:Lk (dQ (n.alloc (Mi #[Kx MJ (x.1:Int),Kx Mo (x.2:Int)] 336)) fb hb mb v h m):=ae (i.out.fr.below (g.alloc g.size _));have uQ:Lk (aN B w (n.alloc (Mi #[Kx MJ (x.1:Int),Kx Mo (x.2:Int)] 336))):=ae ((i.out.tn.b7 g).alloc _);have X:Lk ((n.alloc (Mi #[Kx MJ (x.1:Int),Kx Mo (x.2:Int)] 336)).heap[n.heap.size]? = IT (Mi #[Kx MJ (x.1:Int),Kx Mo (x.2:Int)] 336)):=ae (Lw _ _);have V:Lk (w.heap.size<=n.heap.size):=ae (cp i.out.tn.size g.size);obtain⟨o,c1,c2,c3⟩:=s.out n g;have S:=ae (Q.out _ _ _ F3.out i.out.ln);have bd:=(ds.1 (i.out.fr.below g).hd).1;clear g;go_wp2_with fail;clear o c1 c2 c3 bd;generalize al:n.heap.size=j at *;generalize n.alloc (Mi #[Kx MJ (x.1:Int),Kx Mo (x.2:Int)] 336)=W4 at *;clear al;go_call S.out as e w5⟨ok,y,v5,h5,rfl,p1,p2,q,G,J,r⟩;have p:w5.heap[j]? = IT (Mi #[Kx MJ (x.1:Int),Kx Mo (x.2:Int)] 336):=(q.block j (ds.1 X.out).1 (λe=>by
       rcases e with e | e
       .exact A.out j V.out hb (.inr (.inl rfl)) e.symm
       .exact A.out j V.out j (.inr (.inr (.inr (i.out.ow▸e)))) rfl)).trans X.out
      have s1:=aS p 0 (Kx MJ (y.1:Int));have s2:=aS s1 1 (Kx Mo (y.2:Int));have am:Lk (xX w fb hb mb v0 B m c j ok y v5 h5 ((w5.setCell j (Kx MJ (y.1:Int))).setCell ⟨j,1,KK⟩ (Kx Mo (y.2:Int)))):=ae (P.out F3.out aE.out i.out.ow uQ.out i.out.ln p1 p2 q G J r s2 V.out (((aN.refl (·=j) w5).setCell j _ (.inl rfl)).setCell ⟨j,1,KK⟩ _ (.inl rfl)));have dq:Lk (Qo (((w5.setCell j (Kx MJ (y.1:Int))).setCell ⟨j,1,KK⟩ (Kx Mo (y.2:Int))).cell? hb)+YK (.bool ok)<Qo (E.cell? hb)+YK (.bool Jd)):=ae (by
       rw[am.out.fr.hp.Qo,N.out];cases ok with
       |true=>have:=(r.1).length_eq;simp at this;omega
       |false=>have:=r.2;subst this;show 0+0<h.length+1;omega)
      have q0:w5.cell? j=IT (Kx MJ (x.1:Int)):=by rw[au p];rfl
      have q1:w5.cell? ⟨j,1,KK⟩=IT (Kx Mo (x.2:Int)):=by rw[au p];rfl
      have t:∀k,w5.frozen? ⟨j,k,KK⟩=false:=λk=>aO p k;clear p1 p2 q G J r p s1 s2 S F3 uQ X N;go_wp2;grind [Hid.out]
end
end
theorem Uu(x y:Nat)(w:KX):(callFunc 213 #[Kx MJ x,Kx MJ y,Kx MJ 0]).run prog w=.ok (.value (Ly #[Kx MJ ((x+y)%18446744073709551616:Nat),Kx MJ ((x+y)/18446744073709551616:Nat)])) w:=by rw[run_callFunc_extern func213 ah ah ah (e:=add64Entry) ah,run_add64 x y 0 af af af af];simp only[Result.andThen];congr 5<;>omega
def Qq(x y:Nat):Value:=if x+y<9223372036854775808 then Ly #[Kx MJ (x+y:Nat),.bool Jd] else Ly #[Kx MJ 0,.bool J0]
theorem Nv(x y:Nat)(g:x<18446744073709551616)(i:y<18446744073709551616)(w:KX):K1 prog 173 #[Kx MJ x,Kx MJ y] w λe w'=>e=Mk (Qq x y)/\w'=w:=by
 have a:=Uu x y;by_cases h:x+y<9223372036854775808
 .rw[DQ af,Nat.div_eq_of_lt af]at a;have b:Lk (Qq x y=Ly #[Kx MJ (x+y:Nat),.bool Jd]):=ae (if_pos h);obtain⟨s,c⟩:=ac (x+y);rw[<- c]at h a b;have f:¬(s:Int) >= 9223372036854775808:=af;have j:decide ((s:Int) >= 9223372036854775808)=false:=decide_eq_false f;clear c g i;go_enter func173,ntmps173;go_wp2_with (simp only[a]);go_returns;exact⟨by rw[b.out];rfl,rfl⟩
 .have b:Lk (Qq x y=Ly #[Kx MJ 0,.bool J0]):=ae (if_neg h);by_cases d:x+y<18446744073709551616
  .rw[DQ d,Nat.div_eq_of_lt d]at a;obtain⟨s,c⟩:=ac (x+y);rw[<- c]at h a;have f:(s:Int) >= 9223372036854775808:=af;have j:decide ((s:Int) >= 9223372036854775808)=true:=decide_eq_true f;clear c g i d;go_enter func173,ntmps173;go_wp2_with (simp only[a]);go_returns;exact⟨by rw[b.out];rfl,rfl⟩
  .rw[show(x+y)/18446744073709551616=1 by omega]at a;generalize (x+y)%18446744073709551616=s at *;clear d h g i;go_enter func173,ntmps173;go_wp2_with (simp only[a]);go_returns;exact⟨by rw[b.out];rfl,rfl⟩
def nK(lo x hi:Int):Int:=min (max lo x) hi
theorem YN(lo x hi:Int)(h:lo<=hi):lo<=nK lo x hi:=by unfold nK;omega
theorem YO(lo x hi:Int):nK lo x hi<=hi:=by unfold nK;omega
theorem Nw(lo x hi:Int)(w:KX):K1 prog 114 #[Kx Mm lo,Kx Mm x,Kx Mm hi] w λe w'=>e=Mk (Kx Mm (nK lo x hi))/\w'=w:=by
 unfold nK;go_enter func114,ntmps114;go_wp2;all_goals
  go_ret;exact⟨se af,rfl⟩
def Qr(i o s l g:Int):Int:=max 0 (1048576+2*nK 0 s 1073741824+g+l-nK 0 i 1073741824-nK 0 o 1073741824)
theorem Nx(b:Nat)(a g c d f h:Int)(w:KX)(x:w.cell? b=IT (Kx Mm a))(v:w.cell? ⟨b,1,KK⟩=IT (Kx Mm g))(A:w.cell? ⟨b,2,KK⟩=IT (Kx Mm c))(y:w.cell? ⟨b,3,KK⟩=IT (Kx Mm d))(u:w.cell? ⟨b,4,KK⟩=IT (Kx Mm f))(z:w.cell? ⟨b,5,KK⟩=IT (Kx Mm h))(k:0<=a/\a<=4294967296)(n:0<=g/\g<=4294967296)(m:0<=c/\c<=4294967296)(j:0<=d/\d<=4294967296)(i:-4294967296<=f/\f<=4294967296)(l:-4294967296<=h/\h<=4294967296) :
  Calls prog 113 #[.slice b 6 6] w λe w'=>e=Mk (Kx Mm (a+g+c+d+f+h))/\w'=w:=by
 obtain⟨k,p⟩:=k;obtain⟨n,r⟩:=n;obtain⟨m,o⟩:=m;obtain⟨j,q⟩:=j;obtain⟨i,s⟩:=i;obtain⟨l,t⟩:=l;go_enter func113,ntmps113;go_wp2;refine wp_loop_rounds 7 ?_;iterate 7 (rw[rounds_succ];go_wp2)
 go_ret;exact⟨rfl,rfl⟩
theorem rO(x:Int):0<=nK 0 x 1073741824/\nK 0 x 1073741824<=1073741824:=⟨YN _ _ _ ag,YO _ _ _⟩
theorem Ny(i o s r l g:Int)(w:KX)(j:0<=l)(a:l<=4294967295)(h:0<=g)(c:g<=4294967295):K1 prog 61 #[Kx Mm i,Kx Mm o,Kx Mm s,LV #[Kx Mo r,Kx Mo l,Kx Mo g]] w
  λe w'=>e=Mk (Kx MJ (Qr i o s l g))/\Lg w w w':=by
 obtain⟨i0,d⟩:=rO i;obtain⟨m,f⟩:=rO o;obtain⟨k,s1⟩:=rO s;go_enter func61,ntmps61;go_wp2;refine cm (λw'=>∃n,w'=(w.alloc (Mi #[Kx Mo r,Kx Mo l,Kx Mo g] 110)).drewN n) 15 ah ah ⟨1,rfl⟩ ?_;simp only[ii,j2,ot,qd];repeat go_big_quiet_step ((go_at_call 114;exact Calls.quiet_of_same (Nw _ _ _ _)))
 refine wpQuiet_nil ?_;rintro _⟨b,rfl⟩;go_wp2_with fail;go_call(Nx _ 1048576 (2*nK 0 s 1073741824) g l (-nK 0 i 1073741824) (-nK 0 o 1073741824) _ (by go_simp) (by go_simp) (by go_simp) (by go_simp) (by go_simp) (by go_simp) ⟨af,af⟩ ⟨af,af⟩ ⟨af,af⟩ ⟨af,af⟩ ⟨af,af⟩ ⟨af,af⟩) as e w'⟨rfl,rfl⟩;go_wp2;all_goals
  go_ret;refine⟨?_,?_⟩
  .exact se (by unfold Qr;omega)
  .exact(below_drewN aj _).alloc (by simp[World.drewN]) _
theorem YP(w:KX):gR w (.slice KK 0 0) []:=⟨KK,0,rfl,.inl rfl⟩
section
variable {w:KX}{O k N p A r v:Nat}{o o':ay}{d':Dsk}{L':aL}
theorem G0(E:Nat->Dsk->Prop)(h:aU w j db n o d L)(u:eF w o k j gen N p A r){i:Int}{x:aJ}(M:∀W,Lg w w W->K1 prog 104 #[ptrTo p,Kx Mm i] W (Nb E n j db W o d L x.bytes)):K1 prog 119 #[ptrTo k,Kx Mm i] w (sM E n j db w o d L x):=by
 have S:Lk (∀W,Lg w w W->K1 prog 178 #[ptrTo p,Kx Mm i] W (sM E n j db W o d L x)):=ae (λW I=>wW E (h.below I) (λW' V=>M W' (I.trans (V.mono I.size))));obtain⟨g0,-,-,-,-⟩:=u.raw.cells;have Z:=u.raw.lt;have H:=ae h;clear h u M;unfold ptrTo at *;have K:Lk (Lg w w (w.alloc (Mi #[Kx Mo 0,Kx Mo 0,Kx MJ 0,Kx Mo 0] 63))):=ae aj;have P:Lk ((w.alloc (Mi #[Kx Mo 0,Kx Mo 0,Kx MJ 0,Kx Mo 0] 63)).heap[w.heap.size]? = IT (Mi #[Kx Mo 0,Kx Mo 0,Kx MJ 0,Kx Mo 0] 63)):=ae (Lw w _);have J:Lk (o w.heap.size=KK):=ae (H.out.fresh (cg _));go_enter func119,ntmps119;go_wp2_with fail;generalize w.alloc (Mi #[Kx Mo 0,Kx Mo 0,Kx MJ 0,Kx Mo 0] 63)=O at *;go_call(S.out O K.out) as e w1⟨c1,s,f,y,rfl,eO,yz,Yw,hz1⟩;have F:w.heap.size<O.heap.size:=(ds.1 P.out).1;have R:=ae ((Moved.aZ H.out K.out).trans eO (λ_ _ h=>h));have g:=ae (eO.heap P.out J.out (λh=>h));have Y:=ae yz;have C:=ae Yw;have XO:=ae hz1;have l:Lk (f w.heap.size=KK):=ae (eO.free F J.out);clear eO yz Yw hz1;have X:Lk (∀(B:KX)(a b c e:J3),B.heap[w.heap.size]? = IT (Mi #[Kx Mo 0,Kx Mo 0,Kx MJ 0,Kx Mo 0] 63)->((((B.setCell w.heap.size a).setCell ⟨w.heap.size,1,KK⟩ b).setCell ⟨w.heap.size,2,KK⟩ c).setCell ⟨w.heap.size,3,KK⟩ e).heap[w.heap.size]? = IT (Mi #[a,b,c,e] 63)):=ae (λB a b c e T=>by rw[aS (aS (aS (aS T 0 a) 1 b) 2 c) 3 e];rfl)
 have k0:w1.cell? w.heap.size=IT (Kx Mo 0):=by rw[au g.out];rfl
 have D:w1.cell? ⟨w.heap.size,1,KK⟩=IT (Kx Mo 0):=by rw[au g.out];rfl
 have G:w1.cell? ⟨w.heap.size,2,KK⟩=IT (Kx MJ 0):=by rw[au g.out];rfl
 have z:w1.cell? ⟨w.heap.size,3,KK⟩=IT (Kx Mo 0):=by rw[au g.out];rfl
 have z0:=aO g.out 0;have z1:=aO g.out 1;have z2:=aO g.out 2;have z3:=aO g.out 3;have ac:w.heap.size<w1.heap.size:=(ds.1 g.out).1;have m:=ae (X.out w1 y.t y.h y.x y.m g.out);have fH:Lk (Moved (λ_=>False) n j db w o d ((((w1.setCell w.heap.size y.t).setCell ⟨w.heap.size,1,KK⟩ y.h).setCell ⟨w.heap.size,2,KK⟩ y.x).setCell ⟨w.heap.size,3,KK⟩ y.m) f s L):=ae ((((R.out.setCell _ _ l.out (.inr (cg _))).setCell _ _ l.out (.inr (cg _))).setCell _ _ l.out (.inr (cg _))).setCell _ _ l.out (.inr (cg _)));go_wp2;generalize ((((w1.setCell w.heap.size y.t).setCell ⟨w.heap.size,1,KK⟩ y.h).setCell ⟨w.heap.size,2,KK⟩ y.x).setCell ⟨w.heap.size,3,KK⟩ y.m)=q at *;have Q:q.cell? w.heap.size=y.t:=by rw[au m.out];rfl
 have q1:q.cell? ⟨w.heap.size,1,KK⟩=y.h:=by rw[au m.out];rfl
 have t:q.cell? ⟨w.heap.size,2,KK⟩=y.x:=by rw[au m.out];rfl
 have U:q.cell? ⟨w.heap.size,3,KK⟩=y.m:=by rw[au m.out];rfl
 clear k0 D G z z0 z1 z2 z3;exact bodyPost_ret (v:=Ly #[LV #[y.t,y.h,y.x,y.m],c1]) (by simp[results,Tryz.results119,go_sem,Q,q1,t,U]) rfl ⟨c1,s,f,y,rfl,fH.out,Y.out,C.out,XO.out⟩
theorem Ki(g:aV)(h:aU w j db n o d L)(a:eF w o k j gen N p A r){fl:Bool}(f:aI L (aF 101 gen)=IT (az es fl)){i:Nat}{x:aJ}(hi:es[i]? = IT x):K1 prog 119 #[ptrTo k,i] w (sM (λc d'=>c=0\/om d d' L c) n j db w o d L x):=by have b:=aK hi;refine G0 _ h a (λW e=>?_);have:=nO g (h.below e) (a.out.below e) a.Yr ag ag f (dN es) (i:=i) (by rw[dj];exact b);rw[List.getElem_map]at this;rw[bk b]at hi;rw[Option.some.inj hi]at this;exact this
end
theorem eG.turn{b c:Bool}{l:List aJ}{a:List aJ}(h:eG b (aH c l) a):eG b l a:=by
 have k:=bM c l;refine⟨h.il,λe i=>?_,λx g d=>?_⟩
 .grind [mem]
 .obtain⟨y,m,j⟩:=k.all x g d;obtain⟨e,i,f⟩:=h.all y m (j.symm.loop d);grind [same.trans]
theorem uA(b a:Bool)(l:List aJ):aH b (aH a l)=aH b l:=(bM b (aH a l)).turn.eq
theorem IB{w:KX}{v:J3}(h:Rd w v bs):Sem.run prog (convert 46 9 v) w=.ok (.string ⟨bs.toArray⟩) w:=by
 obtain⟨a,cap,rfl,i,f,d⟩:=h;have l:∀ad:Addr,a=IT ad->(∀(j:Nat)(k:j<bs.length),w.cell? (ad.add j)=IT (bv bs[j]))->Sem.run prog (convert 46 9 (.slice a bs.length cap)) w=.ok (.string ⟨bs.toArray⟩) w:=λad e c=>by subst e;exact run_convert_bytes_back (P:=prog) w 46 9 5 ad cap bs Tryz.underlying46 Tryz.underlying5 Tryz.underlying9 c
 rcases d with d |⟨b,g,rfl,c⟩
 .cases a with
  |none=>have hb:bs=[]:=List.length_eq_zero_iff.1 d;subst hb;exact run_convert_bytes_nil w 46 5 Tryz.underlying46 Tryz.underlying5 0 cap 9 Tryz.underlying9
  |some ad=>grind
 grind [br]
theorem Kj{w:KX}{u v:J3}(b:Rd w u bs)(d:Rd w v bs):K1 prog 11 #[u,v] w λe w'=>e=Mk (.bool Jd)/\w=w':=by have f:=IB b;have g:=IB d;obtain⟨a,cap,rfl,-⟩:=b;obtain⟨h,c,rfl,-⟩:=d;generalize bs.length=N at *;go_enter func11,ntmps11;go_wp2;go_ret;simp
theorem Uv:(prog.info? 50).map (λi=>(i.zero,i.size,i.bytes))=IT (IT (LV #[.string ByteArray.empty,.slice KK 0 0]),2,40):=ah
abbrev kL:=Name×J3×List UInt8
def tM:List kL->List J3
 | []=>[]
 |p::l=>[.string p.1,p.2.1]++tM l
theorem Nz(a b:List kL):tM (a++b)=tM a++tM b:=by
 induction a with
 |nil=>rfl
 |cons p a c=>rw[DD,tM,tM,c,o0]
theorem NA{l:List kL}{i:Nat}{p:kL}(h:l[i]? = IT p):(tM l)[i*2]? = IT (.string p.1)/\(tM l)[i*2+1]? = IT p.2.1:=by
 induction l generalizing i with
 |nil=>cases h
 |cons q l a=>
   cases i with
   |zero=>cases h;exact⟨rfl,rfl⟩
   |succ i=>have:=a (i:=i) (by simpa using h);rw[tM,show(i+1)*2=i*2+1+1 by omega,show i*2+1+1+1=(i*2+1)+1+1 by omega];simpa using this
structure j9(w:KX)(base:Nat)(v:J3)(l:List kL):Prop where
 row:w.ownsRow base 50 2 v l.length (tM l)
 each:∀p∈l,w.ownsRow base 5 1 p.2.1 p.2.2.length (p.2.2.map bv)
section
variable {w:KX}{base:Nat}{v:J3}{l:List kL}
theorem j9.below(h:j9 w base v l)(a:Lg w w w'):j9 w' base v l:=⟨aB h.row a,λp b=>aB (h.each p b) a⟩
theorem j9.cells{g cap:Nat}(h:j9 w base (.slice g n cap) l){i:Nat}{p:kL}(hi:l[i]? = IT p):w.cell? ⟨g,i*2,KK⟩=IT (.string p.1)/\w.cell? ⟨g,i*2+1,KK⟩=IT p.2.1:=by
 have a:∀(j:Nat)(u:J3),(tM l)[j]? = IT u->w.cell? ⟨g,j,KK⟩=IT u:=λj u c=>by have:=World.ownsRow.cells h.row (g:=g) rfl j u c;rwa [br,j0]at this
 obtain⟨d,b⟩:=NA hi;exact⟨a _ _ d,a _ _ b⟩
theorem j9.shape(h:j9 w base v l):(l=[]/\v=.slice KK 0 0)\/∃g cap,v=.slice (IT ⟨g,0,KK⟩) l.length cap/\l.length<=cap/\cap<=maxLen:=by
 obtain⟨_,⟨a,b⟩|⟨g,cap,d,rfl,i,f,c,e,_⟩⟩:=h.row
 .exact .inl ⟨jJ b,a⟩
 .exact .inr ⟨g,cap,rfl,c,e⟩
end
theorem kA{w:KX}{rest:List Oper}{f:Oper}{a:Act}(g:f.guard=KK)(s x:Operand)(p:f.op=.call { callee:=.builtin .append,args:=#[s,x],argTypes:=#[43,43] })(base:Nat)(v:J3)(l:List kL)(q:a.eval s=v)(e:w.ownsRow base 50 2 v l.length (tM l))(y:kL)(c:Nat)(o:a.eval x=.slice w.heap.size 1 c)(r:l.length<=1000)(h:base<=w.heap.size)(b:y.2.1.oneCell'=Jd)(k:∀v' w',w'.ownsRow base 50 2 v' (l++[y]).length (tM (l++[y]))->gP v (w.alloc (Mi #[.string y.1,y.2.1] 50)) w' v'->wpList prog ops Q rest (a.put f.dst v') w') :
 wpList prog ops Q (f::rest) a (w.alloc (Mi #[.string y.1,y.2.1] 50)):=by
 refine ct g s x 43 p base 50 _ 2 40 Tryz.underlying43 Uv rfl ag v l.length (tM l) q (World.ownsRow.alloc e _) ⟨w.heap.size,0,KK⟩ 1 c [.string y.1,y.2.1] o rfl (λj u d=>?_) (λu i=>by
  simp only[qk,List.not_mem_nil,or_false]at i;rcases i with rfl | rfl
  .rfl
  .exact b) (by unfold maxLen;omega) af (by simp;omega) (λv' w' m n=>k v' w' ?_ n)
 .rw[br,j0];match j,d with
  |0,d=>cases d;simp
  |1,d=>cases d;simp
  |j+2,d=>cases d
 .rw[Nz,eh];exact m
def Uw(w:KX)(d:Dsk)(e:Lp)(w':KX):Prop:=
 ∃v l,e=Mk v/\j9 w' w.heap.size v l/\(l.map (·.1)).Perm (d.files.map (·.1))/\(∀p∈l,∃f,aI d.files p.1=IT f/\p.2.2=f.now)/\Lg w w w'
theorem Ux{w:KX}{o:ay}(h:cI w db o d)(hn:d.files.length<=1000)(hs:∀x∈d.files.map (·.1),x.size<=1000):K1 prog 8 #[ptrTo db] w (Uw w d):=by
 have Ew:=ae (Iu h hn);obtain⟨mf,ml,l,h⟩:=h;have HD:=ae h;have HS:=ae hs;have ME:Lk (d.files.map (·.1)=l.map (·.1)):=ae (by rw[<- h.strip,rj];rfl);have Et:Lk (∀x,aI d.files x=(aI l x).map (·.2)):=ae (λx=>by rw[<- h.strip];exact uO);have Q:Lk (∀W v bs,Rd W v bs->bs.length<=16777216->K1 prog 26 #[v] W (jR W bs)):=ae (λW v bs hv U=>gZ v bs W hv af);have HN:Lk (d.files.length<=1000):=ae hn;clear h hn hs;unfold ptrTo at *;go_enter func8,ntmps8;go_wp2_with fail;go_call Ew.out as e w1⟨vn,ns,rfl,wh,hrow,hb1⟩;have HP:=ae wh;have kS:=ae hrow;have cD:=ae hb1;have dq:ns.length<=1000:=by have k:=wh.length_eq;rw[dj]at k;have:=HN.out;omega
 have am:Lk (∀i x,ns[i]? = IT x->x.size<=1000/\∃u f,aI l x=IT (u,f)):=ae (λi x a=>by have k:x∈d.files.map (·.1):=wh.mem_iff.1 (List.mem_of_getElem? a);refine⟨HS.out x k,?_⟩;rw[ME.out,mem_keys]at k;obtain⟨⟨u,f⟩,h2⟩:=Option.isSome_iff_exists.1 k;exact⟨u,f,h2⟩)
 have nT:Lk (∀i x,ns[i]? = IT x->ns.take (i+1)=ns.take i++[x]):=ae (λi x a=>by have U:=aK a;rw[List.take_succ_eq_append_getElem U];rw[bk U]at a;rw[Option.some.inj a])
 have np:Lk (ns.take ns.length=ns):=ae (List.take_of_length_le (cg _));have HX:Lk (∀i,i<ns.length->∃x,ns[i]? = IT x):=ae (λi hi=>⟨_,bk hi⟩);obtain⟨an,L,rfl⟩:=aw hrow;clear wh hrow hb1 Ew;generalize z:ns.length=N at *;have O:=ae z;clear z;go_wp2;go_loopw [3,9] (λv iv W=>∃(i:Nat)(fs:List kL),i<=N/\iv=Kx Mm (i:Int)/\j9 W w.heap.size v fs/\fs.map (·.1)=ns.take i/\(∀p∈fs,∃f,aI d.files p.1=IT f/\p.2.2=f.now)/\W.ownsRow (w.heap.size+1) 9 1 (.slice an N L) N (ns.map ki)/\Lg w w W) (λ_ iv _=>N-(Lo iv).toNat)
 case atStart=>exact⟨0,[],em _,rfl,⟨gp _ _ _ _,(λp b=>nomatch b)⟩,rfl,(λp b=>nomatch b),kS.out,cD.out⟩
 case round=>
  generalize u3=v at *;generalize wr=W at *;obtain⟨i,fs,hi,rfl,hf,B,E,t,hb⟩:=hrel;have S:=ae hf;have r:=ae B;have F:=ae E;have HR:=ae t;have A:=ae hb;clear hf B E t hb kS cD;by_cases bd:i<N
  .obtain⟨x,a⟩:=HX.out i bd;obtain⟨co,u,f,J⟩:=am.out i x a;have R:=ae (HD.out.below A.out);have n:∃g,an=IT ⟨g,0,KK⟩/\N<=L/\L<=maxLen/\W.cell? ⟨g,i,KK⟩=IT (.string x):=by
    obtain⟨_,⟨k,h2⟩|⟨g,cap,P,k,hg,hh,hc,hm,h3,h4⟩⟩:=HR.out
    .omega
    .cases k;refine⟨g,rfl,hc,hm,?_⟩;rw[au hh];have h5:(P.toList.take (N*1))[i]? = (ns.map ki)[i]? := by rw[h4]
     rw[List.getElem?_take_of_lt af]at h5;rw[<- Array.getElem?_toList,h5,List.getElem?_map,a];rfl
   obtain⟨g,rfl,ci,ac,hc⟩:=n;unfold maxLen at ac;obtain⟨⟨de,-⟩,-⟩:=R.out.head.cells;have lK:(x,u,f)∈l:=fy J;have CO:=R.out.each _ lK;obtain⟨fv,fu,⟨LD,-⟩,-,hrow,-⟩:=CO.cells;have jT:=CO.most.1;have HM:Lk (aI l x=IT (u,f)):=ae J;have T:Lk (aI d.files x=IT f):=ae (by rw[Et.out,J];rfl);have YQ:=ae (nT.out i x a);have yM:=ae (Q.out W fv f.now (fp hrow) jT);have hg:=pM (s:=x) (by unfold maxLen;omega);obtain⟨fa,fc,rfl⟩:=aw hrow;have Y:Lk (fs.length=i):=ae (by have k:=congrArg List.length r.out;rw[dj,List.length_take,O.out]at k;omega)
   have hz:∀W:KX,(zeroValue 80).run prog W=.ok (.pointer KK) W:=λW=>ah
   clear CO hrow lK J a;generalize C:f.now=bs at *;have VI:=ae C;clear C;go_wp2_with (at_lookup;refine cy _ rfl _ _ _ _ rfl 80 kW oF Tryz.underlying81 (hz _) mf l rfl R.out.files x rfl hg ?_;rw[HM.out];simp only[ql,FS,ptrTo]);go_call yM.out as e W2⟨cv,rfl,hrow2,hb2⟩;have ve:=ae (aQ hrow2 A.out.size);have cA:=ae (A.out.trans (hb2.mono A.out.size));have D:=ae (S.out.below hb2);have q:=ae (aB HR.out hb2);have dl:=ae (fp hrow2);have al:w.heap.size<=W2.heap.size:=cA.out.size;have ee:Lk (∀x,cv.ownBlock=IT x->W.heap.size<=x/\x<W2.heap.size):=ae (λx a=>⟨aD hrow2 x a,(aA hrow2 x a).1⟩);have du:W.heap.size<=W2.heap.size:=hb2.size;obtain⟨H,G,rfl⟩:=aw hrow2;have ce:Lk (∀x,v.ownBlock=IT x->x<W.heap.size):=ae (λx a=>(aA S.out.row x a).1);clear hrow2 hb2 yM;have aE:fs.length<=1000:=by rw[Y.out];omega
   go_wp2_with (at_builtin;refine kA rfl _ _ rfl w.heap.size _ fs rfl D.out.row (x,.slice H bs.length G,bs) 1 rfl aE al rfl ?_);intro v3 I j TL;obtain⟨c,M⟩:=TL;have nB:W2.heap.size<(W2.alloc (Mi #[.string x,.slice H bs.length G] 50)).heap.size:=ai;have K:∀y,y<W2.heap.size->v.ownBlock≠IT y->I.heap[y]? = W2.heap[y]? := λy m X=>(c.block y af (λe=>X e.symm)).trans ((MapKept.heap_alloc W2 _).2 y m);have Z:Lk (j9 I w.heap.size v3 (fs++[(x,.slice H bs.length G,bs)])):=ae (by
    refine⟨by rw[eh];exact j,λp b=>?_⟩;have t:W2.ownsRow w.heap.size 5 1 p.2.1 p.2.2.length (p.2.2.map bv):=by
     rcases hS.1 b with b | b
     .exact D.out.each p b
     .rw[kj.1 b];exact ve.out
    exact bg t (λy m=>K y (aA t y m).1 (λe=>cr t D.out.row ag y m e)))
   have V:Lk (I.ownsRow (w.heap.size+1) 9 1 (.slice (IT ⟨g,0,KK⟩) N L) N (ns.map ki)):=ae (bg q.out (λy m=>K y (aA q.out y m).1 (λe=>cr q.out D.out.row ag y m e)));have gU:Lk (Lg w w I):=ae (by refine cA.out.trans ⟨c.os.trans rfl,c.tape.trans rfl,c.output.trans rfl,cp (Nat.le_of_lt nB) c.size,λy m=>K y af (λe=>?_)⟩;have:=(aA D.out.row y e).2;omega)
   clear c M K j;go_wp2;go_roundw
   case rel=>exact⟨i+1,fs++[(x,.slice H bs.length G,bs)],af,by go_num,Z.out,by rw[List.map_append,r.out,YQ.out];rfl,(λp b=>(hS.1 b).elim (F.out p) (λb=>by rw[kj.1 b];exact⟨f,T.out,VI.out.symm⟩)),V.out,gU.out⟩
   case measure=>simp[Lo];omega
  .obtain rfl:N=i:=af
   go_wp2;go_ret;refine⟨v,fs,rfl,S.out,?_,F.out,A.out⟩;rw[r.out,np.out];exact HP.out
section
variable {q q1 t:Nat}{w:KX}{J D n1 M F n2:Nat}{o f G I:ay}{s y C:Dsk}{b e i:aL}{S:Nat->Prop}
def Uy(q:Nat)(w0 w:KX)(a db n:Nat)(o:ay)(d:Dsk)(L:aL)(e:Lp)(w':KX):Prop:=
 ∃v l,e=Mk v/\j9 w' w.heap.size v l/\Kept q w0 w' a db n o d L/\Lg w w w'/\l.length=L.length/\(l.map (·.1)).Nodup/\(∀x,x∈l.map (·.1)↔(aI L x).isSome=Jd)/\(∀p∈l,∃f,aI d.files p.1=IT f/\p.2.2=f.now)
theorem Qs(h:Kept q w0 w j db n o d L)(k:L.length<=1000):K1 prog 8 #[ptrTo db] w (Uy q w0 w j db n o d L):=by
 have m:=h.count;have H:=h;obtain⟨_,_,_,_,_,g,_,a⟩:=h.bh;refine(Ux g.l6 af (λx c=>?_)).mono ?_
 .rw[mem_keys]at c;exact bO (a.ok x (by rw[<- a.names];exact c))
 .rintro e w'⟨v,l,rfl,f,b,i,hb⟩;refine⟨v,l,rfl,f,H.later hb,hb,?_,b.nodup_iff.2 a.ij,λx=>?_,i⟩
  .have:=b.length_eq;rw[dj,dj]at this;omega
  .rw[b.mem_iff,mem_keys,a.names]
theorem Kept.now(h:Kept q w0 w j db n o d L){ps:List Pg}(c:aI L name=IT (.inl (ps,Jd))){f:bY}(a:aI d.files name=IT f):f.now=bC (fO name) 0 ps:=by obtain⟨_,_,_,_,_,_,_,b⟩:=h.bh;obtain⟨e,g,k⟩:=b.ej _ _ _ c;rw[k.get]at a;obtain rfl:=Option.some.inj a;rw[k.now,(k.iY rfl).1]
end
theorem NB(a f l m b h j k:Nat)(w:KX):K1 prog 184 #[LV #[Kx Mo a,Kx Mo f,Kx MJ l,Kx Mo m],LV #[Kx Mo b,Kx Mo h,Kx MJ j,Kx Mo k]] w λe w'=>e=Mk (.bool (decide (a<b\/a=b/\f<h)))/\Lg w w w':=by
 obtain⟨r,c⟩:∃r:Bool,r=decide (a<b\/a=b/\f<h):=⟨_,rfl⟩;rw[<- c];rcases sk a b with g | g | g
 .have d:Lk (r=Jd):=ae (by rw[c];exact decide_eq_true (.inl g));clear c;have i:((a:Nat):Int)<b:=af;go_enter func184,ntmps184;go_wp2;go_ret;exact⟨by rw[d.out];rfl,aj.alloc ai _⟩
 .subst g;by_cases g:f<h
  .have d:Lk (r=Jd):=ae (by rw[c];exact decide_eq_true (.inr ⟨rfl,g⟩));clear c;have i:((f:Nat):Int)<h:=af;go_enter func184,ntmps184;go_wp2;go_ret;exact⟨by rw[d.out];rfl,aj.alloc ai _⟩
  .have d:Lk (r=J0):=ae (by rw[c];exact decide_eq_false af);clear c;have i:¬((f:Nat):Int)<h:=af;go_enter func184,ntmps184;go_wp2;go_ret;exact⟨by rw[d.out];rfl,aj.alloc ai _⟩
 .have d:Lk (r=J0):=ae (by rw[c];exact decide_eq_false af);clear c;have i:¬((a:Nat):Int)<b:=af;have o:((a:Int) == b)=false:=by rw[beq_eq_false_iff_ne];omega
  have n:¬((a:Int)=b):=af;go_enter func184,ntmps184;go_wp2;go_ret;exact⟨by rw[d.out];rfl,aj.alloc ai _⟩
theorem Kk(a f l m b h j k:Nat)(w:KX):K1 prog 123 #[LV #[Kx Mo a,Kx Mo f,Kx MJ l,Kx Mo m],LV #[Kx Mo b,Kx Mo h,Kx MJ j,Kx Mo k],Kx Mm 0] w λe w'=>e=Mk (.bool (decide (a<b\/a=b/\f<h)))/\Lg w w w':=by
 obtain⟨r,c⟩:∃r:Bool,r=decide (a<b\/a=b/\f<h):=⟨_,rfl⟩;rw[<- c];rcases sk a b with g | g | g
 .have d:Lk (r=Jd):=ae (by rw[c];exact decide_eq_true (.inl g));clear c;have i:((a:Nat):Int)<b:=af;go_enter func123,ntmps123;go_wp2;go_ret;exact⟨by rw[d.out];rfl,aj.alloc ai _⟩
 .subst g;by_cases g:f<h
  .have d:Lk (r=Jd):=ae (by rw[c];exact decide_eq_true (.inr ⟨rfl,g⟩));clear c;have i:((f:Nat):Int)<h:=af;go_enter func123,ntmps123;go_wp2;go_ret;exact⟨by rw[d.out];rfl,aj.alloc ai _⟩
  .have d:Lk (r=J0):=ae (by rw[c];exact decide_eq_false af);clear c;have i:¬((f:Nat):Int)<h:=af;go_enter func123,ntmps123;go_wp2;go_ret;exact⟨by rw[d.out];rfl,aj.alloc ai _⟩
 .have d:Lk (r=J0):=ae (by rw[c];exact decide_eq_false af);clear c;have i:¬((a:Nat):Int)<b:=af;have o:((a:Int) == b)=false:=by rw[beq_eq_false_iff_ne];omega
  have n:¬((a:Int)=b):=af;go_enter func123,ntmps123;go_wp2;go_ret;exact⟨by rw[d.out];rfl,aj.alloc ai _⟩
theorem Kl(f a l m h b j k:Nat)(w:KX):K1 prog 123 #[LV #[Kx Mo f,Kx Mo a,Kx MJ l,Kx Mo m],LV #[Kx Mo h,Kx Mo b,Kx MJ j,Kx Mo k],Kx Mm 1] w λe w'=>e=Mk (.bool (decide (a<b\/a=b/\f<h)))/\Lg w w w':=by
 obtain⟨r,c⟩:∃r:Bool,r=decide (a<b\/a=b/\f<h):=⟨_,rfl⟩;rw[<- c];rcases sk a b with g | g | g
 .have d:Lk (r=Jd):=ae (by rw[c];exact decide_eq_true (.inl g));clear c;have i:((a:Nat):Int)<b:=af;go_enter func123,ntmps123;go_wp2;go_ret;exact⟨by rw[d.out];rfl,aj.alloc ai _⟩
 .subst g;by_cases g:f<h
  .have d:Lk (r=Jd):=ae (by rw[c];exact decide_eq_true (.inr ⟨rfl,g⟩));clear c;have i:((f:Nat):Int)<h:=af;go_enter func123,ntmps123;go_wp2;go_ret;exact⟨by rw[d.out];rfl,aj.alloc ai _⟩
  .have d:Lk (r=J0):=ae (by rw[c];exact decide_eq_false af);clear c;have i:¬((f:Nat):Int)<h:=af;go_enter func123,ntmps123;go_wp2;go_ret;exact⟨by rw[d.out];rfl,aj.alloc ai _⟩
 .have d:Lk (r=J0):=ae (by rw[c];exact decide_eq_false af);clear c;have i:¬((a:Nat):Int)<b:=af;have o:((a:Int) == b)=false:=by rw[beq_eq_false_iff_ne];omega
  have n:¬((a:Int)=b):=af;go_enter func123,ntmps123;go_wp2;go_ret;exact⟨by rw[d.out];rfl,aj.alloc ai _⟩
theorem Km(n l b j o p a i:Nat)(w:KX):K1 prog 185 #[LV #[Kx Mo n,Kx Mo l,Kx MJ b,Kx Mo j],LV #[Kx Mo o,Kx Mo p,Kx MJ a,Kx Mo i]] w λe w'=>e=Mk (.bool (decide (b<a\/b=a/\(j+1)%4294967296<(i+1)%4294967296)))/\Lg w w w':=by
 have t:cf Mo ((j:Int)+1)=((j+1)%4294967296:Nat):=by rw[Hz];omega
 have m:cf Mo ((i:Int)+1)=((i+1)%4294967296:Nat):=by rw[Hz];omega
 generalize (j+1)%4294967296=f at *;generalize (i+1)%4294967296=d at *;obtain⟨r,c⟩:∃r:Bool,r=decide (b<a\/b=a/\f<d):=⟨_,rfl⟩;rw[<- c];rcases sk b a with g | g | g
 .have h:Lk (r=Jd):=ae (by rw[c];exact decide_eq_true (.inl g));clear c;have k:((b:Nat):Int)<a:=af;go_enter func185,ntmps185;go_wp2;go_ret;exact⟨by rw[h.out];rfl,aj.alloc ai _⟩
 .subst g;by_cases g:f<d
  .have h:Lk (r=Jd):=ae (by rw[c];exact decide_eq_true (.inr ⟨rfl,g⟩));clear c;have k:((f:Nat):Int)<d:=af;go_enter func185,ntmps185;go_wp2;go_ret;exact⟨by rw[h.out];rfl,aj.alloc ai _⟩
  .have h:Lk (r=J0):=ae (by rw[c];exact decide_eq_false af);clear c;have k:¬((f:Nat):Int)<d:=af;go_enter func185,ntmps185;go_wp2;go_ret;exact⟨by rw[h.out];rfl,aj.alloc ai _⟩
 .have h:Lk (r=J0):=ae (by rw[c];exact decide_eq_false af);clear c;have k:¬((b:Nat):Int)<a:=af;have s:((b:Int) == a)=false:=by rw[beq_eq_false_iff_ne];omega
  have q:¬((b:Int)=a):=af;go_enter func185,ntmps185;go_wp2;go_ret;exact⟨by rw[h.out];rfl,aj.alloc ai _⟩
theorem B9(x y:aJ)(w:KX):K1 prog 184 #[LV #[x.t,x.h,x.x,x.m],LV #[y.t,y.h,y.x,y.m]] w
 λe w'=>e=Mk (.bool (decide (pk J0 x<pk J0 y)))/\Lg w w w':=by refine(NB _ _ _ _ _ _ _ _ w).mono λe w' ⟨a,hb⟩=>⟨a.trans ?_,hb⟩;have c:=x.h.toNat_lt;have b:=y.h.toNat_lt;rw[decide_eq_decide.2 (show(x.t.toNat<y.t.toNat\/x.t.toNat=y.t.toNat/\x.h.toNat<y.h.toNat)↔pk J0 x<pk J0 y by unfold pk;simp only[xv,if_false];omega)]
theorem NC(b:Bool)(x y:aJ)(w:KX):K1 prog 123 #[LV #[x.t,x.h,x.x,x.m],LV #[y.t,y.h,y.x,y.m],oQ b] w
 λe w'=>e=Mk (.bool (decide (pk b x<pk b y)))/\Lg w w w':=by
 have f:=x.h.toNat_lt;have g:=y.h.toNat_lt;have c:=x.t.toNat_lt;have d:=y.t.toNat_lt;cases b
 .refine(Kk _ _ _ _ _ _ _ _ w).mono λe w' ⟨a,hb⟩=>⟨a.trans ?_,hb⟩;rw[decide_eq_decide.2 (show(x.t.toNat<y.t.toNat\/x.t.toNat=y.t.toNat/\x.h.toNat<y.h.toNat)↔pk J0 x<pk J0 y by unfold pk;simp only[xv,if_false];omega)]
 .refine(Kl _ _ _ _ _ _ _ _ w).mono λe w' ⟨a,hb⟩=>⟨a.trans ?_,hb⟩;rw[decide_eq_decide.2 (show(x.h.toNat<y.h.toNat\/x.h.toNat=y.h.toNat/\x.t.toNat<y.t.toNat)↔pk Jd x<pk Jd y by unfold pk;simp only[if_true];omega)]
theorem Kn(x y:aJ)(w:KX):K1 prog 185 #[LV #[x.t,x.h,x.x,x.m],LV #[y.t,y.h,y.x,y.m]] w
 λe w'=>e=Mk (.bool (decide (rk x<rk y)))/\Lg w w w':=by refine(Km _ _ _ _ _ _ _ _ w).mono λe w' ⟨a,hb⟩=>⟨a.trans ?_,hb⟩;rw[decide_eq_decide.2 (show(x.x.toNat<y.x.toNat\/x.x.toNat=y.x.toNat/\(x.m.toNat+1)%4294967296<(y.m.toNat+1)%4294967296)↔rk x<rk y by unfold rk;omega)]
end Go.Proofs.YtofigggbapdfhaaGreatDoor
