/-
  Joined.
-/
import Derived.Test.YtofigggbapdfhaaGreatDoorR03
set_option maxRecDepth 100000
set_option maxHeartbeats 32000000
open Option renaming some->IT,none->KK
open Bool renaming true->Jd,false->J0,and_eq_true->j4
open List renaming getElem?_eq_getElem->bk,mem_of_getElem?->cx,length_map->dj,length_append->eh,length_take->et,take_of_length_le->ey,take_succ_eq_append_getElem->fh,mem_map->gl,mem_append->hS,length_drop->ie,length_cons->it,eq_nil_of_length_eq_zero->jJ,mem_range->j3,mem_singleton->kj,range->kk,map_append->k8,length_singleton->lr,append_nil->nw,map_cons->oj,append_assoc->o0,getElem_of_mem->p6,pairwise_iff_getElem->qa,getElem_mem->rM,getElem_map->sp,mem_of_mem_take->tt,eraseIdx_eq_take_drop_succ->C4,take_append_drop->Do,cons_append->DD,nil_append->DP,map_nil->FP,drop_of_length_le->GP,map_take->It
open Nat renaming le_refl->cg,le_trans->cp,lt_of_lt_of_le->eg,zero_le->em,zero_add->j0,lt_or_ge->lb,eq_zero_or_pos->qp,add_sub_cancel->ta,le_of_lt->yi
open Array renaming getElem?_eq_some_iff->ds
namespace Go.Proofs.YtofigggbapdfhaaGreatDoor
open Go.RowKit Go.Maps Go.MapKept Go.Sort
open Go.Proofs.Tryz
open Go renaming World->KX,Value->J3,Calls->K1,Ending->Lp
open Go.RowKit renaming Below->Lg,Hid->Lk,intOf->Lo
open Go.Value renaming int->Kx,tuple->Ly,agg->LV
open Go.Obj renaming cells->Mi
open Go.Ending renaming returned->Mk
open Go.IntKind renaming i64->Mm,u32->Mo,u64->MJ
open Go.IntKind renaming wrap->cf
open Go.Value renaming slice->fz,string->ki,oneCell'->qn,bool->ID
open Go.World renaming ownsRow_nil->gp
variable {e w':KX}{f B k X sz p:Nat}{Q:Exit->Act->KX->Prop}{ops:Array Oper}{h:Oper}{v':J3}{j:Obj}{xs:List J3}{J:aJ}{i:List Nat}{α:Type}{r:List aJ}
section
variable {bt:Bool}{w0 W:KX}{jb pb bz made base g cap:Nat}{d:Array aJ}
def PT(b:Bool)(w0:KX)(f c d a base g cap:Nat)(r:Nat×Array aJ)(e:Lp)(w':KX):Prop:=
 e=r.1/\gT b w0 f c d a base g cap r.2 w'
theorem Cv{lt:aJ->aJ->Bool}{a i j u v:Nat}{d:Array aJ}(b:u=scanUp (λx=>!lt d[a]! x) d j i)(c:v=scanDown (λx=>lt d[a]! x) d u j) :
 partEqLoop lt a i j d=if u>v then (u,d) else partEqLoop lt a (u+1) (v-1) (swp d u v):=by subst b;subst c;exact partEqLoop_eq lt a i j d
theorem xP(h:gT bt w0 jb pb bz made base g cap d W)(a b pv:Nat)(du:a<=pv)(Td:pv<b)(hb:b<=d.size)(Y:d.size<=1000000):K1 prog 295 #[.slice g d.size cap,a,b,pv,di jb] W (PT bt w0 jb pb bz made base g cap (partitionEqual (ltOf (aW bt)) d a b pv)):=by
 have H:=ae h;obtain⟨N,hN⟩:=ac d.size;rw[<- hN]at hb Y ⊢;have HN:=ae hN;clear h hN;obtain⟨C,eS⟩:=ac (b-1);have gt:cf Mm ((b:Int)-1)=C:=by rw[ax]<;>omega
 have gE:cf Mm ((a:Int)+1)=(a+1:Nat):=by rw[ax]<;>omega
 have ba:(a:Int)<N:=af;have bp:(pv:Int)<N:=af;have V:Lk (a<d.size/\pv<d.size/\C<N/\a<=C/\N<=1000000/\C=b-1/\d.size=N):=ae (Nm HN.out);clear eS du Td hb Y;unfold di ptrTo;go_enter func295,ntmps295;go_upto_region 1 with fail
 go_cut [] from 13 to 26 (λG=>gT bt w0 jb pb bz made base g cap (swp d a pv) G)
 case first=>
  obtain⟨x,p⟩:∃x,d[a]! = x:=⟨_,rfl⟩;have D:Lk (a<d.size/\pv<d.size):=ae (Nm V.out);by_cases v:a=pv
  .subst v;obtain⟨pp,pE,⟨J,P,K,O⟩,I,n⟩:=H.out.jW (i:=a) D.out.1 p;have HD:=ae n;clear n;go_big_region
   all_goals
    clear J P K O I;go_wp2;go_meet
    exact HD.out
  .obtain⟨y,s⟩:∃y,d[pv]! = y:=⟨_,rfl⟩;obtain⟨pp,qq,w⟩:=H.out.nQ (i:=a) (j:=pv) D.out.1 D.out.2 p s;have sA:=ae w;obtain⟨pE,JF,J,P,K,O,y0,y1,y2,y3,I,S,-⟩:=w;obtain⟨n0,n1,n2,n3,n4,n5,n6⟩:=S v;clear S;go_big_region
   all_goals
    clear J P K O y0 y1 y2 y3 n0 n1 n2 n3 n4 n5 n6 I;go_wp2;go_meet
    exact sA.out.done
 case rest=>
  have ko:=ae hcut;clear hcut;obtain⟨Q,TK⟩:=ac (swp d a pv);rw[<- TK]at ko;have de:Q.size=N:=by rw[TK,size_swp];exact HN.out.symm
  obtain⟨r,hr⟩:=ac (partitionEqual (ltOf (aW bt)) d a b pv);have HR:Lk (partEqLoop (ltOf (aW bt)) a (a+1) C Q=r):=ae (by rw[hr,V.out.2.2.2.2.2.1,TK];rfl);have bd:=ae hr;have eM:Lk (a<Q.size/\C<Q.size/\Q.size=N/\a+1<=C+1/\N<=1000000):=ae (Nm V.out);clear TK de hr;go_wp2_with fail;go_loopw [11,12] (λo vj wr=>∃(i3 l:Nat)(c:Array aJ),o=i3/\vj=l/\a<i3/\i3<=l+1/\l<N/\c.size=N/\gT bt w0 jb pb bz made base g cap c wr/\Lk (partEqLoop (ltOf (aW bt)) a i3 l c=r)) (λo vj _=>(Lo vj).toNat+1-(Lo o).toNat)
  case atStart=>exact⟨a+1,C,Q,by go_num,rfl,af,Nm eM.out,Nm eM.out,eM.out.2.2.1,ko.out,HR.out⟩
  case round=>
   obtain⟨i3,l,c,rfl,rfl,TL,XD,VK,co,al,pN⟩:=hrel;generalize wr=io at *;have iF:=ae al;have B:Lk (a<c.size/\l<c.size/\c.size=N/\i3<=l+1/\a<i3/\N<=1000000):=ae (Nm eM.out);clear al co;go_upto_block 2 with fail
   go_cut [11] from 31 to 49 (λo G=>∃i:Nat,o=i/\gT bt w0 jb pb bz made base g cap c G/\Lk (i=scanUp (λx=>!ltOf (aW bt) c[a]! x) c l i3))
   case first=>
    go_wp2_with fail;go_loopw [11] (λo wr=>∃i:Nat,o=i/\i3<=i/\i<=l+1/\gT bt w0 jb pb bz made base g cap c wr/\Lk (scanUp (λx=>!ltOf (aW bt) c[a]! x) c l i=scanUp (λx=>!ltOf (aW bt) c[a]! x) c l i3)) (λo _=>l+1-(Lo o).toNat)
    case atStart=>exact⟨i3,rfl,Nm B.out,Nm B.out,iF.out,rfl⟩
    case round=>
     obtain⟨i,rfl,dq,ci,Z,E⟩:=hrel;generalize wr=u at *;have A:=ae Z;clear Z;by_cases fK:i<=l
     .have uo:(i:Int)<=l:=af;have bi:(i:Int)<N:=Nm B.out;have dl:cf Mm ((i:Int)+1)=(i+1:Nat):=by
       have:=B.out;have:=V.out
       rw[ax]<;>omega
      obtain⟨x,p⟩:∃x,c[a]! = x:=⟨_,rfl⟩;obtain⟨y,s⟩:∃y,c[i]! = y:=⟨_,rfl⟩;have F:=ae (A.out.reads (i:=a) (j:=i) (Nm B.out) (Nm B.out) p s);by_cases X:aW bt x y<0
      .go_wp2_with fail;refine wq u ?_;iterate 8 (refine qz ?_)
       refine qz ?_ (λw' f=>by obtain⟨⟨L,c1,c2,c3⟩,-,-⟩:=F.out w' f;go_simp<;>rfl);iterate 3 (refine qz ?_)
       refine qz ?_ (λw' f=>by obtain⟨-,⟨L,c1,c2,c3⟩,-⟩:=F.out w' f;go_simp<;>rfl);refine qw (λw' f=>(F.out w' f).2.2) ?_;iterate 3 (refine qz ?_)
       refine wpQuiet_nil ?_;intro w5 q;have t:=ae (A.out.below q);clear q;go_wp2;go_meet
       exact⟨i,rfl,t.out,ae (by rw[<- E.out];exact(scanUp_end _ _ _ _ (.inr (by have e:ltOf (aW bt) x y=true:=decide_eq_true X;show(!ltOf (aW bt) c[a]! c[i]!)=_;rw[p,s,e];rfl))).symm)⟩
      .have Ii:decide (aW bt x y<0)=false:=decide_eq_false X;go_wp2_with fail;refine wq u ?_;iterate 8 (refine qz ?_)
       refine qz ?_ (λw' f=>by obtain⟨⟨L,c1,c2,c3⟩,-,-⟩:=F.out w' f;go_simp<;>rfl);iterate 3 (refine qz ?_)
       refine qz ?_ (λw' f=>by obtain⟨-,⟨L,c1,c2,c3⟩,-⟩:=F.out w' f;go_simp<;>rfl);refine qw (λw' f=>(F.out w' f).2.2) ?_;iterate 3 (refine qz ?_)
       refine wpQuiet_nil ?_;intro w5 q;have t:=ae (A.out.below q);clear q;go_wp2;refine⟨⟨(i+1),rfl,af,af,t.out,?_⟩,by simp[Lo];omega⟩;show scanUp (λx=>!ltOf (aW bt) c[a]! x) c l (i+1)=_;rw[<- E.out];exact(scanUp_go _ _ _ _ fK (by have e:ltOf (aW bt) x y=false:=decide_eq_false af;show(!ltOf (aW bt) c[a]! c[i]!)=_;rw[p,s,e];rfl)).symm
     .have uo:¬((i:Int)<=l):=af;go_wp2_with fail;go_quiet (fail)
      have U:RowKit.Below u.heap.size u (u.drewN nq):=⟨rfl,rfl,rfl,cg _,λ_ _=>rfl⟩;have t:=ae (A.out.below U);clear U;go_wp2;go_meet
      exact⟨i,rfl,t.out,ae (by rw[<- E.out];exact(scanUp_end _ _ _ _ (.inl fK)).symm)⟩
   case rest=>
    obtain⟨i4,rfl,XE,BA⟩:=hcut;have am:=ae XE;have JJ:=ae BA.out;clear XE BA;have aE:=xO (show i3<=l+1 by have:=B.out;omega) JJ.out;have z:Lk (a<c.size/\l<c.size/\c.size=N/\i4<=l+1/\1<=i4/\a<i4/\i3<=i4/\N<=1000000):=ae (Nm B.out);clear aE;go_upto_block 4 with fail
    go_cut [12] from 50 to 67 (λo G=>∃j:Nat,o=j/\gT bt w0 jb pb bz made base g cap c G/\Lk (j=scanDown (λx=>ltOf (aW bt) c[a]! x) c i4 l))
    case first=>
     go_wp2_with fail;go_loopw [12] (λo wr=>∃j:Nat,o=j/\j<=l/\i4<=j+1/\gT bt w0 jb pb bz made base g cap c wr/\Lk (scanDown (λx=>ltOf (aW bt) c[a]! x) c i4 j=scanDown (λx=>ltOf (aW bt) c[a]! x) c i4 l)) (λo _=>(Lo o).toNat)
     case atStart=>exact⟨l,rfl,Nm z.out,Nm z.out,am.out,rfl⟩
     case round=>
      obtain⟨j,rfl,dq,ci,Z,E⟩:=hrel;generalize wr=u at *;have A:=ae Z;clear Z;by_cases fK:i4<=j
      .obtain⟨T,ce⟩:=ac (j-1);have uo:(i4:Int)<=j:=af;have bi:(j:Int)<N:=Nm z.out;have dl:cf Mm ((j:Int)-1)=T:=by
        have:=z.out;have:=V.out
        rw[ax]<;>omega
       have HJ:Lk (T=j-1/\1<=j):=ae (Nm z.out);have OW:1<=j:=Nm z.out;clear ce;obtain⟨x,p⟩:∃x,c[a]! = x:=⟨_,rfl⟩;obtain⟨y,s⟩:∃y,c[j]! = y:=⟨_,rfl⟩;have F:=ae (A.out.reads (i:=a) (j:=j) (Nm z.out) (Nm z.out) p s);by_cases X:aW bt x y<0
       .go_wp2_with fail;refine wq u ?_;iterate 8 (refine qz ?_)
        refine qz ?_ (λw' f=>by obtain⟨⟨L,c1,c2,c3⟩,-,-⟩:=F.out w' f;go_simp<;>rfl);iterate 3 (refine qz ?_)
        refine qz ?_ (λw' f=>by obtain⟨-,⟨L,c1,c2,c3⟩,-⟩:=F.out w' f;go_simp<;>rfl);refine qw (λw' f=>(F.out w' f).2.2) ?_;iterate 2 (refine qz ?_)
        refine wpQuiet_nil ?_;intro w5 q;have t:=ae (A.out.below q);clear q;go_wp2;obtain⟨i6,iS⟩:=HJ.out;refine⟨⟨T,rfl,af,af,t.out,?_⟩,by simp[Lo];omega⟩;show scanDown (λx=>ltOf (aW bt) c[a]! x) c i4 T=_;rw[<- E.out,show T=j-1 by omega];exact(scanDown_go _ _ _ _ fK af (by have e:ltOf (aW bt) x y=true:=decide_eq_true X;show ltOf (aW bt) c[a]! c[j]! = _;rw[p,s,e])).symm
       .have Ii:decide (aW bt x y<0)=false:=decide_eq_false X;go_wp2_with fail;refine wq u ?_;iterate 8 (refine qz ?_)
        refine qz ?_ (λw' f=>by obtain⟨⟨L,c1,c2,c3⟩,-,-⟩:=F.out w' f;go_simp<;>rfl);iterate 3 (refine qz ?_)
        refine qz ?_ (λw' f=>by obtain⟨-,⟨L,c1,c2,c3⟩,-⟩:=F.out w' f;go_simp<;>rfl);refine qw (λw' f=>(F.out w' f).2.2) ?_;iterate 2 (refine qz ?_)
        refine wpQuiet_nil ?_;intro w5 q;have t:=ae (A.out.below q);clear q;go_wp2;go_meet
        exact⟨j,rfl,t.out,ae (by rw[<- E.out];exact(scanDown_end _ _ _ _ (.inr (by have e:ltOf (aW bt) x y=false:=decide_eq_false af;show ltOf (aW bt) c[a]! c[j]! = _;rw[p,s,e]))).symm)⟩
      .have uo:¬((i4:Int)<=j):=af;go_wp2_with fail;go_quiet (fail)
       have U:RowKit.Below u.heap.size u (u.drewN nq):=⟨rfl,rfl,rfl,cg _,λ_ _=>rfl⟩;have t:=ae (A.out.below U);clear U;go_wp2;go_meet
       exact⟨j,rfl,t.out,ae (by rw[<- E.out];exact(scanDown_end _ _ _ _ (.inl fK)).symm)⟩
    case rest=>
     obtain⟨m,rfl,XF,XG⟩:=hcut;have MG:=ae XF;have PS:=ae XG.out;clear XF XG;have en:=uq (show i3<=l+1 by have:=B.out;omega) JJ.out PS.out;have ff:0<m->i4≠m:=xN (λ_=>ai) JJ.out PS.out;have R:Lk (a<c.size/\m<c.size/\c.size=N/\(i4<=m->i4<c.size/\i4+1<=m)/\a<=m/\a<i4/\i4<=m+1/\i3<=i4/\m<=l/\N<=1000000):=ae (Nm z.out);have fI:(m:Int)<N:=Nm R.out;have k:=Cv JJ.out PS.out;clear en ff;by_cases XH:i4>m
     .have XC:(i4:Int)>m:=af;rw[if_pos XH,pN.out]at k;have M:=ae k;clear k;go_wp2;go_ret;rw[<- bd.out,M.out];exact⟨rfl,MG.out⟩
     .have XC:¬(i4:Int)>m:=af;rw[if_neg XH,pN.out]at k;have M:=ae k;clear k;have fm:(i4:Int)<N:=Nm R.out;have JK:Lk (i4<c.size/\m<c.size/\i4+1<=m):=ae (Nm R.out);obtain⟨J5,ee⟩:=ac (m-1);have i7:cf Mm ((i4:Int)+1)=(i4+1:Nat):=by have:=R.out;rw[ax]<;>omega
      have gx:cf Mm ((m:Int)-1)=J5:=by
       have:=R.out;have:=JK.out
       rw[ax]<;>omega
      have el:Lk (J5=m-1/\1<=m):=ae (Nm JK.out);clear ee;go_upto_region 8 with fail
      go_cut [] from 71 to 84 (λG=>gT bt w0 jb pb bz made base g cap (swp c i4 m) G)
      case first=>
       obtain⟨x,p⟩:∃x,c[i4]! = x:=⟨_,rfl⟩;have D:Lk (i4<c.size/\m<c.size):=ae (Nm JK.out);by_cases v:i4=m
       .subst v;obtain⟨pp,pE,⟨J,P,K,O⟩,I,n⟩:=MG.out.jW (i:=i4) D.out.1 p;have HD:=ae n;clear n;go_big_region
        all_goals
         clear J P K O I;go_wp2;go_meet
         exact HD.out
       .obtain⟨y,s⟩:∃y,c[m]! = y:=⟨_,rfl⟩;obtain⟨pp,qq,w⟩:=MG.out.nQ (i:=i4) (j:=m) D.out.1 D.out.2 p s;have sA:=ae w;obtain⟨pE,JF,J,P,K,O,y0,y1,y2,y3,I,S,-⟩:=w;obtain⟨n0,n1,n2,n3,n4,n5,n6⟩:=S v;clear S;go_big_region
        all_goals
         clear J P K O y0 y1 y2 y3 n0 n1 n2 n3 n4 n5 n6 I;go_wp2;go_meet
         exact sA.out.done
      case rest=>have tR:=ae hcut;clear hcut;go_wp2;have q1:=R.out;have q2:=JK.out;have q3:=el.out;refine⟨⟨i4+1,J5,swp c i4 m,rfl,rfl,af,af,af,by rw[size_swp];omega,tR.out,?_⟩,by simp[Lo];omega⟩;show partEqLoop _ _ _ _ _=_;rw[M.out,q3.1]
end
section
variable {bt:Bool}{w0 W:KX}{jb pb bz made base g cap:Nat}{d:Array aJ}
def MH(b:Bool)(w0:KX)(f c d a base g cap:Nat)(r:Array aJ×Bool)(e:Lp)(w':KX):Prop:=
 e=Mk (.bool r.2)/\gT b w0 f c d a base g cap r.1 w'
theorem Cw{lt:aJ->aJ->Bool}{a b s i u:Nat}{d:Array aJ}(c:u=scanSorted lt d b i) :
 partialIns lt a b (s+1) i d=if u=b then (d,Jd) else if b-a<50 then (d,J0) else
  partialIns lt a b s u (if b-u >= 2 then shiftUp lt b (u+1) (if u-a >= 2 then shiftDown lt (u-1) (swp d u (u-1)) else swp d u (u-1)) else (if u-a >= 2 then shiftDown lt (u-1) (swp d u (u-1)) else swp d u (u-1))):=by subst c;rfl
theorem qP(h:gT bt w0 jb pb bz made base g cap d W)(a b:Nat)(i8:a<b)(hb:b<=d.size)(dl:d.size<=1000000):K1 prog 294 #[.slice g d.size cap,a,b,di jb] W (MH bt w0 jb pb bz made base g cap (partialInsertionSort (ltOf (aW bt)) d a b)):=by
 have H:=ae h;obtain⟨N,hN⟩:=ac d.size;rw[<- hN]at hb dl ⊢;have HN:=ae hN;clear h hN;obtain⟨L0,i6⟩:=ac (b-a);have li:cf Mm ((b:Int)-a)=L0:=by rw[ax]<;>omega
 have ks:cf Mm ((a:Int)+1)=(a+1:Nat):=by rw[ax]<;>omega
 have E:Lk (a<b/\b<=N/\N<=1000000/\L0=b-a/\d.size=N):=ae (Nm HN.out);obtain⟨r,hr⟩:=ac (partialInsertionSort (ltOf (aW bt)) d a b);have HR:Lk (partialIns (ltOf (aW bt)) a b 5 (a+1) d=r):=ae (by rw[hr];rfl);rw[<- hr];clear i6 i8 hb dl hr;unfold di ptrTo;go_enter func294,ntmps294;go_wp2_with fail;go_loopw [9,10] (λvi vs wr=>∃(i3 s3:Nat)(l:Array aJ),vi=i3/\vs=s3/\a<i3/\i3<=b/\s3<=5/\l.size=N/\gT bt w0 jb pb bz made base g cap l wr/\Lk (partialIns (ltOf (aW bt)) a b (5-s3) i3 l=r)) (λ_ vs _=>5-(Lo vs).toNat)
 case atStart=>exact⟨a+1,0,d,by go_num,rfl,af,Nm E.out,af,HN.out.symm,H.out,HR.out⟩
 case round=>
  obtain⟨i3,s3,l,rfl,rfl,iS,fI,lP,fm,ee,pN⟩:=hrel;generalize wr=lw at *;have iF:=ae ee;have M:Lk (l.size=N/\a<i3/\i3<=b/\s3<=5/\b<=N/\N<=1000000/\0<i3):=ae (Nm E.out);clear ee fm iS fI;by_cases lE:s3<5
  .have gt:(s3:Int)<5:=af;have mh:cf Mm ((s3:Int)+1)=(s3+1:Nat):=by rw[ax]<;>omega
   go_upto_block 2 with fail
   go_cut [9] from 19 to 38 (λvi wx=>∃i:Nat,vi=i/\gT bt w0 jb pb bz made base g cap l wx/\Lk (i=scanSorted (ltOf (aW bt)) l b i3/\i3<=i/\i<=b))
   case first=>
    go_wp2_with fail;go_loopw [9] (λvi wr=>∃i:Nat,vi=i/\i3<=i/\i<=b/\gT bt w0 jb pb bz made base g cap l wr/\Lk (scanSorted (ltOf (aW bt)) l b i=scanSorted (ltOf (aW bt)) l b i3)) (λvi _=>b-(Lo vi).toNat)
    case atStart=>exact⟨i3,rfl,cg _,M.out.2.2.1,iF.out,rfl⟩
    case round=>
     obtain⟨i,rfl,du,ci,I,HO⟩:=hrel;generalize wr=G at *;have HS:=ae I;clear I;by_cases fK:i<b
     .obtain⟨ip,dq⟩:=ac (i-1);have uo:(i:Int)<b:=af;have bi:(i:Int)<N:=Nm M.out;have kw:(ip:Int)<N:=Nm M.out;have kl:cf Mm ((i:Int)+1)=(i+1:Nat):=by have:=M.out;rw[ax]<;>omega
      have kd:cf Mm ((i:Int)-1)=ip:=by have:=M.out;rw[ax]<;>omega
      have en:Lk (ip=i-1):=ae dq;obtain⟨x,v⟩:∃x,l[i]! = x:=⟨_,rfl⟩;obtain⟨y,t⟩:∃y,l[ip]! = y:=⟨_,rfl⟩;have F:=ae (HS.out.reads (i:=i) (j:=ip) (Nm M.out) (Nm M.out) v t);clear dq;by_cases V:aW bt x y<0
      .go_wp2_with fail;refine wq G ?_;iterate 8 (refine qz ?_)
       refine qz ?_ (λw' c=>by obtain⟨⟨K,c1,c2,c3⟩,-,-⟩:=F.out w' c;go_simp<;>rfl);iterate 4 (refine qz ?_)
       refine qz ?_ (λw' c=>by obtain⟨-,⟨K,c1,c2,c3⟩,-⟩:=F.out w' c;go_simp<;>rfl);refine qw (λw' c=>(F.out w' c).2.2) ?_;iterate 3 (refine qz ?_)
       refine wpQuiet_nil ?_;intro w5 o;have A:=ae (HS.out.below o);clear o;go_wp2;go_meet
       exact⟨i,rfl,A.out,ae ⟨by rw[<- HO.out];exact(scanSorted_stop _ _ _ _ (.inr (by rw[<- en.out,v,t];exact decide_eq_true V))).symm,du,ci⟩⟩
      .have Ii:decide (aW bt x y<0)=false:=decide_eq_false V;go_wp2_with fail;refine wq G ?_;iterate 8 (refine qz ?_)
       refine qz ?_ (λw' c=>by obtain⟨⟨K,c1,c2,c3⟩,-,-⟩:=F.out w' c;go_simp<;>rfl);iterate 4 (refine qz ?_)
       refine qz ?_ (λw' c=>by obtain⟨-,⟨K,c1,c2,c3⟩,-⟩:=F.out w' c;go_simp<;>rfl);refine qw (λw' c=>(F.out w' c).2.2) ?_;iterate 3 (refine qz ?_)
       refine wpQuiet_nil ?_;intro w5 o;have A:=ae (HS.out.below o);clear o;go_wp2;refine⟨⟨(i+1),rfl,af,af,A.out,?_⟩,by simp[Lo];omega⟩;show scanSorted _ _ _ _=_;rw[<- HO.out];exact(scanSorted_go _ _ _ _ fK (by rw[<- en.out,v,t];exact Ii)).symm
     .have uo:¬((i:Int)<b):=af;go_wp2_with fail;go_quiet (fail)
      have z7:RowKit.Below G.heap.size G (G.drewN nq):=⟨rfl,rfl,rfl,cg _,λ_ _=>rfl⟩;have A:=ae (HS.out.below z7);clear z7;go_wp2;go_meet
      exact⟨i,rfl,A.out,ae ⟨by rw[<- HO.out];exact(scanSorted_stop _ _ _ _ (.inl fK)).symm,du,ci⟩⟩
   case rest=>
    obtain⟨u,rfl,co,hu⟩:=hcut;have X:=ae co;have HU:=ae hu.out;have T:=ae (Cw (a:=a) (s:=5-(s3+1)) hu.out.1);have h5:5-(s3+1)+1=5-s3:=af;rw[h5,pN.out]at T;clear co hu h5;by_cases B:u=b
    .have gx:(u:Int)=b:=af;have e:=T.out;rw[if_pos B]at e;have D:=ae e;clear e B;go_wp2;go_ret;rw[D.out];exact⟨rfl,X.out⟩
    .have gx:((u:Int) == b)=false:=by simp;omega
     by_cases S:b-a<50
     .have gE:(L0:Int)<50:=Nm E.out;have e:=T.out;rw[if_neg B,if_pos S]at e;have D:=ae e;clear e B S;go_wp2;go_ret;rw[D.out];exact⟨rfl,X.out⟩
     .have gE:¬(L0:Int)<50:=Nm E.out;have e:=T.out;rw[if_neg B,if_neg S]at e;have D:=ae e;obtain⟨C,el⟩:=ac (u-1);rw[<- el]at D;have bu:(u:Int)<N:=No HU.out E.out;have ld:(C:Int)<N:=No HU.out E.out;have jj:cf Mm ((u:Int)-1)=C:=by
       have:=HU.out;have:=E.out;have:=M.out
       rw[ax]<;>omega
      have me:cf Mm ((u:Int)+1)=(u+1:Nat):=by
       have:=HU.out;have:=E.out
       rw[ax]<;>omega
      obtain⟨P,hP⟩:=ac (u-a);obtain⟨Q,hQ⟩:=ac (b-u);have wP:cf Mm ((u:Int)-a)=P:=by
       have:=HU.out;have:=E.out;have:=M.out
       rw[ax]<;>omega
      have wQ:cf Mm ((b:Int)-u)=Q:=by
       have:=HU.out;have:=E.out
       rw[ax]<;>omega
      have n:Lk (u<l.size/\C<l.size/\u≠C/\l.size=N/\a<u/\u<b/\b<=N/\N<=1000000/\P=u-a/\Q=b-u/\C=u-1):=ae (NE HU.out E.out M.out);clear e B S el hP hQ;go_upto_region 11 with fail
      go_cut [] from 46 to 61 (λwx=>gT bt w0 jb pb bz made base g cap (swp l u C) wx)
      case first=>
       obtain⟨x,v⟩:∃x,l[u]! = x:=⟨_,rfl⟩;obtain⟨y,t⟩:∃y,l[C]! = y:=⟨_,rfl⟩;obtain⟨pp,qq,p⟩:=X.out.nQ (i:=u) (j:=C) n.out.1 n.out.2.1 v t;have sA:=ae p;obtain⟨pE,JF,x0,x1,x2,x3,y0,y1,y2,y3,ew,U,-⟩:=p;obtain⟨n0,n1,n2,n3,n4,n5,n6⟩:=U n.out.2.2.1;clear U;go_big_region
       all_goals
        clear x0 x1 x2 x3 y0 y1 y2 y3 n0 n1 n2 n3 n4 n5 n6 ew;go_wp2;go_meet
        exact sA.out.done
      case rest=>
       have ko:=ae hcut;clear hcut;obtain⟨D1,TK⟩:=ac (swp l u C);rw[<- TK]at ko D;have eS:Lk (D1.size=N):=ae (by rw[TK,size_swp];exact n.out.2.2.2.1);clear TK;rw[show u-a=P from n.out.2.2.2.2.2.2.2.2.1.symm,show b-u=Q from n.out.2.2.2.2.2.2.2.2.2.1.symm]at D;go_upto_if 65 with fail
       go_cut [] from 65 to 100 (λwx=>∃dd:Array aJ,dd.size=N/\gT bt w0 jb pb bz made base g cap dd wx/\Lk (dd=if P >= 2 then shiftDown (ltOf (aW bt)) C D1 else D1))
       case first=>
        by_cases Z:P >= 2
        .have bd:(P:Int) >= 2:=af;go_wp2_with fail;go_loopw [11] (λvj wr=>∃(j:Nat)(f:Array aJ),vj=j/\j<=C/\f.size=N/\gT bt w0 jb pb bz made base g cap f wr/\Lk (shiftDown (ltOf (aW bt)) j f=shiftDown (ltOf (aW bt)) C D1)) (λvj _=>(Lo vj).toNat)
         case atStart=>exact⟨C,D1,rfl,cg _,eS.out,ko.out,rfl⟩
         case round=>
          obtain⟨j,f,rfl,OW,L,I,HI⟩:=hrel;generalize wr=G at *;have R:=ae I;have m:=ae L;clear I L;by_cases al:1<=j
          .have CV:(j:Int) >= 1:=af;obtain⟨k,am⟩:=ac (j-1);have bj:(j:Int)<N:=Nm n.out;have i7:(k:Int)<N:=Nm n.out;have ff:cf Mm ((j:Int)-1)=k:=by have:=n.out;rw[ax]<;>omega
           have z:Lk (j<f.size/\k<f.size/\j≠k/\k=j-1/\1<=j):=ae (No n.out m.out);clear am;obtain⟨x,v⟩:∃x,f[j]! = x:=⟨_,rfl⟩;obtain⟨y,t⟩:∃y,f[k]! = y:=⟨_,rfl⟩;have F:=ae (R.out.reads (i:=j) (j:=k) z.out.1 z.out.2.1 v t);by_cases V:aW bt x y<0
           .have PU:Lk (ltOf (aW bt) f[j]! f[k]! = Jd):=ae (by rw[v,t];exact decide_eq_true V);go_wp2_with fail;refine wq G ?_;iterate 4 (refine qz ?_)
            refine qz ?_ (λw' c=>by obtain⟨⟨K,c1,c2,c3⟩,-,-⟩:=F.out w' c;go_simp<;>rfl);iterate 4 (refine qz ?_)
            refine qz ?_ (λw' c=>by obtain⟨-,⟨K,c1,c2,c3⟩,-⟩:=F.out w' c;go_simp<;>rfl);refine qw (λw' c=>(F.out w' c).2.2) ?_;iterate 2 (refine qz ?_)
            refine wpQuiet_nil ?_;intro w5 o;have A:=ae (R.out.below o);clear o;clear v t F;go_upto_region 17 with fail
            obtain⟨x',aE⟩:∃x,f[j]! = x:=⟨_,rfl⟩;obtain⟨y',Y⟩:∃y,f[k]! = y:=⟨_,rfl⟩;obtain⟨pp,qq,p⟩:=A.out.nQ (i:=j) (j:=k) z.out.1 z.out.2.1 aE Y;have sA:=ae p;obtain⟨pE,JF,x0,x1,x2,x3,y0,y1,y2,y3,ew,U,-⟩:=p;obtain⟨n0,n1,n2,n3,n4,n5,n6⟩:=U z.out.2.2.1;clear U;go_big_region
            all_goals
             clear x0 x1 x2 x3 y0 y1 y2 y3 n0 n1 n2 n3 n4 n5 n6 ew;have w:=ae sA.out.done;go_wp2;have q:=z.out;refine⟨⟨k,swp f j k,rfl,af,by rw[size_swp];exact m.out,w.out,?_⟩,by simp[Lo];omega⟩;show shiftDown (ltOf (aW bt)) _ _=_;rw[<- HI.out,q.2.2.2.1];exact(shiftDown_go _ _ _ q.2.2.2.2 (by rw[<- q.2.2.2.1];exact PU.out)).symm
           .have Ii:decide (aW bt x y<0)=false:=decide_eq_false V;go_wp2_with fail;refine wq G ?_;iterate 4 (refine qz ?_)
            refine qz ?_ (λw' c=>by obtain⟨⟨K,c1,c2,c3⟩,-,-⟩:=F.out w' c;go_simp<;>rfl);iterate 4 (refine qz ?_)
            refine qz ?_ (λw' c=>by obtain⟨-,⟨K,c1,c2,c3⟩,-⟩:=F.out w' c;go_simp<;>rfl);refine qw (λw' c=>(F.out w' c).2.2) ?_;iterate 2 (refine qz ?_)
            refine wpQuiet_nil ?_;intro w5 o;have A:=ae (R.out.below o);clear o;go_wp2;go_meet
            exact⟨f,m.out,A.out,ae (by rw[if_pos Z,<- HI.out];exact(shiftDown_stop _ _ _ (.inr (by rw[<- z.out.2.2.2.1,v,t];exact Ii))).symm)⟩
          .have CV:¬((j:Int) >= 1):=af;go_wp2;go_meet
           exact⟨f,m.out,R.out,ae (by rw[if_pos Z,<- HI.out];exact(shiftDown_stop _ _ _ (.inl af)).symm)⟩
        .have bd:¬(P:Int) >= 2:=af;go_wp2;go_meet
         exact⟨D1,eS.out,ko.out,ae (by rw[if_neg Z])⟩
       case rest=>
        obtain⟨J,hz,I,de⟩:=hcut;have fP:=ae I;have ce:=ae hz;have io:=ae de.out;clear I hz de;rw[<- io.out]at D;by_cases Z:Q >= 2
        .have bd:(Q:Int) >= 2:=af;go_wp2_with fail;go_loopw [12] (λvj wr=>∃(j:Nat)(f:Array aJ),vj=j/\u<j/\j<=b/\f.size=N/\gT bt w0 jb pb bz made base g cap f wr/\Lk (shiftUp (ltOf (aW bt)) b j f=shiftUp (ltOf (aW bt)) b (u+1) J)) (λvj _=>b-(Lo vj).toNat)
         case atStart=>exact⟨(u+1),J,rfl,af,Nm n.out,ce.out,fP.out,rfl⟩
         case round=>
          obtain⟨j,f,rfl,Xx,OW,L,I,HI⟩:=hrel;generalize wr=G at *;have R:=ae I;have m:=ae L;clear I L;by_cases al:j<b
          .have CV:(j:Int)<b:=af;obtain⟨k,am⟩:=ac (j-1);have bj:(j:Int)<N:=Nm n.out;have i7:(k:Int)<N:=Nm n.out;have ff:cf Mm ((j:Int)-1)=k:=by have:=n.out;rw[ax]<;>omega
           have ke:cf Mm ((j:Int)+1)=(j+1:Nat):=by have:=n.out;rw[ax]<;>omega
           have z:Lk (j<f.size/\k<f.size/\j≠k/\k=j-1/\1<=j):=ae (No n.out m.out);clear am;obtain⟨x,v⟩:∃x,f[j]! = x:=⟨_,rfl⟩;obtain⟨y,t⟩:∃y,f[k]! = y:=⟨_,rfl⟩;have F:=ae (R.out.reads (i:=j) (j:=k) z.out.1 z.out.2.1 v t);by_cases V:aW bt x y<0
           .have PU:Lk (ltOf (aW bt) f[j]! f[k]! = Jd):=ae (by rw[v,t];exact decide_eq_true V);go_wp2_with fail;refine wq G ?_;iterate 4 (refine qz ?_)
            refine qz ?_ (λw' c=>by obtain⟨⟨K,c1,c2,c3⟩,-,-⟩:=F.out w' c;go_simp<;>rfl);iterate 4 (refine qz ?_)
            refine qz ?_ (λw' c=>by obtain⟨-,⟨K,c1,c2,c3⟩,-⟩:=F.out w' c;go_simp<;>rfl);refine qw (λw' c=>(F.out w' c).2.2) ?_;iterate 2 (refine qz ?_)
            refine wpQuiet_nil ?_;intro w5 o;have A:=ae (R.out.below o);clear o;clear v t F;go_upto_region 23 with fail
            obtain⟨x',aE⟩:∃x,f[j]! = x:=⟨_,rfl⟩;obtain⟨y',Y⟩:∃y,f[k]! = y:=⟨_,rfl⟩;obtain⟨pp,qq,p⟩:=A.out.nQ (i:=j) (j:=k) z.out.1 z.out.2.1 aE Y;have sA:=ae p;obtain⟨pE,JF,x0,x1,x2,x3,y0,y1,y2,y3,ew,U,-⟩:=p;obtain⟨n0,n1,n2,n3,n4,n5,n6⟩:=U z.out.2.2.1;clear U;go_big_region
            all_goals
             clear x0 x1 x2 x3 y0 y1 y2 y3 n0 n1 n2 n3 n4 n5 n6 ew;have w:=ae sA.out.done;go_wp2;have q:=z.out;refine⟨⟨(j+1),swp f j k,rfl,af,af,by rw[size_swp];exact m.out,w.out,?_⟩,by simp[Lo];omega⟩;show shiftUp (ltOf (aW bt)) b _ _=_;rw[<- HI.out,q.2.2.2.1];exact(shiftUp_go _ _ _ _ al (by rw[<- q.2.2.2.1];exact PU.out)).symm
           .have Ii:decide (aW bt x y<0)=false:=decide_eq_false V;go_wp2_with fail;refine wq G ?_;iterate 4 (refine qz ?_)
            refine qz ?_ (λw' c=>by obtain⟨⟨K,c1,c2,c3⟩,-,-⟩:=F.out w' c;go_simp<;>rfl);iterate 4 (refine qz ?_)
            refine qz ?_ (λw' c=>by obtain⟨-,⟨K,c1,c2,c3⟩,-⟩:=F.out w' c;go_simp<;>rfl);refine qw (λw' c=>(F.out w' c).2.2) ?_;iterate 2 (refine qz ?_)
            refine wpQuiet_nil ?_;intro w5 o;have A:=ae (R.out.below o);clear o;have XI:Lk (f=if Q >= 2 then shiftUp (ltOf (aW bt)) b (u+1) J else J):=ae (by rw[if_pos Z,<- HI.out];exact(shiftUp_stop _ _ _ _ (.inr (by rw[<- z.out.2.2.2.1,v,t];exact Ii))).symm);have O:Lk (partialIns (ltOf (aW bt)) a b (5-(s3+1)) u f=r):=ae (by rw[XI.out];exact D.out.symm);go_wp2;have q:=n.out;exact⟨⟨u,s3+1,f,rfl,rfl,af,af,af,(m.out),(A.out),O⟩,by simp[Lo];omega⟩
          .have CV:¬((j:Int)<b):=af;have XI:Lk (f=if Q >= 2 then shiftUp (ltOf (aW bt)) b (u+1) J else J):=ae (by rw[if_pos Z,<- HI.out];exact(shiftUp_stop _ _ _ _ (.inl al)).symm);have O:Lk (partialIns (ltOf (aW bt)) a b (5-(s3+1)) u f=r):=ae (by rw[XI.out];exact D.out.symm);go_wp2;have q:=n.out;exact⟨⟨u,s3+1,f,rfl,rfl,af,af,af,(m.out),(R.out),O⟩,by simp[Lo];omega⟩
        .have bd:¬(Q:Int) >= 2:=af;have XI:Lk (J=if Q >= 2 then shiftUp (ltOf (aW bt)) b (u+1) J else J):=ae (by rw[if_neg Z]);have O:Lk (partialIns (ltOf (aW bt)) a b (5-(s3+1)) u J=r):=ae (by rw[XI.out];exact D.out.symm);go_wp2;have q:=n.out;exact⟨⟨u,s3+1,J,rfl,rfl,af,af,af,(ce.out),(fP.out),O⟩,by simp[Lo];omega⟩
  .have gt:¬(s3:Int)<5:=af;have e:5-s3=0:=af;have O:=pN.out;rw[e]at O;have HG:Lk (r=(l,J0)):=ae O.symm;clear O e;go_wp2;go_ret;rw[HG.out];exact⟨rfl,iF.out⟩
end
def XJ(m:Nat):Prop:=∀{bt:Bool}{w0 W:KX}{jb pb bz made base g cap:Nat}{d:Array aJ},gT bt w0 jb pb bz made base g cap d W->∀(a b limit:Nat),a<=b->b<=d.size->d.size<=1000000->b-a<=m->limit<=64->Sort.Below (ltOf (aW bt)) a b d ->
 Calls prog 272 #[.slice g d.size cap,a,b,limit,di jb] W (pX bt w0 jb pb bz made base g cap (pdq (ltOf (aW bt)) d a b limit Jd Jd))
theorem PV:XJ 12:=by
 intro bt w0 W jb pb bz made base g cap d h a b limit c l f m o _;have i:=ae (pY h a b c l f);rw[pdq_small m];have n:cf Mm ((b:Int)-a)=b-a:=ax af af;have j:(b:Int)-a<=12:=af;clear h;unfold di ptrTo at *;generalize d.size=N at *;go_enter func272,ntmps272;go_wp2;refine wp_loop_rounds 1 ?_;rw[rounds_succ];go_wp2_with fail;go_call i.out as e w'⟨rfl,hs⟩;have k:=ae hs;clear hs;go_wp2;go_returns;exact⟨rfl,k.out⟩
theorem TN{n:Nat}(h:n<=1000000):Lib.bitLen n<=64:=cp (Lib.bitLen_le n 62 af af) ag
theorem MI{m:Nat}(J:m<=1000000)(A:XJ m):um m:=by
 intro w jb pb bz made b c base g cap es z t l k;have f:gT b w jb pb bz made base g cap es.toArray w:=⟨by simpa using t,c,l,k,aN.refl _ _⟩;have p:=TN (n:=es.length) af;have v:=A f 0 es.length (Lib.bitLen es.length) (em _) ai (by simp;omega) af p (.inl rfl);obtain⟨r,s⟩:=pdq_sorts (ltOf (aW b)) (rH b) es.toArray 0 es.length (Lib.bitLen es.length) Jd Jd (em _) ai (.inl rfl);have d:K1 prog 72 #[Kx MJ es.length] w λe w'=>e=Mk (Kx Mm (Lib.bitLen es.length:Nat))/\w'=w:=by have:=Any.bits_Len (SlLaysF0.n15.bits (P:=prog) (ρ:=Tryz.sortEdges_ren) { Tryz.sortEdges with }) (es.length:Int) w af af;rwa [Int.toNat_natCast]at this
 have H:=ae d;generalize pdq (ltOf (aW b)) es.toArray 0 es.length (Lib.bitLen es.length) Jd Jd=D at *;have B:Lk (∀e w',pX b w jb pb bz made base g cap D e w'->Ej b w base g cap es e w'):=ae (λe w' ⟨I,u⟩=>by
  obtain⟨o,-,x⟩:=r;have a:D.size=es.length:=by rw[o];simp
  refine⟨D.toList,I,?_,?_,?_,u.turn⟩
  .have F:(D.extract 0 es.length).toList=D.toList:=by rw[<- a];simp
   have y:(es.toArray.extract 0 es.length).toList=es:=ai;rw[F,y]at x;exact x
  .rw[qa];intro i j hi c G;have h:=s i j (em _) G (by rw[<- a];simpa using c);unfold ltOf at h;rw[decide_eq_false_iff_not,Eb]at h;rw[Array.length_toList]at hi c;rw[getElem!_pos D i hi,getElem!_pos D j c]at h;rw[Array.getElem_toList,Array.getElem_toList];exact h
  .have:=u.row;rw[a]at this;exact this)
 have q:=ae v;have K:cf MJ (es.length:Int)=es.length:=iQ _ af af;clear d v r s f c t;simp only[List.size_toArray]at q;unfold di ptrTo at *;generalize es.length=N at *;go_enter func237,ntmps237;go_wp2_with fail;go_call H.out as e w'⟨rfl,rfl⟩;go_wp2_with fail;go_call q.out as e C⟨rfl,f⟩;have E:=ae f;clear f;go_wp2;go_returns;exact B.out _ _ ⟨rfl,E.out⟩
structure Round(lt:aJ->aJ->Bool)(a b lim:Nat)(wb wp:Bool)(dk:Array aJ)(R:Sort.Rd aJ):Prop where
 brk:wb=J0->R.d1=breakPatterns dk a b/\R.lim=lim-1
 nob:wb=Jd->R.d1=dk/\R.lim=lim
 c:R.c=choosePivot lt R.d1 a b
 dec:R.c.2=.decreasing->R.d2=reverseRange R.d1 a b/\R.pivot=(b-1)-(R.c.1-a)/\R.hint=.increasing
 XK:R.c.2≠.decreasing->R.d2=R.d1/\R.pivot=R.c.1/\R.hint=R.c.2
 yes:(wb && wp && decide (R.hint=.increasing))=Jd->R.pi=partialInsertionSort lt R.d2 a b
 no:(wb && wp && decide (R.hint=.increasing))=J0->R.pi=(R.d2,J0)
 s1:R.d1.size=dk.size
 c1:a<=R.c.1
 c2:R.c.1<b
 s2:R.d2.size=dk.size
 p1:a<=R.pivot
 p2:R.pivot<b
 s3:R.pi.1.size=dk.size
 B3:Sort.Below lt a b R.pi.1
 mj:R.lim<=lim
 done:R.pi.2=Jd->pdq lt dk a b lim wb wp=R.pi.1
 eq:R.pi.2=J0->(decide (a>0) && !lt R.pi.1[a-1]! R.pi.1[R.pivot]!)=Jd->∀mid d4,partitionEqual lt R.pi.1 a b R.pivot=(mid,d4)->a<mid->mid<=b->pdq lt dk a b lim wb wp=pdq lt d4 mid b R.lim wb wp
 left:R.pi.2=J0->(decide (a>0) && !lt R.pi.1[a-1]! R.pi.1[R.pivot]!)=J0->∀mid ap d4,partition lt R.pi.1 a b R.pivot=(mid,ap,d4)->a<=mid->mid<b->mid-a<b-mid->pdq lt dk a b lim wb wp=pdq lt (pdq lt d4 a mid R.lim Jd Jd) (mid+1) b R.lim (decide (mid-a >= (b-a)/8)) ap
 right:R.pi.2=J0->(decide (a>0) && !lt R.pi.1[a-1]! R.pi.1[R.pivot]!)=J0->∀mid ap d4,partition lt R.pi.1 a b R.pivot=(mid,ap,d4)->a<=mid->mid<b->¬mid-a<b-mid->pdq lt dk a b lim wb wp=pdq lt (pdq lt d4 (mid+1) b R.lim Jd Jd) a mid R.lim (decide (b-mid >= (b-a)/8)) ap
theorem XL{lt:aJ->aJ->Bool}(h:SWO lt){a b e:Nat}(wb wp:Bool){p:Array aJ}(o:¬b-a<=12)(n:¬e=0)(u:b<=p.size)(s:Sort.Below lt a b p):Round lt a b e wb wp p (rd lt p a b e wb wp):=by
 obtain⟨s1,w,g,s2,v,k,s3,B3⟩:=rd_facts (limit:=e) (wb:=wb) (wp:=wp) h partialInsertionSort_holds reverseRange_holds (show a<b by omega) u s;exact {
  brk:=by rintro rfl;exact rd_false
  nob:=by rintro rfl;exact rd_true
  c:=rd_c
  dec:=rd_dec
  XK:=rd_not
  yes:=rd_pi_yes
  no:=rd_pi_no
  s1:=s1
  c1:=g.1
  c2:=g.2
  s2:=s2
  p1:=k.1
  p2:=k.2
  s3:=s3
  B3:=B3
  mj:=rd_lim_le
  done:=pdq_done o n
  eq:=λf j i r d l m=>by rw[pdq_eq o n f j (by rw[d];exact⟨l,m⟩),d]
  left:=λf j i t r d l m q=>by rw[pdq_left o n f j (by rw[d];exact⟨l,m⟩) (by rw[d];exact q),d]
  right:=λf j i t r d l m q=>by rw[pdq_right o n f j (by rw[d];exact⟨l,m⟩) (by rw[d];exact q),d] }
theorem TP{h:Hint}(e:pZ h=2):h=.decreasing:=by cases h<;>simp[pZ]at e ⊢
theorem abv:∀m,XJ m:=by
 intro m;induction m with
 |zero=>exact λh a b l h1 h2 h3 h4 h5 h6=>PV h a b l h1 h2 h3 af h5 h6
 |succ m ih=>
   intro bt w0 W jb pb bz made base g cap d h a b limit ke hb de hm hl XM;have H:=ae h;have fF:=ae XM;obtain⟨N,hN⟩:=ac d.size;rw[<- hN]at hb de ⊢;obtain⟨r,hr⟩:=ac (pdq (ltOf (aW bt)) d a b limit Jd Jd);rw[<- hr];have jj:Lk (pdq (ltOf (aW bt)) d a b limit Jd Jd=r):=ae hr.symm;have HX:Lk (a<=b/\b<=N/\N<=1000000/\b-a<=m+1/\limit<=64/\d.size=N):=ae af;clear h hN XM hr ke hb de hm hl;unfold di ptrTo;go_enter func272,ntmps272;go_wp2_with fail;go_loopw [1,2,3,10,11] (λs1 s2 s3 io eS wr=>∃(f k s:Nat)(wb wp:Bool)(X:Array aJ),s1=f/\s2=k/\s3=s/\io=.bool wb/\eS=.bool wp/\f<=k/\k<=N/\k-f<=m+1/\s<=64/\X.size=N/\Lk (Sort.Below (ltOf (aW bt)) f k X)/\gT bt w0 jb pb bz made base g cap X wr/\Lk (pdq (ltOf (aW bt)) X f k s wb wp=r)) (λs1 s2 _ _ _ _=>(Lo s2-Lo s1).toNat)
   case atStart=>exact⟨a,b,limit,Jd,Jd,d,rfl,rfl,rfl,rfl,rfl,HX.out.1,HX.out.2.1,HX.out.2.2.2.1,HX.out.2.2.2.2.1,HX.out.2.2.2.2.2,fF,H.out,jj⟩
   case round=>
    obtain⟨f,k,s,wb,wp,X,rfl,rfl,rfl,rfl,rfl,fm,gx,LJ,RU,ci,iS,hs,HO⟩:=hrel;generalize wr=Wr at *;have HS:=ae hs;have HZ:=ae ci;obtain⟨L,hL⟩:=ac (k-f);have wL:cf Mm ((k:Int)-f)=L:=by have:=HX.out;rw[ax]<;>omega
    have c:Lk (f<=k/\k<=N/\L=k-f/\L<=m+1/\s<=64/\N<=1000000/\X.size=N):=ae (Nm HX.out);clear hs ci hL fm gx LJ RU;by_cases FO:L<=12
    .have kd:(L:Int)<=12:=af;have n:=pY HS.out f k c.out.1 (Nm c.out) (Nm c.out);rw[HZ.out]at n;unfold di ptrTo at n;have v:=ae n;clear n;have K:Lk (r=insertionSort (ltOf (aW bt)) X f k):=ae (by rw[<- HO.out];exact pdq_small (Nm c.out));go_wp2_with fail;go_call v.out as e D⟨rfl,hs1⟩;have ko:=ae hs1;clear hs1;go_wp2;go_returns;rw[K.out];exact⟨rfl,ko.out⟩
    .have kd:¬((L:Int)<=12):=af;by_cases al:s=0
     .subst al;have n:=JI HS.out f k (Nm c.out) (Nm c.out) (Nm c.out);rw[HZ.out]at n;unfold di ptrTo at n;have v:=ae n;clear n;have K:Lk (r=heapSort (ltOf (aW bt)) X f k):=ae (by rw[<- HO.out];exact pdq_heap (Nm c.out) rfl);go_wp2_with fail;go_call v.out as e D⟨rfl,hs1⟩;have ko:=ae hs1;clear hs1;go_wp2;go_returns;rw[K.out];exact⟨rfl,ko.out⟩
     .have li:((s:Int) == 0)=false:=by simp;omega
      have JL:Lk (1<=s/\12<L):=ae af;obtain⟨R,o⟩:∃R,Lk (Round (ltOf (aW bt)) f k s wb wp X R):=⟨_,ae (XL (rH bt) wb wp (Nm c.out) al (Nm c.out) iS.out)⟩;clear al FO;go_upto_if 39 with fail
      go_cut [3] from 21 to 147 (λs3 wc=>s3=Kx Mm (R.lim:Int)/\gT bt w0 jb pb bz made base g cap R.d1 wc)
      case first=>
       cases wb with
       |false=>
         obtain⟨e1,Z⟩:=o.out.brk rfl;have n:=zk HS.out f k (No c.out JL.out) (Nm c.out) (Nm c.out);rw[HZ.out,<- e1]at n;unfold di ptrTo at n;have v:=ae n;have ld:cf Mm ((s:Int)-1)=R.lim:=by
          have:=c.out;have:=JL.out
          rw[ax]<;>omega
         clear n e1 Z;go_wp2_with fail;go_call v.out as e D⟨rfl,hs1⟩;have ko:=ae hs1;clear hs1;go_wp2;go_meet
         exact⟨rfl,ko.out⟩
       |true=>
         obtain⟨e1,Z⟩:=o.out.nob rfl;go_wp2;go_meet
         exact⟨by rw[Z],by rw[e1];exact HS.out⟩
      case rest=>
       obtain⟨rfl,hs1⟩:=hcut;have ko:=ae hs1;have XO:Lk (R.d1.size=N):=ae (o.out.s1.trans HZ.out);clear hs1;have n:=Cu ko.out f k (No c.out JL.out) (No c.out XO.out) (No c.out XO.out);rw[XO.out,<- o.out.c]at n;unfold di ptrTo at n;have v:=ae n;clear n;go_upto_if 56 with fail
       refine v.out.mono ?_;rintro e C⟨rfl,dq⟩;have fP:=ae dq;clear dq v;go_upto_if 56 with fail
       go_cut [13,14] from 21 to 147 (λff i8 wc=>ff=Kx Mm (R.pivot:Int)/\i8=Kx Mm (pZ R.hint:Int)/\gT bt w0 jb pb bz made base g cap R.d2 wc)
       case first=>
        by_cases hh:R.c.2=.decreasing
        .obtain⟨Z,am,V⟩:=o.out.dec hh;have hz:(pZ R.c.2:Int)=2:=by rw[hh];rfl
         have n:=AO fP.out f k (No c.out JL.out) (No c.out XO.out) (No c.out XO.out);rw[XO.out,<- Z]at n;unfold di ptrTo at n;have v:=ae n;obtain⟨P,hP⟩:=ac (R.c.1-f);have ks:cf Mm ((k:Int)-1)=k-1:=by
          have:=c.out;have:=JL.out
          rw[ax]<;>omega
         have wP:cf Mm ((R.c.1:Int)-f)=P:=by
          have:=c.out;have:=o.out.c1;have:=o.out.c2
          rw[ax]<;>omega
         have wV:cf Mm ((k:Int)-1-(P:Int))=R.pivot:=by
          have:=c.out;have:=o.out.c1;have:=o.out.c2
          rw[ax]<;>omega
         have HE:Lk (R.hint=.increasing):=ae V;clear n Z am V hP hh;go_wp2_with fail;go_call v.out as e E⟨rfl,hs3⟩;have gV:=ae hs3;clear hs3;go_wp2;go_meet
         exact⟨rfl,by rw[HE.out];rfl,gV.out⟩
        .obtain⟨Z,am,V⟩:=o.out.XK hh;have hz:((pZ R.c.2:Int) == 2)=false:=by simp only[beq_eq_false_iff_ne,ne_eq];exact λh=>hh (TP af)
         go_wp2;go_meet
         exact⟨by rw[am],by rw[V],by rw[Z];exact fP.out⟩
       case rest=>
        obtain⟨rfl,rfl,hs3⟩:=hcut;have gV:=ae hs3;have aE:Lk (R.d2.size=N):=ae (o.out.s2.trans HZ.out);clear hs3;obtain⟨z,hz⟩:∃z:Int,z=(pZ R.hint:Int):=⟨_,rfl⟩;rw[<- hz];have HV:Lk (decide (R.hint=.increasing)=(z == 1)):=ae (by rw[hz];cases R.hint<;>rfl);clear hz;go_upto_region 15 with fail
        go_cut [75] from 21 to 147 (λel wx=>el=.bool (wb && wp && decide (R.hint=.increasing))/\gT bt w0 jb pb bz made base g cap R.d2 wx)
        case first=>
         cases wb<;>cases wp<;>(
          go_wp2_with fail;go_meet
          exact⟨by rw[HV.out];simp,gV.out⟩)
        case rest=>
         obtain⟨rfl,r8⟩:=hcut;have jh:=ae r8;clear r8;go_upto_if 75 with fail
         go_cut [] from 21 to 147 (λwx=>R.pi.2=J0/\gT bt w0 jb pb bz made base g cap R.pi.1 wx)
         case first=>
          cases dl:(wb && wp && decide (R.hint=.increasing))
          .have S:=ae (o.out.no dl);go_wp2;go_meet
           exact⟨by rw[S.out],by rw[S.out];exact jh.out⟩
          .have S:=ae (o.out.yes dl);have n:=qP jh.out f k (No c.out JL.out) (No c.out aE.out) (No c.out aE.out);rw[aE.out,<- S.out]at n;unfold di ptrTo at n;have v:=ae n;clear n;cases U:R.pi.2
           .go_wp2_with fail;go_call v.out as e u⟨rfl,r8⟩;rw[U];have cE:=ae r8;have rD:=ae U;clear r8 U;go_wp2;go_meet
            exact⟨rD.out,cE.out⟩
           .have K:Lk (r=R.pi.1):=ae (by rw[<- HO.out];exact o.out.done U);go_wp2_with fail;go_call v.out as e u⟨rfl,r8⟩;rw[U];have cE:=ae r8;clear r8 U;go_wp2;go_returns;rw[K.out];exact⟨rfl,cE.out⟩
         case rest=>
          obtain⟨U,ee⟩:=hcut;have cE:=ae ee;have rD:=ae U;have I:Lk (R.pi.1.size=N):=ae (o.out.s3.trans HZ.out);clear ee U;generalize wc=W5 at *;have bV:(R.pivot:Int)<N:=No o.out.p2 c.out;go_upto_region 17 with fail
          go_cut [97] from 21 to 147 (λen wx=>en=.bool (decide (f>0) && !ltOf (aW bt) R.pi.1[f-1]! R.pi.1[R.pivot]!)/\gT bt w0 jb pb bz made base g cap R.pi.1 wx)
          case first=>
           rcases qp f with T | T
           .have gt:decide ((f:Int)>0)=false:=decide_eq_false af;have kl:decide (0<f)=false:=decide_eq_false af;have gE:=ae T;clear T;go_wp2_with fail;go_quiet (fail)
            have z7:RowKit.Below W5.heap.size W5 (W5.drewN nq):=⟨rfl,rfl,rfl,cg _,λ_ _=>rfl⟩;have iF:=ae (cE.out.below z7);clear z7;go_wp2;go_meet
            exact⟨by simp[gE.out],iF.out⟩
           .have gt:(f:Int)>0:=af;obtain⟨A1,co⟩:=ac (f-1);have bA:(A1:Int)<N:=Nm c.out;have lw:cf Mm ((f:Int)-1)=A1:=by have:=c.out;rw[ax]<;>omega
            obtain⟨x,G⟩:∃x,R.pi.1[A1]! = x:=⟨_,rfl⟩;obtain⟨y,hy⟩:∃y,R.pi.1[R.pivot]! = y:=⟨_,rfl⟩;have F:=ae (cE.out.reads (i:=A1) (j:=R.pivot) (No c.out I.out) (NE c.out I.out o.out.p2) G hy);have HW:Lk ((decide (f>0) && !ltOf (aW bt) R.pi.1[f-1]! R.pi.1[R.pivot]!)=!decide (aW bt x y<0)):=ae (by rw[<- co,G,hy,decide_eq_true T];rfl)
            clear co G hy;by_cases hl:aW bt x y<0
            .go_wp2_with fail;refine wq W5 ?_;iterate 8 (refine qz ?_)
             refine qz ?_ (λw' p=>by obtain⟨⟨c0,c1,c2,c3⟩,-,-⟩:=F.out w' p;go_simp<;>rfl);iterate 3 (refine qz ?_)
             refine qz ?_ (λw' p=>by obtain⟨-,⟨c0,c1,c2,c3⟩,-⟩:=F.out w' p;go_simp<;>rfl);refine qw (λw' p=>(F.out w' p).2.2) ?_;iterate 3 (refine qz ?_)
             refine wpQuiet_nil ?_;intro w6 M;have iF:=ae (cE.out.below M);clear M;go_wp2;go_meet
             exact⟨by rw[HW.out,decide_eq_true hl];rfl,iF.out⟩
            .have Ii:decide (aW bt x y<0)=false:=decide_eq_false hl;go_wp2_with fail;refine wq W5 ?_;iterate 8 (refine qz ?_)
             refine qz ?_ (λw' p=>by obtain⟨⟨c0,c1,c2,c3⟩,-,-⟩:=F.out w' p;go_simp<;>rfl);iterate 3 (refine qz ?_)
             refine qz ?_ (λw' p=>by obtain⟨-,⟨c0,c1,c2,c3⟩,-⟩:=F.out w' p;go_simp<;>rfl);refine qw (λw' p=>(F.out w' p).2.2) ?_;iterate 3 (refine qz ?_)
             refine wpQuiet_nil ?_;intro w6 M;have iF:=ae (cE.out.below M);clear M;go_wp2;go_meet
             exact⟨by rw[HW.out,Ii];rfl,iF.out⟩
          case rest=>
           obtain⟨rfl,du⟩:=hcut;have iF:=ae du;clear du;cases TQ:(decide (f>0) && !ltOf (aW bt) R.pi.1[f-1]! R.pi.1[R.pivot]!)
           .obtain⟨mid,ap,d4,G⟩:∃mid ap d4,partition (ltOf (aW bt)) R.pi.1 f k R.pivot=(mid,ap,d4):=⟨(partition (ltOf (aW bt)) R.pi.1 f k R.pivot).1,(partition (ltOf (aW bt)) R.pi.1 f k R.pivot).2.1,(partition (ltOf (aW bt)) R.pi.1 f k R.pivot).2.2,rfl⟩;have t:=ae (round_part (rH bt) (partition_holds (ltOf (aW bt))) o.out.p1 o.out.p2 (show k<=R.pi.1.size by have:=c.out;have:=I.out;omega) o.out.B3 G);have n:=GF iF.out f k R.pivot o.out.p1 o.out.p2 (No c.out I.out) (No c.out I.out);rw[I.out,G]at n;unfold di ptrTo at n;have v:=ae n;have O:=t.out.1;have Y:=t.out.2.1;have i6:=ae (o.out.left rD.out TQ mid ap d4 G O Y);have i7:=ae (o.out.right rD.out TQ mid ap d4 G O Y);have J:Lk (d4.size=N):=ae (t.out.2.2.1.trans I.out);obtain⟨A,hA⟩:=ac (mid-f);obtain⟨B,hB⟩:=ac (k-mid);obtain⟨ce,hE⟩:=ac (L/8);have wA:cf Mm ((mid:Int)-f)=A:=by have:=c.out;rw[ax]<;>omega
            have wB:cf Mm ((k:Int)-mid)=B:=by have:=c.out;rw[ax]<;>omega
            have wE:cf Mm ((L:Int).tdiv 8)=ce:=by have:=c.out;rw[show((L:Int)).tdiv 8=((L/8:Nat):Int) from rfl,ax]<;>omega
            have kw:cf Mm ((L:Int)/8)=ce:=by have:=c.out;rw[ax]<;>omega
            have wM:cf Mm ((mid:Int)+1)=(mid+1:Nat):=by have:=c.out;rw[ax]<;>omega
            have w:Lk (A=mid-f/\B=k-mid/\ce=L/8/\f<=mid/\mid<k):=ae ⟨hA,hB,hE,O,Y⟩;clear n G hA hB hE O Y TQ;go_wp2_with fail;go_call v.out as e w7⟨rfl,PW⟩;dsimp only at PW;have lL:=ae PW;clear PW v;by_cases h4:A<B
            .have fI:(A:Int)<B:=af;have Q:=ih lL.out f mid R.lim w.out.2.2.2.1 (NE c.out w.out J.out) (No c.out J.out) (No c.out w.out) (cp o.out.mj c.out.2.2.2.2.1) t.out.2.2.2.1;obtain⟨pL,sL⟩:=pdq_sorts (ltOf (aW bt)) (rH bt) d4 f mid R.lim Jd Jd w.out.2.2.2.1 (NE c.out w.out J.out) t.out.2.2.2.1;have uY:=ae (t.out.2.2.2.2.2.1 _ pL sL).1;have bd:Lk ((pdq (ltOf (aW bt)) d4 f mid R.lim Jd Jd).size=N):=ae (pL.1.trans J.out);have K:Lk (pdq (ltOf (aW bt)) (pdq (ltOf (aW bt)) d4 f mid R.lim Jd Jd) (mid+1) k R.lim (decide (A >= ce)) ap=r):=ae (by have q:=w.out;rw[<- HO.out,i6.out af,q.1,q.2.2.1,c.out.2.2.1])
             rw[J.out]at Q;unfold di ptrTo at Q;have XP:=ae Q;clear Q pL sL h4;go_wp2_with fail;go_call XP.out as e w8⟨rfl,GG⟩;have lJ:=ae GG;clear GG XP;go_wp2;have q:=w.out;have q2:=c.out;exact⟨⟨mid+1,k,R.lim,decide (A >= ce),ap,_,rfl,rfl,rfl,congrArg ID ai,rfl,af,af,af,cp o.out.mj q2.2.2.2.2.1,bd.out,uY,lJ.out,K⟩,by simp[Lo];omega⟩
            .have fI:¬(A:Int)<B:=af;have Q:=ih lL.out (mid+1) k R.lim w.out.2.2.2.2 (NE c.out w.out J.out) (No c.out J.out) (No c.out w.out) (cp o.out.mj c.out.2.2.2.2.1) t.out.2.2.2.2.1;obtain⟨pL,sL⟩:=pdq_sorts (ltOf (aW bt)) (rH bt) d4 (mid+1) k R.lim Jd Jd w.out.2.2.2.2 (NE c.out w.out J.out) t.out.2.2.2.2.1;have uY:=ae (t.out.2.2.2.2.2.2 _ pL sL).1;have bd:Lk ((pdq (ltOf (aW bt)) d4 (mid+1) k R.lim Jd Jd).size=N):=ae (pL.1.trans J.out);have K:Lk (pdq (ltOf (aW bt)) (pdq (ltOf (aW bt)) d4 (mid+1) k R.lim Jd Jd) f mid R.lim (decide (B >= ce)) ap=r):=ae (by have q:=w.out;rw[<- HO.out,i7.out af,q.2.1,q.2.2.1,c.out.2.2.1])
             rw[J.out]at Q;unfold di ptrTo at Q;have XP:=ae Q;clear Q pL sL h4;go_wp2_with fail;go_call XP.out as e w8⟨rfl,GG⟩;have lJ:=ae GG;clear GG XP;go_wp2;have q:=w.out;have q2:=c.out;exact⟨⟨f,mid,R.lim,decide (B >= ce),ap,_,rfl,rfl,rfl,congrArg ID ai,rfl,af,af,af,cp o.out.mj q2.2.2.2.2.1,bd.out,uY,lJ.out,K⟩,by simp[Lo];omega⟩
           .have JM:=TQ;simp only[j4,decide_eq_true_eq,Bool.not_eq_true']at JM;obtain⟨mid,d4,G⟩:∃mid d4,partitionEqual (ltOf (aW bt)) R.pi.1 f k R.pivot=(mid,d4):=⟨(partitionEqual (ltOf (aW bt)) R.pi.1 f k R.pivot).1,(partitionEqual (ltOf (aW bt)) R.pi.1 f k R.pivot).2,rfl⟩;have Ld:=ae (round_eq (rH bt) (partitionEqual_holds (ltOf (aW bt))) JM.1 o.out.p1 o.out.p2 (show k<=R.pi.1.size by have:=c.out;have:=I.out;omega) o.out.B3 JM.2 G);have n:=xP iF.out f k R.pivot o.out.p1 o.out.p2 (No c.out I.out) (No c.out I.out);rw[I.out,G]at n;unfold di ptrTo at n;have v:=ae n;have K:Lk (pdq (ltOf (aW bt)) d4 mid k R.lim wb wp=r):=ae (by rw[<- HO.out,o.out.eq rD.out TQ mid d4 G Ld.out.1 Ld.out.2.1])
            have J:Lk (d4.size=N):=ae (Ld.out.2.2.1.trans I.out);clear n G TQ JM;go_wp2_with fail;go_call v.out as e w7⟨rfl,PW⟩;dsimp only at PW;have lL:=ae PW;clear PW v;go_wp2;have q1:=Ld.out.1;have q3:=Ld.out.2.1;have q2:=c.out;exact⟨⟨mid,k,R.lim,wb,wp,d4,rfl,rfl,rfl,rfl,rfl,q3,q2.2.1,af,cp o.out.mj q2.2.2.2.2.1,J.out,ae Ld.out.2.2.2.1,lL.out,K⟩,by simp[Lo];omega⟩
theorem I4{m:Nat}(a:m<=1000000):um m:=MI a (abv m)
theorem En{a b:Type}[DecidableEq a]{m:List (a×b)}{k:a}(h:aI m k=KK):b9 m k=m:=by grind [b9,List.filter_eq_self,aI,Option.map_eq_none_iff]
theorem mn(L:aL)(p:Name×jV):need (p::L)=p.2.need+need L:=by rfl
theorem tC{L:aL}{k:Name}(f:jV)(h:aI L k=KK):need (aX L k f)=f.need+need L:=by grind [aX,En,mn]
theorem dz(es:List aJ)(fl:Bool):(az es fl).need<=4*es.length:=by grind [az,jV.need,dG,cN,fw]
def lM(d d':Dsk)(B c:Nat):Prop:=c=5/\d.bU<B\/c=6/\d'.dead=Jd
theorem om.num{d d':Dsk}{L:aL}{c:Nat}(h:om d d' L c)(b:need L<=B):lM d d' B c:=by
 rcases h with⟨a,e⟩| h
 .exact .inl ⟨a,af⟩
 .exact .inr h
theorem lM.ne{d d':Dsk}{c:Nat}(h:lM d d' B c):c≠0:=by rcases h with h | h<;>omega
theorem lM.mono{d d':Dsk}{a c:Nat}(h:lM d d' B c)(e:B<=a):lM d d' a c:=by
 rcases h with⟨b,f⟩| h
 .exact .inl ⟨b,af⟩
 .exact .inr h
theorem lM.later{d a b:Dsk}{c:Nat}(g:a.bU=d.bU)(h:lM a b B c):lM d b B c:=by
 rcases h with⟨e,f⟩| h
 .exact .inl ⟨e,af⟩
 .exact .inr h
def MK(S:Nat->Prop)(n b db:Nat)(w:KX)(o:ay)(d:Dsk)(L:aL)(name:Name)(a:List aJ)(B:Nat)(e:Lp)(w':KX):Prop:=
 ∃c d' o' L',e=Mk (Kx Mm ((c:Nat):Int))/\Moved S n b db w o d w' o' d' L'/\(c=0/\L'=aX L name (az a J0)\/lM d d' B c)/\∀x,x≠name->aI L' x=aI L x
section
variable {S:Nat->Prop}{w:KX}{pb db n cb sb jb bz made:Nat}{by':Bool}{name:Name}{o o':ay}{d d':Dsk}{L L':aL}
theorem JN(HW:aV){m:Nat}(HS:um m)(h:aU w pb db n o d L)(hj:dC w jb pb bz made by')(mD:o jb=KK)(_hob:o bz=KK)(gu:b6 name=Jd)(p:aI L name=KK){v:J3}{base:Nat}{es:List aJ}(B:aG w base v es)(X:∀x,v.ownBlock=IT x->o x=KK/\x≠jb/\x≠bz)(hm:es.length<=m)(en:es.length<65535):K1 prog 201 #[ptrTo jb,.string name,v] w (MK (λx=>v.ownBlock=IT x) n pb db w o d L name (aH by' es) (need L+4*es.length)):=by
 have BV:Lk (K1 prog 237 #[v,di jb] w (λe w'=>∃ts,e=Mk (Ly #[])/\ts.Perm es/\ts.Pairwise (er by')/\aG w' base v ts/\aN (λx=>v.ownBlock=IT x) w w')):=ae (by
  rcases cJ B with⟨rfl,rfl⟩|⟨g,cap,rfl,hg,am,j⟩
  .refine(JD _ _ _ _).mono ?_;rintro e w'⟨rfl,rfl⟩;exact⟨[],rfl,List.Perm.refl _,List.Pairwise.nil,B,aN.refl _ _⟩
  .refine(HS hj es hm B (X g rfl).2.1 (X g rfl).2.2).mono ?_;rintro e w'⟨ts,rfl,R,V,h3,h4⟩;exact⟨ts,rfl,R,V,h3,h4.mono (λx _ e=>by rw[e];rfl)⟩)
 have Pw:∃a cap,v=.slice a es.length cap/\∀x,v.ownBlock=IT x->a=IT ⟨x,0,KK⟩:=by
  rcases cJ B with⟨rfl,rfl⟩|⟨g,cap,rfl,hg,am,j⟩
  .exact⟨KK,0,rfl,λx c=>by cases c⟩
  .exact⟨IT ⟨g,0,KK⟩,cap,rfl,λx c=>by cases c;rfl⟩
 have JO:Lk (∀W,aU W pb db n o d L->dC W jb pb bz made by'->K1 prog 202 #[ptrTo jb,.string name] W (oV n pb db W o d L name)):=ae (λW O co=>vZ O co mD gu p);have Q:Lk (∀W o' d' f sb out,aU W pb db n o' d' (aX L name (az out J0))->aM W sb pb name 20->o' sb=KK->o' f=KK->f≠sb->gA W f sb out->out.length<65535->∀x:aJ,
  Calls prog 204 #[ptrTo f,LV #[Kx Mo (x.t.toNat:Int),Kx Mo (x.h.toNat:Int),Kx MJ (x.x.toNat:Int),Kx Mo (x.m.toNat:Int)]] W (Ee n pb db W o' d' (aX L name (az out J0)) name f sb out x)):=
  ae (λW o' d' f sb out O s ho XQ dl hk hl x=>BR HW O s ho XQ dl (by grind [aC]) hl hk x)
 have H:=ae h;have HJ:=ae hj;have M:=ae X;have ce:=ae p;have JP:Lk (∀x,v.ownBlock=IT x->x<w.heap.size):=ae (λx c=>(aA B x c).1);have Eo:Lk (∀ts:List aJ,ts.Perm es->ts.Pairwise (er by')->iy ts=aH by' es):=ae (λts R V=>((Av V).congr (λx=>R.mem_iff)).eq);obtain⟨a,cap,rfl,ha⟩:=Pw;have HA:=ae ha;clear h hj mD _hob gu p B X hm ha;unfold di ptrTo at *;generalize hN:es.length=N at *;have HN:=ae hN;clear hN;go_enter func201,ntmps201;go_wp2_with fail;go_call BV.out as e D⟨ts,rfl,zY,hs1,Dg,pF⟩;have De:ts.length=N:=by rw[zY.length_eq,HN.out]
 have el:=ae De;have S:Lk (Moved (λx=>(fz a N cap).ownBlock=IT x) n pb db w o d D o d L):=ae ⟨H.out.kept pF (λx c e=>ay.eB (M.out x e).1 c) (λ_ _ h=>h) (λx t c=>eg (H.out.owned x t c) pF.size),pF.mono (λ_ _ h=>.inr h),cX.refl _ _,cd.refl _⟩;have Y:Lk (dC D jb pb bz made by'):=ae (HJ.out.kept (pF.block _ HJ.out.lt.1 (λe=>(M.out _ e).2.1 rfl)) (pF.block _ HJ.out.lt.2 (λe=>(M.out _ e).2.2 rfl)));have Tz:=ae Dg;have HB:=ae (Eo.out ts zY hs1);clear zY hs1 Dg pF De;have aR:=ae (JO.out D S.out.bh Y.out);go_wp2_with fail;go_call aR.out as e C⟨v2,c2,A,z,rfl,dA,vX,lp⟩;have AE:=ae vX;have ee:w.heap.size<=D.heap.size:=S.out.size;by_cases j:c2=0
 .subst j;obtain⟨f,sb,rfl,P,rJ,ML,Ep,sB,ac,zi⟩:=lp rfl;simp only[if_true]at dA;have fV:=ae (S.out.trans dA (λ_ _ h=>h.elim));have Az:Lk (aG C base (.slice a N cap) ts):=ae (dA.ownsRow Tz.out (λb U=>⟨(M.out b U).1,λh=>h⟩));have eS:=ae P;have qK:=ae rJ;have dq:=ae ML;have GH:=ae Ep;have JQ:=ae sB;have aE:Lk (∀x,(fz a N cap).ownBlock=IT x->x≠f):=ae (λx c e=>by grind [Hid.out]);have gE:w.heap.size<=f:=cp ee ac;clear lp dA P rJ ML Ep sB vX aR;unfold ptrTo;go_wp2;go_loopw [27] (λi wr=>∃(k:Nat)(d':Dsk)(o':ay),k<=N/\i=k/\Moved (λx=>(fz a N cap).ownBlock=IT x) n pb db w o d wr o' d' (aX L name (az (iy (ts.take k)) J0))/\gA wr f sb (iy (ts.take k))/\aM wr sb pb name 20/\o' f=KK/\o' sb=KK/\aG wr base (.slice a N cap) ts/\(∀x,(fz a N cap).ownBlock=IT x->o' x=KK)) (λi _=>N-(Lo i).toNat)
  case atStart=>exact⟨0,A,z,em _,rfl,Nd,Nd,qK.out,dq.out,GH.out,Az.out,λx c=>fV.out.free (JP.out x c) (M.out x c).1⟩
  case round=>
   obtain⟨k,F,G,hk,rfl,fD,y,y8,y7,TR,I,J⟩:=hrel;have fH:=ae fD;have de:=ae y;have GI:=ae y8;have XR:=ae y7;have AP:=ae TR;have CR:=ae I;have E:=ae J;have yL:=y.lt;have Vy:=y8.lt;clear fD y y8 y7 TR I J;by_cases iS:k<N
   .have K:k<ts.length:=by grind [Hid.out]
    have ci:∃g,a=IT ⟨g,0,KK⟩/\N<=cap/\cap<=maxLen:=by grind [cJ,Hid.out]
    obtain⟨g,rfl,ff,XS⟩:=ci;unfold maxLen at XS;have q:=CR.out;rw[<- el.out]at q;obtain⟨e0,e1,e2,e3⟩:=bX q (bk K);have fm:g<wr.heap.size:=World.block_lt_of_cell? _ _ e0;have qH:Lk (iy (ts.take (k+1))=xI (iy (ts.take k)) ts[k]):=ae (by rw[fh K,Ar]);have Z:Lk ((iy (ts.take k)).length<=k):=ae (cp (pR _) (List.length_take_le _ _));have nB:Lk (∀r:Obj,Moved (λx=>(fz (IT ⟨g,0,KK⟩) N cap).ownBlock=IT x) n pb db w o d (wr.alloc r) G F (aX L name (az (iy (ts.take k)) J0))):=ae (λr=>fH.out.alloc r);have XT:=ae (λW(O:aU W pb db n G F (aX L name (az (iy (ts.take k)) J0)))(s:aM W sb pb name 20)(al:gA W f sb (iy (ts.take k)))=>Q.out W G F f sb (iy (ts.take k)) O s AP.out XR.out JQ.out al (by grind [Hid.out]) ts[k]);clear q;generalize ts[k]=x at *;go_wp2_with fail;have l:∀r:Obj,Lg wr wr (wr.alloc r):=λr=>aq.alloc (cg _) r;go_call(XT.out _ (nB.out _).bh (GI.out.below (l _)) (de.out.below (l _))) as e u⟨c4,d4,o4,rfl,fZ,Cq,hk4⟩;have PB:Lk (aG u base (.slice (IT ⟨g,0,KK⟩) N cap) ts):=ae (fZ.ownsRow (CR.out.alloc _) (λb U=>⟨E.out b U,aE.out b U⟩));have za:Lk (aM u sb pb name 20):=ae ((GI.out.below (l _)).moved fZ AP.out (λe=>JQ.out e.symm));have io:Lk (o4 f=KK):=ae (fZ.free (eg yL (l _).size) XR.out);have fI:Lk (o4 sb=KK):=ae (fZ.free (eg Vy (l _).size) AP.out);have gx:Lk (∀x,(fz (IT ⟨g,0,KK⟩) N cap).ownBlock=IT x->o4 x=KK):=ae (λx c=>fZ.free (eg (by cases c;omega) (l _).size) (E.out x c));have du:=ae hk4;clear hk4 XT e0 e1 e2 e3;by_cases T:c4=0
    .subst T;simp only[if_true,kI]at fZ;have jg:=ae ((nB.out _).trans fZ (λx c e=>af));have XU:=du.out rfl;rw[<- qH.out]at jg XU;have gt:=ae XU;clear fZ Cq XU;go_wp2;go_roundw
     case rel=>grind [Hid.out]
     grind [Lo]
    .have y5:¬(c4:Int)=0:=af;rw[if_neg T]at fZ;have jg:=ae ((nB.out _).trans fZ (λx c e=>af));have F6:need (aX L name (az (iy (ts.take k)) J0))<=need L+4*N:=by rw[tC _ ce.out];have R:=dz (iy (ts.take k)) J0;have V:=Z.out;omega
     have zZ:=ae (((Cq.resolve_left T).num F6).later fH.out.on.bU);clear fZ Cq T F6;go_wp2;go_ret;exact⟨c4,d4,o4,_,rfl,jg.out,.inr zZ.out,λx c=>by grind [aC]⟩
   .obtain rfl:k=N:=af
    go_wp2;go_ret;refine⟨0,F,G,_,rfl,fH.out,.inl ⟨rfl,?_⟩,λx c=>by grind [aC]⟩;grind [Hid.out]
 .have PN:¬(c2:Int)=0:=af;have bd:=ae j;rw[if_neg j]at dA;have fV:=ae (S.out.trans dA (λ_ _ h=>h.elim));clear j dA lp vX aR;go_wp2;go_ret;exact⟨c2,A,z,_,rfl,fV.out,.inr (.inr (AE.out.resolve_left bd.out)),λx _=>rfl⟩
end
abbrev yB:=Name×List aJ
def eI(rs:List yB)(L:aL):aL:=rs.foldl (λL p=>aX L p.1 (az p.2 J0)) L
theorem Er(rs:List yB)(p:yB)(L:aL):eI (rs++[p]) L=aX (eI rs L) p.1 (az p.2 J0):=by grind [eI]
theorem xQ(rs:List yB)(p:yB)(L:aL):eI (p::rs) L=eI rs (aX L p.1 (az p.2 J0)):=rfl
theorem fJ(rs:List yB):∀(L:aL)(x:Name),x ∉ rs.map (·.1)->aI (eI rs L) x=aI L x:=by
 induction rs with
 |nil=>intro L x _;rfl
 |cons p rs a=>grind [xQ,aC]
theorem AQ(rs:List yB):∀(L:aL),(rs.map (·.1)).Nodup->∀p∈rs,aI (eI rs L) p.1=IT (az p.2 J0):=by
 induction rs with
 |nil=>simp
 |cons q rs a=>grind [xQ,fJ,aC]
theorem PX(rs:List yB):∀(L:aL),(L.map (·.1)).Nodup->((eI rs L).map (·.1)).Nodup:=by
 induction rs with
 |nil=>intro L h;exact h
 |cons p rs a=>intro L h;exact a _ (cK h)
def lens(rs:List yB):Nat:=(rs.map (λp=>p.2.length)).sum
theorem dm(L:aL)(k:Name)(f:jV):need (aX L k f)<=f.need+need L:=by
 unfold aX;rw[mn];have:need (b9 L k)<=need L:=by
  induction L with
  |nil=>exact cg _
  |cons q L a=>grind [b9,mn]
 grind
theorem xR(rs:List yB):∀(L:aL),need (eI rs L)<=need L+4*lens rs:=by
 induction rs with
 |nil=>intro L;exact Nat.le_add_right _ _
 |cons p rs a=>grind [xQ,dm,dz,lens]
theorem BW(a b:List yB):lens (a++b)=lens a+lens b:=by grind [lens]
def e9(rs:List yB):List aJ:=(rs.map (·.2)).flatten
theorem zm(a b:List yB):e9 (a++b)=e9 a++e9 b:=by grind [e9]
theorem zn(rs:List yB):(e9 rs).length=lens rs:=by unfold e9 lens;rw[List.length_flatten,List.map_map];rfl
theorem cq(b:Bool)(l:List aJ):(aH b l).length<=l.length:=by grind [aH,pR,List.length_mergeSort]
theorem mQ(b:Bool)(l:List aJ):aH b (aH b l)=aH b l:=((bM b l).trans (bM b (aH b l))).eq
theorem JR{b:Bool}{l a:List aJ}(h:∀x,x∈l↔x∈a):aH b l=aH b a:=((bM b l).congr h).eq
theorem p8(b:Bool)(l m:List aJ):aH b (aH b l++aH b m)=aH b (l++m):=((bM b l).both (bM b m) (bM b _)).eq
theorem JS(b:Bool)(l m:List aJ):aH b (l++aH b m)=aH b (l++m):=by rw[<- p8 b l m,<- p8 b l (aH b m),mQ]
theorem TS{b:Bool}{l a m m':List aJ}(d:aH b l=aH b a)(c:aH b m=aH b m'):aH b (l++m)=aH b (a++m'):=by rw[<- p8,d,c,p8]
theorem MN(b:Bool)(l m:List aJ):aH b (l++m)=aH b (m++l):=JR λx=>M2
structure qQ(b:Bool)(es:List aJ)(rs:List yB):Prop where
 each:∀p∈rs,aH b p.2=p.2
 all:aH b (e9 rs)=aH b es
 len:lens rs<=es.length
 nodup:(rs.map (·.1)).Nodup
def jN(a x:Name):Prop:=x=a\/∃k,k<128/\x=eu k
theorem MO{a b:Nat}:Lib.decDigits a=Lib.decDigits b->a=b:=by
 induction a using Nat.strongRecOn generalizing b with
 |_ a c=>grind [Lib.decDigits.eq_1,UInt8.toNat_ofNat',Lib.decDigits_length,List.append_inj']
theorem AR{a b:Nat}(h:eu a=eu b):a=b:=by grind [eu,MO]
theorem JT{k:Nat}(h:k<100):(Lib.decDigits k).all kX=Jd/\(Lib.decDigits k).length<=2:=by
 have a:∀j,j<10->kX (UInt8.ofNat (48+j))=true:=ag;grind [Lib.decDigits_one,Lib.decDigits_two]
theorem MP{k:Nat}(h:k<100):b6 (eu k)=true:=by
 obtain⟨b,c⟩:=JT h;unfold b6 eu;have a:(ByteArray.mk ([116,46]++Lib.decDigits k).toArray).size=2+(Lib.decDigits k).length:=by show Array.size _=_;grind
 rw[a];simp only[DD,DP,List.all_cons,b,j4,decide_eq_true_eq];refine⟨⟨⟨ag,ag,trivial⟩,af⟩,af⟩
def gP(v:J3)(w w':KX)(v':J3):Prop:=w.grownBy w' v.ownBlock/\(v'.ownBlock=v.ownBlock\/v'.ownBlock=IT w.heap.size)
theorem ct{P:Program}{w:KX}{rest:List Oper}{a:Act}(p:h.guard=KK)(s x:Operand)(t:TypeId)(F:h.op=.call { callee:=.builtin .append,args:=#[s,x],argTypes:=#[t,t] })(base:Nat)(e:TypeId)(z:J3)(size d:Nat)(G:P.underlying t=IT (.slice e))(hi:(P.info? e).map (λi=>(i.zero,i.size,i.bytes))=IT (IT z,size,d))(B:z.cells.size=size)(y:0<size)(v:J3)(n:Nat)(xs:List J3)(O:a.eval s=v)(o:w.ownsRow base e size v n xs)(ad:Addr)(m c:Nat)(b:List J3)(L:a.eval x=.slice (IT ad) m c)(E:b.length=m*size)(l:∀j u,b[j]? = IT u->w.cell? (ad.add j)=IT u)(D:∀u∈b,u.oneCell'=Jd)(r:n+m<=maxLen)(f:(n+m)*d<=140737488355328)(g:base<=w.heap.size)(k:∀v' w',w'.ownsRow base e size v' (n+m) (xs++b)->gP v w w' v'->wpList P ops Q rest (a.put h.dst v') w'):wpList P ops Q (h::rest) a w:=by obtain⟨i0,N,C,q,A⟩:=info_parts hi;refine wpList_plain p λK hK=>?_;obtain⟨v',w',H,J,I,R,M⟩:=run_append_own_at (P:=P) w base t h.type e i0 z size d G N C q A B y v n xs o ad m c b E l D r f g;unfold Oper.wp execOp;simp only[F,resolve,invoke,builtin,Sem.run_bind,Sem.run_pure,Result.andThen_ok,List.map_toArray,oj,FP,O,L,H];exact hK _ _ (k v' w' J ⟨I,M⟩)
section
variable {w:KX}{rest:List Oper}{a:Act}
theorem bR(d:h.guard=KK)(s x:Operand)(m:h.op=.call { callee:=.builtin .append,args:=#[s,x],argTypes:=#[22,22] })(base:Nat)(v:J3)(l:List aJ)(n:a.eval s=v)(b:aG w base v l)(y:aJ)(c:Nat)(i:a.eval x=.slice w.heap.size 1 c)(p:l.length<=100000)(e:base<=w.heap.size)(k:∀v' w',aG w' base v' (l++[y])->gP v (w.alloc (Mi #[y.t,y.h,y.x,y.m] 63)) w' v'->wpList prog ops Q rest (a.put h.dst v') w') :
 wpList prog ops Q (h::rest) a (w.alloc (Mi #[y.t,y.h,y.x,y.m] 63)):=by
 refine ct d s x 22 m base 63 _ 4 24 Tryz.underlying22 uX rfl ag v l.length (dH l) n (World.ownsRow.alloc b _) ⟨w.heap.size,0,KK⟩ 1 c y.cells i rfl (λj u o=>?_) (by simp[qn]) (by grind [maxLen]) af (by simp;omega) (λv' w' f g=>k v' w' ?_ g)
 .rw[br,j0];simp_all
 .unfold aG;rw[qN,eh];exact f
theorem p9(d:h.guard=KK)(s x:Operand)(i:h.op=.call { callee:=.builtin .append,args:=#[s,x],argTypes:=#[56,56] })(base:Nat)(v:J3)(l:List Name)(m:a.eval s=v)(b:w.ownsRow base 9 1 v l.length (l.map ki))(y:Name)(c:Nat)(g:a.eval x=.slice w.heap.size 1 c)(p:l.length<=100000)(e:base<=w.heap.size)(k:∀v' w',w'.ownsRow base 9 1 v' (l++[y]).length ((l++[y]).map ki)->gP v (w.alloc (Mi #[.string y] 9)) w' v'->wpList prog ops Q rest (a.put h.dst v') w') :
 wpList prog ops Q (h::rest) a (w.alloc (Mi #[.string y] 9)):=by
 refine ct d s x 56 i base 9 _ 1 16 Tryz.underlying56 BQ rfl ag v l.length (l.map ki) m (World.ownsRow.alloc b _) ⟨w.heap.size,0,KK⟩ 1 c [.string y] g rfl (λj u n=>?_) (by simp[qn]) (by grind [maxLen]) af (by simp;omega) (λv' w' o f=>k v' w' ?_ f)
 .rw[br,j0];simp_all
 grind
end
section
variable {S:Nat->Prop}{n pb db:Nat}{w W:KX}{o o':ay}{d d':Dsk}{L':aL}{v:J3}
theorem gP.moved(l:gP v (W.alloc j) w' v')(c:Moved S n pb db w o d W o' d' L')(h:∀x,v.ownBlock=IT x->o' x=KK/\w.heap.size<=x) :
 Moved S n pb db w o d w' o' d' L'/\(∀x,v'.ownBlock=IT x->o' x=KK/\w.heap.size<=x)/\(∀x,x<W.heap.size->v.ownBlock≠IT x->w'.heap[x]? = W.heap[x]?)/\W.heap.size<=w'.heap.size:=by
 obtain⟨f,m⟩:=l;have b:W.heap.size<(W.alloc j).heap.size:=ai;refine⟨(c.alloc j).grown f (λk g=>⟨(h k g).1,.inr (h k g).2⟩),λx a=>?_,λx a i=>?_,cp (yi b) f.size⟩
 .rcases m with e | e
  .grind
  .rw[e]at a;cases a;exact⟨c.bh.fresh (yi b),cp c.size (yi b)⟩
 grind [World.grownBy.block,MapKept.heap_alloc]
theorem bg{base:Nat}{e:TypeId}{size:Nat}{k:Nat}(a:W.ownsRow base e size v k xs)(i:∀x,v.ownBlock=IT x->w'.heap[x]? = W.heap[x]?):w'.ownsRow base e size v k xs:=by
 obtain⟨h,a⟩:=a;refine⟨h,?_⟩;rcases a with a |⟨g,cap,b,c,f,d,r⟩
 .grind
 .exact .inr ⟨g,cap,b,c,f,(i g (by rw[c];rfl)).trans d,r⟩
theorem cr{base b:Nat}{e n:TypeId}{size c k o:Nat}{i:List J3}(h:W.ownsRow base e size v k xs)(q:W.ownsRow b n c v' o i)(p:e≠n):∀x,v.ownBlock=IT x->v'.ownBlock≠IT x:=by
 intro x d a;obtain⟨_,⟨f,_⟩|⟨g,cap,r,f,_,t,_⟩⟩:=h
 .rw[f]at d;cases d
 .obtain⟨_,⟨j,_⟩|⟨u,m,l,j,_,s,_⟩⟩:=q
  .rw[j]at a;cases a
  .rw[f]at d;rw[j]at a;cases d;cases a;grind
end
section
variable {S:Nat->Prop}{w:KX}{pb db n cb sb jb bz made:Nat}{by':Bool}{name:Name}{o o':ay}{d d':Dsk}{L L':aL}
theorem js(h:aU w pb db n o d L):K1 prog 15 #[ptrTo pb] w λe w'=>e=n/\w=w':=by obtain⟨g,c,l,hand,f,a,rfl,-⟩:=h;obtain⟨⟨-,b,-⟩,-⟩:=a.head.cells;have i:=a.most;clear a;unfold ptrTo;generalize l.length=n at *;go_enter func15,ntmps15;go_wp2;go_ret;exact⟨rfl,rfl⟩
theorem aM.abE(a:aM w sb pb name 20)(e:Moved S n pb db w o d w' o' d' L')(b:o sb=KK)(c:¬S sb):aM w' sb pb name 20:=a.moved e b c
def sD(w:KX)(a N:Nat):Nat:=N-(Lo ((w.cell? ⟨a,1,KK⟩).getD undef)).toNat
theorem sF{i N:Nat}{x:aJ}(h:bK w cb sb i N x):sD w cb N=N-i:=by unfold sD;rw[h.cells.1.2.1];simp[Lo]
def AU(a:Bool)(b:Name)(r:Nat):Name:=if a then eu r else b
structure qg(n pb db jb bz cb sb:Nat)(by':Bool)(w:KX)(o:ay)(d:Dsk)(N made p:Nat)(v:J3)(nm:List Name)(l:J3)(c:List aJ)(W:KX)(o':ay)(d':Dsk)(L':aL):Prop where
 mv:Moved (λx=>x=cb\/x=jb) n pb db w o d W o' d' L'
 JE:dC W jb pb bz made by'
 src:∃x,bK W cb sb p N x
 row:W.ownsRow w.heap.size 9 1 v nm.length (nm.map ki)
 rf:∀x,v.ownBlock=IT x->o' x=KK
 ed:aG W w.heap.size l c
 ef:∀x,l.ownBlock=IT x->o' x=KK
 old:(jb<w.heap.size/\o jb=KK)/\(bz<w.heap.size/\o bz=KK)/\cb<w.heap.size/\o cb=KK
theorem qg.step{N b p:Nat}{v l:J3}{nm:List Name}{c:List aJ}{W:KX}{g:ay}{r:Dsk}(h:qg n pb db jb bz cb sb by' w o d N b p v nm l c W o' d' L'){T:Nat->Prop}{m:aL}(_hm:Moved (λx=>x=cb\/x=jb) n pb db w o d e g r m)(i:∀x,x<W.heap.size->o' x=KK->g x=KK)(f:∀x,x<W.heap.size->o' x=KK->¬T x->e.heap[x]? = W.heap[x]?) :
 (¬T jb->¬T bz->dC e jb pb bz b by')/\(¬T cb->∃x,bK e cb sb p N x)/\((∀x,v.ownBlock=IT x->¬T x)->e.ownsRow w.heap.size 9 1 v nm.length (nm.map ki)/\∀x,v.ownBlock=IT x->g x=KK)/\((∀x,l.ownBlock=IT x->¬T x)->aG e w.heap.size l c/\∀x,l.ownBlock=IT x->g x=KK):=by obtain⟨⟨k,j⟩,⟨s,q⟩,c1,c2⟩:=h.old;have y:=h.mv.size;refine⟨λu t2=>h.JE.kept (f _ af (h.mv.free k j) u) (f _ af (h.mv.free s q) t2),λt=>?_,λt=>⟨bg h.row λx a=>f x (aA h.row x a).1 (h.rf x a) (t x a),λx a=>i x (aA h.row x a).1 (h.rf x a)⟩,λt=>⟨bg h.ed λx a=>f x (aA h.ed x a).1 (h.ef x a) (t x a),λx a=>i x (aA h.ed x a).1 (h.ef x a)⟩⟩;obtain⟨x,a⟩:=h.src;exact⟨x,a.kept (f _ af (h.mv.free c1 c2) t)⟩
structure sG(by':Bool)(out:Name)(es:List aJ)(most:Nat)(many:Bool)(rs:List yB)(i:Nat):Prop where
 nm:rs.map (·.1)=(kk rs.length).map (AU many out)
 at':i=min es.length (rs.length*most)
 each:∀p∈rs,aH by' p.2=p.2
 all:aH by' (e9 rs)=aH by' (es.take i)
 len:lens rs<=i
 one:many=J0->rs.length<=1
 pos:0<rs.length->0<es.length
 top:rs.length<=51
def MQ(n e db h f c g:Nat)(by':Bool)(w:KX)(o:ay)(d:Dsk)(L:aL)(b:Name)(es:List aJ)(most:Nat)(a:Bool)(v:J3)(wr:KX):Prop:=
 ∃rs i o' d',sG by' b es most a rs i/\qg n e db h f c g by' w o d es.length (if a=Jd then rs.length else 0) i v (rs.map (·.1)) (.slice KK 0 0) [] wr o' d' (eI rs L)
def uu(n f db g i h:Nat)(by':Bool)(w:KX)(o:ay)(d:Dsk)(L:aL)(a:Name)(es:List aJ)(e:Lp)(w':KX):Prop:=
 ∃v c d' o' L',e=Mk (Ly #[v,Kx Mm ((c:Nat):Int)])/\Moved (λx=>x=h\/x=g) n f db w o d w' o' d' L'/\(∀x,¬jN a x->aI L' x=aI L x) /\
  ((c=0/\∃rs r,L'=eI rs L/\qQ by' es rs/\((∃x,rs=[(a,x)])\/(2<=rs.length/\48<es.length/\∀p∈rs,∃k,k<r/\p.1=eu k))/\r<=rs.length/\rs.length<=51/\dC w' g f i r by'/\bT w' v (rs.map (·.1))/\∀b,v.ownBlock=IT b->o' b=KK/\w.heap.size<=b)\/lM d d' (need L+8*es.length) c)
theorem BX(c:Bool)(d:Name)(r:Nat)(f:c=J0->r<=1) :
 ((kk r).map (AU c d)).Nodup/\(r<=51->∀x∈(kk r).map (AU c d),jN d x):=by
 constructor
 .cases c with
  |true=>exact List.pairwise_map.2 (List.nodup_range.imp (λ{a b}h e=>h (AR e)))
  |false=>
    have:=f rfl;match r,this with
    |0,_=>exact List.Pairwise.nil
    |1,_=>exact List.pairwise_singleton _ _
 .intro j x i;obtain⟨k,g,rfl⟩:=gl.1 i;rw[j3]at g;cases c with
  |true=>exact .inr ⟨k,af,rfl⟩
  |false=>exact .inl rfl
theorem PY(a:Bool)(b:Name)(r:Nat)(c:a=J0->r=0):AU a b r ∉ (kk r).map (AU a b):=by
 intro f;obtain⟨k,d,e⟩:=gl.1 f;rw[j3]at d;cases a with
 |true=>have:=AR e;omega
 |false=>have:=c rfl;omega
theorem sG.fin{by':Bool}{b:Name}{es:List aJ}{M:Nat}{a:Bool}{rs:List yB}{i:Nat}(h:sG by' b es X a rs i)(r:X=min es.length M)(l:48<=M)(o:a=Jd↔M<es.length)(hi:i=es.length)(t:0<es.length) :
 qQ by' es rs/\((∃x,rs=[(b,x)])\/(2<=rs.length/\48<es.length/\∀p∈rs,∃k,k<(if a=Jd then rs.length else 0)/\p.1=eu k)):=by
 have j:=h.at';refine⟨⟨h.each,by rw[h.all,ey af],Nm h.len,by rw[h.nm];exact(BX a b _ h.one).1⟩,?_⟩;cases a with
 |true=>
   have s:=o.1 rfl;obtain rfl:X=M:=af
   refine .inr ⟨?_,af,λp m=>?_⟩
   .rcases lb rs.length 2 with g | g
    .have c:rs.length=0\/rs.length=1:=af;rcases c with c | c<;>rw[c]at j<;>omega
    .exact g
   .have d:=List.mem_map_of_mem (f:=(·.1)) m;rw[h.nm]at d;obtain⟨q,n,e⟩:=gl.1 d;exact⟨q,j3.1 n,e.symm⟩
 |false=>
   match rs,h with
   | [],_=>simp at j;omega
   | [p],h=>exact .inl ⟨p.2,by have e:=(List.cons.inj h.nm).1;rw[show b=p.1 from e.symm]⟩
   |_::_::_,h=>have:=h.one rfl;simp at this
theorem sG.next{by':Bool}{b:Name}{es:List aJ}{M:Nat}{a:Bool}{rs:List yB}{i k:Nat}(h:sG by' b es X a rs i)(u:X=min es.length M)(j:48<=M)(v:es.length<=2400)(l:a=Jd↔M<es.length)(w:k=min X (es.length-i))(x:0<k\/es.length=0) :
 rs.length<51/\(a=J0->rs.length=0)/\(0<es.length->sG by' b es X a (rs++[(AU a b rs.length,aH by' ((es.drop i).take k))]) (i+k)):=by
 have q:=h.at';have f:a=J0->rs.length=0:=λe=>by
  have m:=h.one e;have n:=h.pos;have t:¬M<es.length:=λg=>by rw[l.2 g]at e;cases e
  rcases qp rs.length with g | g
  .exact g
  .have s:rs.length=1:=af;have:=n g;rw[s]at q;omega
 have d:rs.length<51:=by
  cases a with
  |false=>have:=f rfl;omega
  |true=>
    have m:=l.1 rfl;obtain rfl:X=M:=af
    have:=Nat.mul_le_mul_left rs.length j;omega
 have r:es.take (i+k)=es.take i++(es.drop i).take k:=by rw[List.take_add]
 refine⟨d,f,λc=>⟨?_,?_,λp c=>?_,?_,?_,λe=>?_,λ_=>c,by rw[eh];exact d⟩⟩
 .rw[k8,h.nm,eh,lr,List.range_succ,k8];rfl
 .rw[eh,lr,Nat.add_mul,Nat.one_mul];generalize rs.length*X=P at *;omega
 .rcases hS.1 c with c | c
  .exact h.each p c
  .rw[kj.1 c];exact mQ _ _
 .rw[zm,r,show e9 [(AU a b rs.length,aH by' ((es.drop i).take k))]=aH by' ((es.drop i).take k) by simp[e9]];exact TS h.all (mQ _ _)
 .have o:=cq by' ((es.drop i).take k)
  rw[et]at o;rw[BW,show lens [(AU a b rs.length,aH by' ((es.drop i).take k))]=(aH by' ((es.drop i).take k)).length by simp[lens]];have:=h.len;omega
 .rw[eh,f e];exact cg _
theorem MR(HW:aV){m:Nat}(HS:um m)(h:aU w pb db n o d L)(hn:8<=n)(hj:dC w jb pb bz 0 by')(mD:o jb=KK)(GJ:o bz=KK)(i6:bz≠jb){es:List aJ}{fl:Bool}{vH j:Name}(hL:aI L vH=IT (az es fl))(pI:bK w cb sb 0 es.length J)(ff:aM w sb pb vH 20)(TH:o cb=KK)(ee:o sb=KK)(fI:cb≠jb)(kw:cb≠bz)(ld:sb≠jb)(ke:sb≠cb)(ce:b6 j=Jd)(dq:aI L j=KK)(F9:∀k,aI L (eu k)=KK)(_hto:∀k,j≠eu k)(hm:es.length<=m)(hN:es.length<=2400):K1 prog 152 #[ptrTo jb,ptrTo cb,.string j] w (uu n pb db jb bz cb by' w o d L j es):=by
 have VM:n<=4096:=by obtain⟨fb,mb,l,hand,mf,hp,rfl,-⟩:=h;exact hp.most
 have uZ:=ae (js h);obtain⟨M,hM⟩:∃M:Nat,M=(n-4)*12:=⟨_,rfl⟩;obtain⟨N,V⟩:=ac es.length;obtain⟨X,hX⟩:=ac (min N M);obtain⟨a,lE⟩:=ac (decide (M<N));have O:Lk (X=min N M/\48<=M/\N<=2400/\(a=Jd↔M<N)/\N=es.length):=ae ⟨hX,af,af,by rw[lE,decide_eq_true_eq],V⟩;have MS:Lk (∀{made p v nm l c W o' d' rs},qg n pb db jb bz cb sb by' w o d N made p v nm l c W o' d' (eI rs L)->(∀x∈rs.map (·.1),jN j x)->∀x,es[p]? = IT x->K1 prog 200 #[ptrTo cb] W (Ed n pb db W o' d' (eI rs L) cb sb p N x)):=ae (λr nF x f=>by
  obtain⟨_,gE⟩:=r.src;have hi:=aK f;rw[bk hi]at f;obtain rfl:=Option.some.inj f;rw[V]at gE ⊢;refine vY HW r.mv.bh (ff.abE r.mv ee (λe=>e.elim ke ld)) (r.mv.free ff.lt ee) gE (r.mv.free pI.lt TH) (fl:=fl) ?_ hi;rw[fJ,hL];intro f;rcases nF _ f with e |⟨k,_,e⟩
  .rw[e,dq]at hL;cases hL
  .rw[e,F9]at hL;cases hL)
 have XV:Lk (∀{made p v nm l c W o' d' rs}(D:Name),qg n pb db jb bz cb sb by' w o d N made p v nm l c W o' d' (eI rs L)->b6 D=Jd->aI (eI rs L) D=KK->c.length<=es.length ->
  Calls prog 201 #[ptrTo jb,.string D,l] W (MK (λx=>l.ownBlock=IT x) n pb db W o' d' (eI rs L) D (aH by' c) (need (eI rs L)+4*c.length))):=ae (λD r gu oE hc=>
  JN HW HS r.mv.bh r.JE (r.mv.free hj.lt.1 mD) (r.mv.free hj.lt.2 GJ) gu oE r.ed (λx f=>by have t:=aD r.ed x f;have:=hj.lt;exact⟨r.ef x f,af,af⟩) af af)
 have FT:Lk (qg n pb db jb bz cb sb by' w o d N 0 0 (.slice KK 0 0) [] (.slice KK 0 0) [] w o d L):=ae ⟨Moved.refl _ h,hj,by rw[V];exact⟨_,pI⟩,gp w _ _ 1,λx f=>(by cases f),gp w _ _ 4,λx f=>(by cases f),⟨hj.lt.1,mD⟩,⟨hj.lt.2,GJ⟩,pI.lt,TH⟩;have pW:=ae (show bz≠jb/\cb≠jb/\cb≠bz from⟨i6,fI,kw⟩);have Me:Lk (∀rs i,sG by' j es X a rs i->(∀x∈rs.map (·.1),jN j x)/\(∀x,¬jN j x->aI (eI rs L) x=aI L x)/\need (eI rs L)<=need L+4*i):=ae (λrs i hr=>by
  have t:∀x∈rs.map (·.1),jN j x:=by rw[hr.nm];exact(BX a j _ hr.one).2 hr.top
  refine⟨t,λx f=>fJ _ _ _ (λhm=>f (t x hm)),?_⟩;have:=xR rs L;have:=hr.len;omega)
 have ol:Lk (∀rs i,sG by' j es X a rs i->(a=J0->rs.length=0)->rs.length<51->aI (eI rs L) (AU a j rs.length)=KK/\b6 (AU a j rs.length)=Jd/\jN j (AU a j rs.length)):=ae (λrs i hr t h2=>by
  refine⟨?_,?_⟩
  .rw[fJ]
   .cases a
    .exact dq
    .exact F9 _
   .rw[hr.nm];exact PY a j _ t
  .cases a
   .exact⟨ce,.inl rfl⟩
   .exact⟨MP af,.inr ⟨_,af,rfl⟩⟩)
 obtain⟨⟨-,-,jj⟩,-⟩:=pI.cells;rw[<- V]at jj;obtain⟨Xx,-⟩:=hj.cells;have tW:cf Mm ((n:Int)-4)=n-4:=ax af af;have me:cf Mm (((n:Int)-4)*12)=(M:Int):=by rw[ax]<;>omega
 clear h hj mD GJ hL pI ff TH ee ld ke ce dq F9 _hto hm i6 fI kw hM hX lE V hN;unfold ptrTo at *;go_enter func152,ntmps152;go_wp2_with fail;go_call uZ.out as e w'⟨rfl,rfl⟩;go_upto_if 27 with fail
 go_cut [8] from 22 to 31 (λv wx=>v=Kx Mm (X:Int)/\w=wx)
 case first=>
  by_cases S:(N:Int)<=M
  .have hd:decide ((N:Int)<=M)=true:=decide_eq_true S;have en:(X:Int)=N:=Nm O.out;go_wp2;go_meet
   exact⟨by rw[en],rfl⟩
  .have hd:decide ((N:Int)<=M)=false:=decide_eq_false S;have en:(X:Int)=M:=Nm O.out;go_wp2;go_meet
   exact⟨by rw[en],rfl⟩
 case rest=>
  obtain⟨rfl,rfl⟩:=hcut;clear tW me jj uZ Xx;go_wp2_with fail;go_loopw [9] (λv wr=>MQ n pb db jb bz cb sb by' w o d L j es X a v wr) (λ_ wr=>sD wr cb N)
  case atStart=>exact⟨[],0,o,d,⟨rfl,ai,λp hp=>(by cases hp),by simp[e9],em _,λ_=>em _,λg=>absurd g (Nat.lt_irrefl 0),em _⟩,by rw[<- O.out.2.2.2.2];cases a<;>exact FT.out⟩
  case round=>
   generalize u9=v at *;generalize wr=W1 at *;obtain⟨rs,i,H,I,hr,r⟩:=hrel;rw[<- O.out.2.2.2.2]at r;have U:=ae hr;have ko:=ae r;have PZ:Lk (sD W1 cb N=N-i/\i<=N):=ae ⟨by obtain⟨_,h⟩:=r.src;exact sF h,No hr.at' O.out.2.2.2.2⟩;clear hr r FT;generalize lP:(if a=Jd then rs.length else 0)=jm at *;have aE:=ae lP;clear lP;go_upto_block 2 with fail
   go_cut [10] from 32 to 53 (λlv W=>∃(k:Nat)(K:Option Addr)(E:Nat)(o':ay)(d':Dsk),lv=.slice K k E/\k=min X (N-i)/\Lk (qg n pb db jb bz cb sb by' w o d N jm (i+k) v (rs.map (·.1)) (.slice K k E) ((es.drop i).take k) W o' d' (eI rs L)))
   case first=>
    go_wp2_with fail;go_loopw [10] (λlv W=>∃(k:Nat)(K:Option Addr)(E:Nat)(o':ay)(d':Dsk),lv=.slice K k E/\k<=X/\i+k<=N/\Lk (qg n pb db jb bz cb sb by' w o d N jm (i+k) v (rs.map (·.1)) (.slice K k E) ((es.drop i).take k) W o' d' (eI rs L))) (λ_ W=>sD W cb N)
    case atStart=>exact⟨0,KK,0,H,I,rfl,em _,PZ.out.2,ko⟩
    case round=>
     generalize wr=W2 at *;obtain⟨k,K,E,z,A,rfl,hk,oR,s⟩:=hrel;have fV:Lk (sD W2 cb N=N-(i+k)):=ae (by obtain⟨_,h⟩:=s.out.src;exact sF h);clear ko;by_cases qe:k<X
     .by_cases kh:i+k<N
      .have VN:i+k<es.length:=Nm O.out;obtain⟨y,hy⟩:∃y,es[i+k]? = IT y:=⟨_,bk VN⟩;have nT:Lk ((es.drop i).take k++[y]=(es.drop i).take (k+1)/\((es.drop i).take k).length=k):=ae ⟨(by rw[List.take_add_one,List.getElem?_drop,hy];rfl),by rw[et,ie];omega⟩
       have aR:=ae (MS.out s.out (Me.out _ _ U.out).1 y hy);clear VN hy;unfold ptrTo at aR;go_wp2_with fail;go_call aR.out as e W3⟨c3,F,G,rfl,fD,Ic,hs3⟩;have fH:=ae (s.out.mv.trans fD (λx _ e=>.inl e));obtain⟨VK,-,iS,TI⟩:=s.out.step (T:=(·=cb)) fH.out (λx t h2=>fD.free t h2) (λx t h2 Q=>fD.block t h2 Q);have mx:=ae (VK (λe=>pW.out.2.1 e.symm) (λe=>pW.out.2.2 e.symm));have CR:=ae (iS (λx f e=>No (aD s.out.row x f) s.out.old));have XW:=ae (TI (λx f e=>No (aD s.out.ed x f) s.out.old));have pN:=ae s.out.old;have mT:=ae s.out.mv.on.bU;have BL:=ae Ic;have OV:=ae hs3;have nn:w.heap.size<=W3.heap.size:=fH.out.size;clear fD Ic hs3 VK iS TI aR s;by_cases bd:c3=0
       .subst bd;have FL:=ae (OV.out rfl);obtain⟨-,⟨k0,k1,k2,k3⟩,-⟩:=FL.out.cells;go_wp2_with (at_builtin;refine bR rfl _ _ rfl w.heap.size _ _ rfl XW.out.1 y 1 rfl (by rw[nT.out.2];have:=O.out;omega) nn ?_);intro l4 W4 al CW;obtain⟨fZ,TT,Vw,zW⟩:=CW.moved fH.out (λx f=>⟨XW.out.2 x f,aD XW.out.1 x f⟩);rw[nT.out.1]at al;obtain⟨a4,c4,rfl⟩:=aw al;have ci:((es.drop i).take (k+1)).length=k+1:=by rw[<- nT.out.1,eh,nT.out.2];rfl
        rw[ci]at al TT ⊢;have Q:qg n pb db jb bz cb sb by' w o d N jm (i+k+1) v (rs.map (·.1)) (.slice K k E) ((es.drop i).take k) W3 G F (eI rs L):=⟨fH.out,mx.out,⟨_,FL.out⟩,CR.out.1,CR.out.2,XW.out.1,XW.out.2,pN.out⟩
        obtain⟨gt,lw,JU,-⟩:=Q.step (T:=λx=>(fz K k E).ownBlock=IT x) fZ (λ_ _ e=>e) (λx t _ Q=>Vw x t Q);have u:=λx f=>aD XW.out.1 x f;have q:=pN.out;have cE:Lk (qg n pb db jb bz cb sb by' w o d N jm (i+(k+1)) v (rs.map (·.1)) (.slice a4 (k+1) c4) ((es.drop i).take (k+1)) W4 G F (eI rs L)):=ae ⟨fZ,gt (λe=>Nm (u _ e)) (λe=>Nm (u _ e)),lw (λe=>Nm (u _ e)),(JU (λx f e=>cr CR.out.1 XW.out.1 ag x f e)).1,CR.out.2,al,λx f=>(TT x f).1,q⟩;clear fZ TT Vw CW al k0 k1 k2 k3 Q gt lw JU u q ci;go_wp2;go_roundw
        case rel=>exact⟨k+1,a4,c4,G,F,rfl,af,af,cE⟩
        case measure=>obtain⟨_,h⟩:=cE.out.src;rw[fV.out,sF h];omega
       .have PE:¬(c3:Int)=0:=af;have pe:(c3 == 0)=false:=by simpa using bd
        have HQ:Lk (uu n pb db jb bz cb by' w o d L j es (Mk (Ly #[v,c3])) W3):=ae (by obtain⟨-,P,g3⟩:=Me.out _ _ U.out;have:=U.out.top;have:=U.out.pos;have f:=O.out;exact⟨_,c3,F,G,_,rfl,fH.out,P,.inr (((BL.out.resolve_left bd).num af).later mT.out)⟩)
        clear bd;go_wp2;go_ret2;exact HQ.out
      .obtain⟨x2,Y⟩:=s.out.src;have Z:=ae (oU Y af);unfold ptrTo at Z;clear Y;go_wp2_with fail;go_call Z.out as e W5⟨rfl,q5,rfl⟩;have cE:Lk (qg n pb db jb bz cb sb by' w o d N jm (i+k) v (rs.map (·.1)) (.slice K k E) ((es.drop i).take k) (W2.drewN q5) z A (eI rs L)):=ae (by have h:=s.out;obtain⟨_,f⟩:=h.src;exact⟨h.mv.drewN q5,h.JE.below (below_drewN aq _),⟨_,f.below (below_drewN aq _)⟩,h.row,h.rf,h.ed,h.ef,h.old⟩)
       clear Z s;go_wp2;go_meet
       exact⟨k,K,E,z,A,rfl,af,cE⟩
     .have oS:¬((k:Int)<X):=af;go_wp2;go_meet
      exact⟨k,K,E,z,A,rfl,af,s⟩
   case rest=>
    obtain⟨k,K,E,z,A,rfl,hk,s⟩:=hcut;generalize wc=W2 at *;obtain⟨x2,Y⟩:=s.out.src;obtain⟨⟨-,-,c2⟩,-⟩:=Y.cells;have HK:=ae hk;clear Y ko MS;by_cases am:k=0/\0<N
    .obtain⟨rfl,Wo⟩:=am;have pu:(N:Int)>0:=af;have HQ:Lk (uu n pb db jb bz cb by' w o d L j es (Mk (Ly #[v,Kx Mm 0])) W2):=ae (by
      have f:=O.out;have Ck:=PZ.out;have hl:=HK.out;obtain⟨g1,P⟩:=U.out.fin (M:=M) (by rw[<- f.2.2.2.2];exact f.1) f.2.1 (by rw[<- f.2.2.2.2];exact f.2.2.2.1) af af;rw[aE.out]at P;have r:=s.out;refine⟨v,0,A,z,_,rfl,r.mv,(Me.out _ _ U.out).2.1,.inl ⟨rfl,rs,jm,rfl,g1,P,by rw[<- aE.out];split<;>omega,U.out.top,r.JE,bT.Ig r.row (λe=>?_),λb u=>⟨r.rf b u,aD r.row b u⟩⟩⟩;have e0:rs.length=0:=by simpa using congrArg List.length e
      rcases P with⟨x,g⟩|⟨g,_⟩
      .rw[g]at e0;cases e0
      .omega)
     clear hk;go_wp2;go_ret2;exact HQ.out
    .have Vz:Lk (rs.length<51/\(a=J0->rs.length=0)/\(0<es.length->sG by' j es X a (rs++[(AU a j rs.length,aH by' ((es.drop i).take k))]) (i+k))):=ae (by obtain⟨x1,x2,x3,x4,x5⟩:=O.out;rw[x5]at x1 x3 x4 hk am;exact U.out.next x1 x2 x3 x4 hk af)
     have GK:0<k\/N=0:=af;have HF:=ae (ol.out _ _ U.out Vz.out.2.1 Vz.out.1);obtain⟨NM,S⟩:=ac (AU a j rs.length);rw[<- S]at HF Vz;have XX:=ae S;clear S hk;go_upto_region 12 with fail
     go_cut [63] from 54 to 62 (λb W=>b=.bool J0/\W2=W)
     case first=>
      by_cases CX:k=0
      .have kd:decide (0<N)=false:=decide_eq_false af;have mh:((k:Int) == 0)=true:=by simp[CX]
       clear GK am CX;go_wp2;go_meet
       exact⟨rfl,rfl⟩
      .have mh:((k:Int) == 0)=false:=by simp[CX]
       clear GK am CX;go_wp2;go_meet
       exact⟨rfl,rfl⟩
     case rest=>
     obtain⟨rfl,rfl⟩:=hcut;go_upto_if 71 with fail
     go_cut [13] from 66 to 73 (λnv W=>nv=.string NM/\Lk (qg n pb db jb bz cb sb by' w o d N (if a=Jd then rs.length+1 else 0) (i+k) v (rs.map (·.1)) (.slice K k E) ((es.drop i).take k) W z A (eI rs L)))
     case first=>
      cases B:a
      .have CQ:¬(N:Int)>X:=by have:=O.out;rw[B]at this;simp at this;omega
       have nG:Lk (NM=j/\jm=0):=ae (by rw[XX.out,<- aE.out,B];exact⟨rfl,rfl⟩);have du:=ae B;clear B;go_wp2;go_meet
       exact⟨by rw[nG.out.1],by rw[nG.out.2]at s;rw[du.out];exact s⟩
      .have CQ:(N:Int)>X:=by have:=O.out;rw[B]at this;simp at this;omega
       have nG:Lk (NM=eu rs.length/\jm=rs.length):=ae (by rw[XX.out,<- aE.out,B];exact⟨rfl,rfl⟩);have du:=ae B;clear B;have aR:=ae (Ih s.out.JE (by rw[nG.out.2];have:=Vz.out.1;omega) pW.out.1);unfold ptrTo at aR;go_wp2_with fail;go_call aR.out as e W6⟨rfl,hj6,ht6⟩;have iF:Lk (qg n pb db jb bz cb sb by' w o d N (rs.length+1) (i+k) v (rs.map (·.1)) (.slice K k E) ((es.drop i).take k) W6 z A (eI rs L)):=ae (by have h:=s.out;have hm:=h.mv.turned (h.mv.free h.old.1.1 h.old.1.2) (.inl (.inr rfl)) ht6;obtain⟨-,P,g3,g4⟩:=h.step (T:=(·=jb)) hm (λ_ _ e=>e) (λx t _ Q=>ht6.block x t Q);have q:=h.old;have g5:=g3 (λx f e=>Nm (aD h.row x f));have g6:=g4 (λx f e=>Nm (aD h.ed x f));rw[nG.out.2]at hj6;exact⟨hm,hj6,P pW.out.2.1,g5.1,g5.2,g6.1,g6.2,h.old⟩)
       rw[nG.out.2,<- nG.out.1];clear hj6 ht6 aR;go_wp2;go_meet
       exact⟨rfl,by rw[du.out];exact iF⟩
     case rest=>
      obtain⟨rfl,iF⟩:=hcut;generalize wc=W6 at *;clear s c2;generalize el:(es.drop i).take k=C at *;have dl:Lk (C.length<=es.length/\C.length<=k):=ae ⟨by rw[<- el,et,ie];omega,by rw[<- el,et];omega⟩;clear el;have kl:(rs.map (·.1)).length<=100000:=by rw[dj];have:=Vz.out.1;omega
      have i7:w.heap.size<=W6.heap.size:=iF.out.mv.size;go_wp2_with (at_builtin;refine p9 rfl _ _ rfl w.heap.size _ _ rfl iF.out.row NM 1 rfl kl i7 ?_);intro v7 W7 li i8;have lL:Lk (qg n pb db jb bz cb sb by' w o d N (if a=Jd then rs.length+1 else 0) (i+k) v7 (rs.map (·.1)++[NM]) (.slice K k E) C W7 z A (eI rs L)):=ae (by have h:=iF.out;obtain⟨yC,nl,m8,pt⟩:=i8.moved h.mv (λx f=>⟨h.rf x f,aD h.row x f⟩);obtain⟨g1,P,-,g4⟩:=h.step (T:=λx=>v.ownBlock=IT x) yC (λ_ _ e=>e) (λx t _ Q=>m8 x t Q);have u:=λx f=>aD h.row x f;have q:=h.old;have g5:=g4 (λx f e=>cr h.ed h.row ag x f e);exact⟨yC,g1 (λe=>Nm (u _ e)) (λe=>Nm (u _ e)),P (λe=>Nm (u _ e)),by simpa using li,λx f=>(nl x f).1,g5.1,g5.2,q⟩)
      have aR:=ae (XV.out NM lL.out HF.out.2.1 HF.out.1 dl.out.1);clear li i8 kl i7 iF XV;unfold ptrTo at aR;go_wp2_with fail;go_call aR.out as e W8⟨c8,d8,o8,L8,rfl,Sc,LM,ajO⟩;have vR:=ae (lL.out.mv.trans Sc (λx f e=>Nm (aD lL.out.ed x e)));obtain⟨g1,P,g3,-⟩:=lL.out.step (T:=λx=>(fz K k E).ownBlock=IT x) vR.out (λx t h2=>Sc.free t h2) (λx t h2 Q=>Sc.block t h2 Q);have u:=λx f=>aD lL.out.ed x f;have q:=lL.out.old;have eS:=ae (g1 (λe=>Nm (u _ e)) (λe=>Nm (u _ e)));have de:=ae (P (λe=>Nm (u _ e)));have R:=ae (g3 (λx f e=>cr lL.out.row lL.out.ed ag x f e));have mw:=ae q;have io:=ae LM;have mm:=ae ajO;clear Sc LM ajO aR g1 P g3 u q;by_cases hc:c8=0
      .subst hc;obtain⟨x8,ks⟩:=de.out;obtain⟨⟨-,-,c2⟩,-⟩:=ks.cells;clear ks;have gx:L8=eI (rs++[(NM,aH by' C)]) L:=by
        rcases io.out with⟨_,e⟩| e
        .rw[Er];exact e
        .exact absurd rfl e.ne
       rw[gx]at vR;clear gx;have kE:(if a=Jd then rs.length+1 else 0)=if a=Jd then (rs++[(NM,aH by' C)]).length else 0:=by rw[eh];rfl
       rw[kE]at eS;clear kE;have Ck:rs.map (·.1)++[NM]=(rs++[(NM,aH by' C)]).map (·.1):=by rw[k8];rfl
       rw[Ck]at R;clear Ck;by_cases kd:N=0
       .have ph:(N:Int)=0:=af;have HQ:Lk (uu n pb db jb bz cb by' w o d L j es (Mk (Ly #[v7,Kx Mm 0])) W8):=ae (by
         have f:=O.out;have fm:a=false:=by cases h:a;rfl;rw[h]at f;simp at f;omega
         have jC:rs=[]:=jJ (Vz.out.2.1 fm);have hC:C=[]:=jJ (Nm dl.out);have mu:es=[]:=jJ af;have rF:NM=j:=by rw[XX.out,fm];rfl
         subst jC hC mu rF fm;have co:aH by' []=[]:=jJ (by simpa using cq by' [])
         refine⟨v7,0,d8,o8,_,rfl,vR.out,λx f=>fJ _ _ _ (λlK=>f ?_),.inl ⟨rfl,_,0,rfl,⟨by simp[co],by simp[e9,co],by simp[lens,co],ai⟩,.inl ⟨_,rfl⟩,em _,ai,eS.out,bT.Ig R.out.1 ai,λb u=>⟨R.out.2 b u,aD R.out.1 b u⟩⟩⟩;rw[kj.1 lK];exact HF.out.2.2)
        clear kd;go_wp2;go_ret2;exact HQ.out
       .have pr:¬(N:Int)=0:=af;have LJ:0<k:=af;have HH:Lk (MQ n pb db jb bz cb sb by' w o d L j es X a v7 W8/\sD W8 cb N=N-(i+k)):=ae ⟨⟨_,i+k,o8,d8,Vz.out.2.2 (Nm O.out),by rw[<- O.out.2.2.2.2];exact⟨vR.out,eS.out,de.out,R.out.1,R.out.2,gp _ _ _ 4,λx f=>(by cases f),mw.out⟩⟩,by obtain⟨_,h⟩:=de.out;exact sF h⟩;have JV:=ae (show i+k<=N/\0<k by have:=HK.out;have:=PZ.out;omega);go_wp2;go_roundw
        case rel=>exact HH.out.1
        case measure=>rw[PZ.out.1,HH.out.2];have:=JV.out;omega
      .have pm:¬(c8:Int)=0:=af;have HQ:Lk (uu n pb db jb bz cb by' w o d L j es (Mk (Ly #[v7,c8])) W8):=ae (by
        obtain⟨-,P,g3⟩:=Me.out _ _ U.out;have t:=dl.out;have h2:=U.out.pos;have Q:=U.out.len;have h4:=HK.out;have h5:=PZ.out;have h6:=xR rs L;have h7:=O.out;refine⟨_,c8,d8,o8,_,rfl,vR.out,λx f=>by rw[mm.out x (λe=>f (e▸HF.out.2.2)),P x f],.inr ?_⟩;rcases io.out with⟨e,_⟩| e
        .exact absurd e hc
        .exact(e.mono af).later lL.out.mv.on.bU)
       clear hc;go_wp2;go_ret2;exact HQ.out
end
section
variable {w:KX}{pb db n cb sb jb bz made:Nat}{by':Bool}{name:Name}{o o':ay}{d d':Dsk}{L L':aL}
def rL(S:Nat->Prop)(n f db:Nat)(w:KX)(o:ay)(d:Dsk)(L:aL)(a:Name)(b:List aJ)(N:Nat)(e:Lp)(w':KX):Prop:=
 ∃c d' o' L',e=Mk (Kx Mm ((c:Nat):Int))/\Moved S n f db w o d w' o' d' L'/\(∀x,¬jN a x->aI L' x=aI L x)/\((c=0/\∀x,aI L' x=aI (aX L a (az b Jd)) x)\/lM d d' (need L+8*N) c)
def eW(m:Nat):Prop:=∀{w:KX}{pb db n cb sb jb bz:Nat}{by':Bool}{o:ay}{d:Dsk}{L:aL},aU w pb db n o d L->8<=n->dC w jb pb bz 0 by'->o jb=KK->o bz=KK->bz≠jb ->
 ∀{es:List aJ}{fl:Bool}{a out:Name}{b:aJ},aI L a=IT (az es fl)->bK w cb sb 0 es.length b->aM w sb pb a 20->o cb=KK->o sb=KK->cb≠jb->cb≠bz->sb≠jb->sb≠cb ->
 b6 out=Jd->aI L out=KK->(∀k,aI L (eu k)=KK)->(∀k,out≠eu k)->es.length<=m ->
 Calls prog 83 #[ptrTo jb,ptrTo cb,.string out] w (rL (λx=>x=cb\/x=jb) n pb db w o d L out (aH by' es) es.length)
theorem sH(k:aV)(h:aU w pb db n o d L){ps:List Pg}{fl:Bool}(i:aI L name=IT (.inl (ps,fl))):K1 prog 45 #[ptrTo pb,.string name] w (ll (λ_=>False) n pb db w o d L (aX L name (.inl (ps,Jd)))):=
 (TA k h i).mono λ_ _ ⟨c,d',o',f,j,b,a,g,e⟩=>⟨c,d',o',f,lj j b a g,e⟩
end
def TU:Option Nat->J3
 |none=>.pointer KK
 |some b=>ptrTo b
def jO(w:KX)(g:Nat)(a:List Nat):Prop:=Holds TU w g 0 (a.map IT).toArray
theorem zq:(prog.info? 172).map (λi=>(i.zero,i.size,i.bytes))=IT (IT (.pointer KK),1,8):=ah
section
variable {w:KX}{g cap:Nat}
theorem zr[Inhabited α](enc:α->J3)(w:KX)(a b:Nat)(d:Array α){x:Nat}(c:x≠a):(putRow enc w a b d).heap[x]? = w.heap[x]? := by grind [putRow,mapBlock]
theorem MT[Inhabited α](enc:α->J3)(w:KX)(q a b:Nat)(d:Array α):aN (·=a) w (putRow enc (Sort.ahead w q) a b d):=
 ⟨rfl,rfl,rfl,ai,λx _ c=>zr enc (Sort.ahead w q) a b d c⟩
theorem jO.cell(h:jO w g i){k:Nat}(a:k<i.length):w.cell? ⟨g,k,KK⟩=IT (ptrTo i[k]):=by have:=(h k M2).1;grind [TU]
theorem jO.kept(h:jO w g i)(b:w'.heap[g]? = w.heap[g]?):jO w' g i:=by intro j a;obtain⟨d,c⟩:=h j a;grind [World.cell?,World.frozen?]
theorem jO.Ig{base:Nat}(k:w.ownsRow base 172 1 (.slice g i.length cap) i.length (i.map ptrTo)):jO w g i/\i.length<=cap/\cap<=maxLen/\base<=g:=by
 obtain⟨s,⟨e,q⟩|⟨r,c,a,m,h,b,l,o,t,n⟩⟩:=k
 .cases e
 .cases m;refine⟨λj d=>?_,l,o,h⟩;have f:j<i.length:=M2;rw[j0];refine⟨?_,aO b _⟩;rw[au b,getElem!_pos _ j d];have p:(a.toList.take (i.length*1))[j]? = (i.map ptrTo)[j]? := by rw[n]
  grind [TU]
theorem P0(h:jO w g i)(t:i.length<=cap)(v:cap<=maxLen){k:Nat}(s:k<i.length):K1 prog 205 #[.slice g i.length cap,k,(k+1:Nat)] w λe w'=>
  e=Mk (.slice g (i.length-1) cap)/\jO w' g (i.eraseIdx k)/\aN (·=g) w w':=by
 obtain⟨i0,m,n,a,d⟩:=info_parts zq;have b:((i.map IT).toArray).size=i.length:=ai;have:=AnyE.slices_Delete (P:=prog) (ρ:=Tryz.delSrc_ren) { Tryz.delSrc with } TU (by intro x;cases x<;>rfl) KK (λw=>Tryz.zeroValue172 w) i0 m a g 0 cap k (k+1) (i.map IT).toArray w h af Nd af af;rw[b]at this;refine Calls.mono this ?_;rintro e w'⟨u,q,rfl⟩;refine⟨M2,?_,MT _ _ _ _ _ _⟩;have l:((i.map IT).toArray.toList.take k++(i.map IT).toArray.toList.drop (k+1)++List.replicate (k+1-k) KK)=(i.eraseIdx k).map IT++[KK]:=by rw[show k+1-k=1 by omega,C4];simp
 rw[l];have c:=holds_putRow TU (Sort.ahead w q) g 0 (i.map IT).toArray ((i.eraseIdx k).map IT++[KK]).toArray (holds_ahead TU w q g 0 _ h) M2;intro j o;have f:j<(i.eraseIdx k).length:=M2;obtain⟨p,r⟩:=c j M2;grind
theorem zt{rest:List Oper}{a:Act}(d:h.guard=KK)(s x:Operand)(i:h.op=.call { callee:=.builtin .append,args:=#[s,x],argTypes:=#[276,276] })(base:Nat)(v:J3)(l:List Nat)(m:a.eval s=v)(b:w.ownsRow base 172 1 v l.length (l.map ptrTo))(y:Nat)(c:Nat)(g:a.eval x=.slice w.heap.size 1 c)(p:l.length<=100000)(e:base<=w.heap.size)(k:∀v' w',w'.ownsRow base 172 1 v' (l++[y]).length ((l++[y]).map ptrTo)->gP v (w.alloc (Mi #[ptrTo y] 172)) w' v'->wpList prog ops Q rest (a.put h.dst v') w') :
 wpList prog ops Q (h::rest) a (w.alloc (Mi #[ptrTo y] 172)):=by
 refine ct d s x 276 i base 172 _ 1 8 Tryz.underlying276 zq rfl ag v l.length (l.map ptrTo) m (World.ownsRow.alloc b _) ⟨w.heap.size,0,KK⟩ 1 c [ptrTo y] g rfl (λj u n=>?_) (by simp[ptrTo,qn]) (by grind [maxLen]) af (by simp;omega) (λv' w' o f=>k v' w' ?_ f)
 .rw[br,j0];simp_all
 grind
end
structure Src where
 cb:Nat
 sb:Nat
 name:Name
 es:List aJ
 pos:Nat
def Src.cur(s:Src):aJ:=(s.es[s.pos-1]?).getD Ei
def Src.left(s:Src):List aJ:=s.es.drop (s.pos-1)
def Src.step(s:Src):Src:={ s with pos:=s.pos+1 }
structure Src.Ok(s:Src):Prop where
 lo:1<=s.pos
 hi:s.pos<=s.es.length
theorem Src.left_eq{s:Src}(h:s.Ok):s.left=s.cur::s.es.drop s.pos:=by grind [Ok.lo,Ok.hi,Src.left,Src.cur,List.drop_eq_getElem_cons]
theorem Src.TV{s:Src}:s.step.left=s.es.drop s.pos:=by rfl
def cU(l:List Src):List aJ:=(l.map Src.left).flatten
theorem MU:cU []=[]:=rfl
theorem oX(a b:List Src):cU (a++b)=cU a++cU b:=by grind [cU]
structure Taken(b:Bool)(all taken:List aJ)(l:List Src):Prop where
 perm:(taken++cU l).Perm all
 il:taken.Pairwise (er b)
 ahead:∀x∈taken,∀y∈cU l,er b x y
 each:∀s∈l,s.left.Pairwise (er b)
 ok:∀s∈l,s.Ok
theorem MV{l:List Src}{x:aJ}:x∈cU l ↔ ∃s∈l,x∈s.left:=by grind [cU]
theorem Taken.least{b:Bool}{all a:List aJ}{l:List Src}(h:Taken b all a l){k:Nat}(i:k<l.length)(f:∀s∈l,er b l[k].cur s.cur):∀y∈cU l,er b l[k].cur y:=by
 intro y g;obtain⟨s,d,c⟩:=MV.1 g;have e:=h.each s d;rw[Src.left_eq (h.ok s d)]at e c;rcases List.mem_cons.1 c with rfl | c
 .grind
 .exact(f s d).trans ((List.pairwise_cons.1 e).1 y c)
theorem TW(l:List α)(k:Nat)(a:k<l.length)(x:α):l.set k x=l.take k++x::l.drop (k+1):=by grind [List.set_eq_take_append_cons_drop]
theorem Taken.go{b:Bool}{all a:List aJ}{l c:List Src}(h:Taken b all a l){k:Nat}(e:k<l.length)(n:∀s∈l,er b l[k].cur s.cur)(j:cU c=cU (l.take k)++(l[k].es.drop l[k].pos++cU (l.drop (k+1))))(i:∀s∈c,s.left.Pairwise (er b))(m:∀s∈c,s.Ok):Taken b all (a++[l[k].cur]) c:=by
 have g:l[k]∈l:=rM e;have f:=h.least e n;have d:cU l=cU (l.take k)++(l[k].cur::(l[k].es.drop l[k].pos)++cU (l.drop (k+1))):=by grind [yN,cU,Src.left_eq,ok]
 have o:(l[k].cur::cU c).Perm (cU l):=by rw[j,d];exact List.perm_middle.symm
 refine⟨?_,?_,?_,i,m⟩
 .rw[o0];refine List.Perm.trans (List.Perm.append_left a ?_) h.perm;exact o
 .grind [il,ahead]
 grind [ahead]
theorem Taken.step{b:Bool}{all a:List aJ}{l:List Src}(h:Taken b all a l){k:Nat}(e:k<l.length)(i:∀s∈l,er b l[k].cur s.cur)(g:l[k].pos<l[k].es.length) :
 Taken b all (a++[l[k].cur]) (l.set k l[k].step):=by
 have d:l[k]∈l:=rM e;have f:∀s∈l.set k l[k].step,s∈l\/s=l[k].step:=λs c=>List.mem_or_eq_of_mem_set c;refine h.go e i ?_ ?_ ?_
 .rw[TW l k e,oX];congr 1
 .intro s c;rcases f s c with c | rfl
  .grind [each]
  .rw[Src.TV];have:=h.each _ d;grind [Src.left_eq,ok]
 .intro s c;rcases f s c with c | rfl
  .exact h.ok s c
  .exact⟨Nat.le_add_left _ _,g⟩
theorem Taken.gone{b:Bool}{all a:List aJ}{l:List Src}(h:Taken b all a l){k:Nat}(d:k<l.length)(e:∀s∈l,er b l[k].cur s.cur)(c:l[k].es.length<=l[k].pos) :
 Taken b all (a++[l[k].cur]) (l.eraseIdx k):=by grind [go,each,ok,oX,List.drop_eq_nil_of_le]
theorem Taken.done{b:Bool}{all a:List aJ}(h:Taken b all a []):iy a=aH b all:=by have c:=h.perm;rw[MU,nw]at c;exact((Av h.il).congr (λx=>c.mem_iff)).eq
theorem P1{b:Bool}{l:List aJ}(h:aH b l=l):l.Pairwise (er b):=by have:=(bM b l).il;rw[h]at this;exact this.imp (λh=>.inl h)
section
variable {S:Nat->Prop}{w:KX}{pb db n base cb sb m g:Nat}{name out:Name}{o o':ay}{d d':Dsk}{L L':aL}{s:Src}{l:List Src}
theorem ja{i N:Nat}{x:aJ}(h:bK w cb p i N x)(a:aM w sb pb name sz):sb≠cb:=by rintro rfl;obtain⟨t,b⟩:=h;obtain⟨d,c⟩:=a;grind
theorem Cy{i N:Nat}{x:aJ}(h:bK w cb p i N x)(b:gA w k m r):k≠cb:=by
 rintro rfl;obtain⟨y,a,e,d⟩:∃y a,eE w k m y a:=by
  rcases b with⟨_,y,h⟩|⟨y,_,h⟩
  .grind
  grind
 obtain⟨t,c⟩:=h;grind
theorem Cz(h:aM w sb pb name sz)(b:gA w k m r):k≠sb:=by
 rintro rfl;obtain⟨y,a,c,d⟩:∃y a,eE w k m y a:=by
  rcases b with⟨_,y,h⟩|⟨y,_,h⟩
  .grind
  grind
 obtain⟨t,e⟩:=h;grind
structure zw(w:KX)(pb:Nat)(o:ay)(L:aL)(base:Nat)(out:Name)(s:Src):Prop where
 src:bK w s.cb s.sb s.pos s.es.length s.cur
 str:aM w s.sb pb s.name 20
 oc:o s.cb=KK
 os:o s.sb=KK
 bc:base<=s.cb
 bs:base<=s.sb
 file:∃fl,aI L s.name=IT (az s.es fl)
 TX:s.name≠out
theorem zw.moved(h:zw w pb o L base out s)(a:Moved S n pb db w o d w' o' d' L')(c:¬S s.cb)(b:¬S s.sb)(e:∀x,x≠out->aI L' x=aI L x):zw w' pb o' L' base out s where
 src:=h.src.kept (a.block h.src.lt h.oc c)
 str:=h.str.kept (a.block h.str.lt h.os b)
 oc:=a.free h.src.lt h.oc
 os:=a.free h.str.lt h.os
 bc:=h.bc
 bs:=h.bs
 file:=by grind [TX,file]
 TX:=h.TX
theorem zw.kept(h:zw w pb o L base out s)(b:w'.heap[s.cb]? = w.heap[s.cb]?)(a:w'.heap[s.sb]? = w.heap[s.sb]?):zw w' pb o L base out s where
 src:=h.src.kept b
 str:=h.str.kept a
 oc:=h.oc
 os:=h.os
 bc:=h.bc
 bs:=h.bs
 file:=h.file
 TX:=h.TX
structure dL(w:KX)(pb:Nat)(o:ay)(L:aL)(base:Nat)(out:Name)(v:J3)(l:List Src):Prop where
 each:∀s∈l,zw w pb o L base out s
 apart:(l.map Src.cb).Nodup
 row:∀x,v.ownBlock=IT x->o x=KK/\base<=x/\∀s∈l,x≠s.cb/\x≠s.sb
theorem dL.nil:dL w pb o L base out (.slice KK 0 0) []:=⟨(λ_ h=>nomatch h),List.Pairwise.nil,λx a=>by cases a⟩
theorem dL.moved{v:J3}(h:dL w pb o L base out v l)(e:Moved S n pb db w o d w' o' d' L')(g:∀x,v.ownBlock=IT x->x<w.heap.size)(c:∀s∈l,¬S s.cb/\¬S s.sb)(f:∀x,x≠out->aI L' x=aI L x):dL w' pb o' L' base out v l where
 each:=λs b=>(h.each s b).moved e (c s b).1 (c s b).2 f
 apart:=h.apart
 row:=λx a=>⟨e.free (g x a) (h.row x a).1,(h.row x a).2⟩
theorem dL.below{v:J3}(h:dL w pb o L base out v l)(b:Lg w w w'):dL w' pb o L base out v l where
 each:=λs a=>(h.each s a).kept (b.block _ (h.each s a).src.lt) (b.block _ (h.each s a).str.lt)
 apart:=h.apart
 row:=h.row
theorem dL.idx{v:J3}(h:dL w pb o L base out v l){i j:Nat}(hi:i<l.length)(b:j<l.length)(a:i≠j):l[i].cb≠l[j].cb:=by intro e;have c:=h.apart;grind [qa]
theorem wy{v:J3}(h:dL w pb o L base out v l){k:Nat}(a:k<l.length){t:Src}:∀s∈l.set k t,s=t\/(s∈l/\s.cb≠l[k].cb):=by grind [p6,dL.idx]
theorem dL.step{v:J3}(h:dL w pb o L base out v l){k:Nat}(p:k<l.length)(j:Moved (·=l[k].cb) n pb db w o d w' o' d' L)(t:∀x,v.ownBlock=IT x->x<w.heap.size)(r:bK w' l[k].cb l[k].sb (l[k].pos+1) l[k].es.length l[k].step.cur):dL w' pb o' L base out v (l.set k l[k].step):=by
 have f:l[k]∈l:=rM p;have a:=h.each _ f;have q:(l.set k l[k].step).map Src.cb=l.map Src.cb:=by
  apply List.ext_getElem
  .simp
  .intro i c m;rw[sp,sp,List.getElem_set];split
   .rename_i e;subst e;rfl
   .rfl
 refine⟨λs b=>?_,by grind [apart],λx g=>⟨j.free (t x g) (h.row x g).1,(h.row x g).2.1,λs b=>?_⟩⟩
 .rcases wy h p s b with rfl |⟨c,m⟩
  .exact⟨r,a.str.kept (j.block a.str.lt a.os (ja a.src a.str)),j.free a.src.lt a.oc,j.free a.str.lt a.os,a.bc,a.bs,a.file,a.TX⟩
  .exact(h.each s c).moved j m (ja a.src (h.each s c).str) (λ_ _=>rfl)
 .rcases wy h p s b with rfl |⟨c,m⟩
  .exact(h.row x g).2.2 l[k] f
  .exact(h.row x g).2.2 _ c
theorem dL.gone{v:J3}(h:dL w pb o L base out v l)(k:Nat)(d:aN (λx=>v.ownBlock=IT x) w w')(f:v'.ownBlock=v.ownBlock):dL w' pb o L base out v' (l.eraseIdx k):=by
 refine⟨λs a=>?_,?_,λx b=>?_⟩
 .have a:=List.mem_of_mem_eraseIdx a;have c:=h.each s a;exact c.kept (d.block _ c.src.lt (λe=>((h.row _ e).2.2 s a).1 rfl)) (d.block _ c.str.lt (λe=>((h.row _ e).2.2 s a).2 rfl))
 .grind [List.eraseIdx_sublist,apart]
 .rw[f]at b;exact⟨(h.row x b).1,(h.row x b).2.1,λs a=>(h.row x b).2.2 s (List.mem_of_mem_eraseIdx a)⟩
theorem dL.append{v:J3}(h:dL w pb o L base out v l)(q:gP v (w.alloc j) w' v')(u:zw w pb o L base out s)(p:∀t∈l,t.cb≠s.cb)(z:∀x,v.ownBlock=IT x->x<w.heap.size/\x≠s.cb/\x≠s.sb)(m:∀x,w.heap.size<=x->o x=KK)(i:base<=w.heap.size):dL w' pb o L base out v' (l++[s]):=by
 obtain⟨n,r⟩:=q;have y:(w.alloc j).heap.size=w.heap.size+1:=ai;have k:∀x,x<w.heap.size->v.ownBlock≠IT x->w'.heap[x]? = w.heap[x]? := λx c f=>(n.block x af (λe=>f e.symm)).trans ((MapKept.heap_alloc w j).2 x c)
 have a:∀t∈l++[s],zw w pb o L base out t/\∀x,v.ownBlock=IT x->x≠t.cb/\x≠t.sb:=λt b=>by
  rcases hS.1 b with b | b
  .exact⟨h.each t b,λx c=>(h.row x c).2.2 t b⟩
  grind
 refine⟨λt b=>?_,?_,λx c=>?_⟩
 .obtain⟨d,g⟩:=a t b;exact d.kept (k _ d.src.lt (λe=>(g _ e).1 rfl)) (k _ d.str.lt (λe=>(g _ e).2 rfl))
 .grind [apart]
 .rcases r with e | e
  .rw[e]at c;refine⟨(h.row x c).1,(h.row x c).2.1,λt b=>(a t b).2 x c⟩
  .rw[e]at c;cases c;refine⟨m _ af,af,λt b=>?_⟩;have d:=(a t b).1.src.lt;have g:=(a t b).1.str.lt;omega
def JW(w:KX)(v:J3)(a:List Nat):Prop:=(v=.slice KK 0 0/\a=[])\/∃g cap,v=.slice (IT ⟨g,0,KK⟩) a.length cap/\a.length<=cap/\cap<=maxLen/\jO w g a/\g<w.heap.size
theorem JW.Ig{v:J3}(c:w.ownsRow base 172 1 v i.length (i.map ptrTo)):JW w v i:=by
 have f:=c;obtain⟨l,⟨a,b⟩|⟨g,cap,h,rfl,k,e,m,p,n,o⟩⟩:=f
 .exact .inl ⟨a,jJ b⟩
 .obtain⟨a,b,d,j⟩:=jO.Ig c;exact .inr ⟨g,cap,rfl,b,d,a,(ds.1 e).1⟩
theorem JW.ofNil{base:Nat}:w.ownsRow base 172 1 (.slice KK 0 0) 0 ([]:List J3):=⟨rfl,.inl ⟨rfl,rfl⟩⟩
end
section
variable {S:Nat->Prop}{w D C E u:KX}{pb db n base cb sb m jb bz made g:Nat}{by':Bool}{name out nm:Name}{o o' H z G:ay}{d d' I A F:Dsk}{L L':aL}{l:List Src}{v:J3}
theorem dL.opened(i:dL D pb H L base out v l)(k:∀x,v.ownBlock=IT x->x<D.heap.size)(r:Moved (λ_=>False) n pb db D H I C z A L)(c:Moved (·=cb) n pb db C z A E G F L)(a:base<=D.heap.size)(p:D.heap.size<=cb)(S:D.heap.size<=sb){N:Nat}(d:bK C cb sb 0 N J)(b:aM C sb pb nm 20)(O:z cb=KK)(f:z sb=KK){es:List aJ}{x:aJ}{fl:Bool}(M:bK E cb sb 1 es.length x)(U:es[0]? = IT x)(B:aI L nm=IT (az es fl))(q:nm≠out)(R:gP v (E.alloc j) u v') :
 dL u pb G L base out v' (l++[⟨cb,sb,nm,es,1⟩]):=by
 have m:=ja d b;have o:D.heap.size<=C.heap.size:=r.size;have T:C.heap.size<=E.heap.size:=c.size;have Q:=i.moved r k (λ_ _=>⟨λh=>h,λh=>h⟩) (λ_ _=>rfl);have K:=Q.moved c (λy g=>eg (k y g) o) (λs w=>⟨λe=>Nm ((i.each s w).src.lt),λe=>Nm ((i.each s w).str.lt)⟩) (λ_ _=>rfl);refine K.append R ⟨?_,b.moved c f m,c.free d.lt O,c.free b.lt f,cp a p,cp a S,⟨fl,B⟩,q⟩ (λt P e=>?_) (λy g=>⟨eg (k y g) af,?_,?_⟩) (λy g=>c.bh.fresh g) af
 .grind [Src.cur]
 .have:=(i.each t P).src.lt;grind
 .grind
 grind
theorem MW(s:Src):cU [s]=s.left:=by grind [cU]
theorem P2{rs:List yB}{k:Nat}{p:yB}(h:rs[k]? = IT p):e9 (rs.take (k+1))=e9 (rs.take k)++p.2:=by grind [fh,e9]
def XY(n b db:Nat)(by':Bool)(w:KX)(o:ay)(d:Dsk)(L:aL)(a:Name)(rs:List yB)(k:Nat)(v:J3)(wr:KX):Prop:=
 ∃(d':Dsk)(o':ay)(l:List Src),Moved (λ_=>False) n b db w o d wr o' d' L/\dL wr b o' L w.heap.size a v l/\wr.ownsRow w.heap.size 172 1 v (l.map Src.cb).length ((l.map Src.cb).map ptrTo)/\cU l=e9 (rs.take k) /\
  (∀s∈l,s.left.Pairwise (er by'))/\(∀s∈l,s.Ok)/\(l.map Src.cb).length<=k
def TY(n e db f c:Nat)(by':Bool)(w:KX)(o:ay)(d:Dsk)(L:aL)(b:Name)(all:List aJ)(left:Nat)(v:J3)(wr:KX):Prop:=
 ∃(d':Dsk)(o':ay)(l:List Src)(a:List aJ),Moved (λ_=>False) n e db w o d wr o' d' (aX L b (az (iy a) J0))/\dL wr e o' (aX L b (az (iy a) J0)) w.heap.size b v l/\JW wr v (l.map Src.cb)/\Taken by' all a l /\
  gA wr f c (iy a)/\aM wr c e b 20/\o' f=KK/\o' c=KK/\(∀x,v.ownBlock=IT x->x≠f/\x≠c)/\left=(cU l).length
def Ij(n f db:Nat)(w:KX)(o:ay)(d:Dsk)(L:aL)(a:Name)(ns:List Name)(b:List aJ)(N:Nat)(e:Lp)(w':KX):Prop:=
 ∃c d' o' L',e=Mk (Kx Mm ((c:Nat):Int))/\Moved (λ_=>False) n f db w o d w' o' d' L'/\(∀x,x≠a->x ∉ ns->aI L' x=aI L x)/\((c=0/\L'=ns.foldl b9 (aX L a (az b J0)))\/lM d d' (need L+4*N) c)
theorem dL.cells(h:dL w pb o L base out v l)(d:jO w g (l.map Src.cb)){k:Nat}{s:Src}(b:l[k]? = IT s) :
 w.cell? ⟨g,k,KK⟩=IT (ptrTo s.cb)/\w.cell? ⟨s.cb,3,KK⟩=s.cur.t/\w.cell? ⟨s.cb,4,KK⟩=s.cur.h/\w.cell? ⟨s.cb,5,KK⟩=s.cur.x/\w.cell? ⟨s.cb,6,KK⟩=s.cur.m:=by have a:=aK b;rw[bk a]at b;have c:=d.cell (k:=k) M2;rw[sp]at c;obtain⟨-,⟨e,f,j,i⟩,-⟩:=(h.each _ (rM a)).src.cells;grind
theorem MX{es:List aJ}(a:aI L out=KK):need (aX L out (az es J0))<=need L+4*es.length:=by grind [tC,dz]
theorem Taken.len{b:Bool}{all a:List aJ}(h:Taken b all a l):a.length+(cU l).length=all.length:=by rw[<- eh];exact h.perm.length_eq
end
section
variable {w:KX}{pb db n jb bz made:Nat}{by':Bool}{o o':ay}{d d':Dsk}{L L':aL}
theorem JX(HW:aV)(h:aU w pb db n o d L)(hj:dC w jb pb bz made by')(mD:o jb=KK)(GJ:o bz=KK){v:J3}{rs:List yB}(hv:bT w v (rs.map (·.1)))(pD:∀b,v.ownBlock=IT b->o b=KK)(hL:∀p∈rs,aI L p.1=IT (az p.2 J0))(F6:(rs.map (·.1)).Nodup)(zh:rs.length<=1000)(Ho:∀p∈rs,aH by' p.2=p.2)(zd:lens rs<=60000){B:Name}(gu:b6 B=Jd)(fI:aI L B=KK):K1 prog 154 #[ptrTo jb,v,.string B] w (Ij n pb db w o d L B (rs.map (·.1)) (aH by' (e9 rs)) (lens rs)):=by
 have tA:Lk (∀W o' d' nm es,Moved (λ_=>False) n pb db w o d W o' d' L->(nm,es)∈rs->K1 prog 82 #[ptrTo jb,.string nm] W (uj n pb db W o' d' L nm es.length)):=ae (λW o' d' nm es hm hp=>BU HW hm.bh (hj.moved hm mD GJ (λh=>h) (λh=>h)) (hL _ hp));have MS:Lk (∀W o' d' L' cb sb nm(es:List aJ)x0 i fl x,aU W pb db n o' d' L'->aM W sb pb nm 20->o' sb=KK->bK W cb sb i es.length x0->o' cb=KK->aI L' nm=IT (az es fl)->es[i]? = IT x->K1 prog 200 #[ptrTo cb] W (Ed n pb db W o' d' L' cb sb i es.length x)):=ae (λW o' d' L' cb sb nm es x0 i fl x a b c e f g D=>by have hi:=aK D;grind [vY])
 have JO:Lk (∀W o' d',Moved (λ_=>False) n pb db w o d W o' d' L->K1 prog 202 #[ptrTo jb,.string B] W (oV n pb db W o' d' L B)):=ae (λW o' d' hm=>vZ hm.bh (hj.moved hm mD GJ (λh=>h) (λh=>h)) (hm.free hj.lt.1 mD) gu fI);have pm:Lk (∀W o' d' U sb aE,aU W pb db n o' d' (aX L B (az aE J0))->aM W sb pb B 20->o' sb=KK->o' U=KK->U≠sb->gA W U sb aE->aE.length<65535->∀x:aJ,
  Calls prog 204 #[ptrTo U,LV #[Kx Mo (x.t.toNat:Int),Kx Mo (x.h.toNat:Int),Kx MJ (x.x.toNat:Int),Kx Mo (x.m.toNat:Int)]] W (Ee n pb db W o' d' (aX L B (az aE J0)) B U sb aE x)):=
  ae (λW o' d' U sb aE hW yd ho XQ tw hk hl x=>BR HW hW yd ho XQ tw (by grind [aC]) hl hk x)
 have P3:∀x∈rs.map (·.1),x≠B:=λx D e=>M2
 have yU:Lk (∀W o' d' es,Moved (λ_=>False) n pb db w o d W o' d' (aX L B (az es J0))->K1 prog 206 #[ptrTo jb,v] W (BS n pb db W o' d' (aX L B (az es J0)) (rs.map (·.1)))):=ae (λW o' d' es hm=>by refine MD hm.bh (hj.moved hm mD GJ (λh=>h) (λh=>h)) (hm.free hj.lt.1 mD) (hv.kept (λb S=>hm.block (hv.lt b S) (pD b S) (λh=>h))) (λb S=>hm.free (hv.lt b S) (pD b S)) (λx D=>?_) F6 M2;rw[aC,if_neg (P3 x D)];obtain⟨p,hp,rfl⟩:=gl.1 D;exact⟨_,_,hL p hp⟩)
 have Co:Lk (∀W,dC W jb pb bz made by'->∀x y:aJ,K1 prog 203 #[ptrTo jb,LV #[Kx Mo (x.t.toNat:Int),Kx Mo (x.h.toNat:Int),Kx MJ (x.x.toNat:Int),Kx Mo (x.m.toNat:Int)],LV #[y.t,y.h,y.x,y.m]] W
  λe w'=>e=Mk (Kx Mm (aW by' x y))/\eV W w'):=ae (λW hW x y=>BP hW x y)
 have gx:Lk (∀W o' d' L',Moved (λ_=>False) n pb db w o d W o' d' L'->∀k p,rs[k]? = IT p->∀g ee len cap,v=.slice (IT ⟨g,ee,KK⟩) len cap->W.cell? ⟨g,ee+k,KK⟩=IT (.string p.1)):=ae (λW o' d' L' hm k p hp g ee len cap e=>by subst e;have lE:=aK hp;have X:=(hv.kept (λb S=>hm.block (hv.lt b S) (pD b S) (λh=>h))).cells.2.2.2 k M2;grind)
 have AT:=ae h;have HJ:=ae hj;have HL:=ae hL;have ul:=ae Ho;have me:=ae fI;have qS:=ae P3;have np:Lk ((e9 rs).length=lens rs):=ae (zn rs);have sn:=ae mD;have XZ:=ae GJ;obtain⟨g,ee,cap,rfl⟩:=hv.shape;obtain⟨-,AS,TI,-⟩:=hv.cells;unfold maxLen at TI;clear h hj mD GJ hv pD hL F6 Ho gu fI P3;rw[dj]at *;generalize hN:rs.length=N at *;have HN:=ae hN;clear hN;generalize hM:lens rs=M at *;clear hM;unfold ptrTo at *;go_enter func154,ntmps154;go_wp2;go_loopw [22,7] (λi v wr=>∃k:Nat,k<=N/\i=Kx Mm (k:Int)/\XY n pb db by' w o d L B rs k v wr) (λi _ _=>N-(Lo i).toNat)
 case atStart=>exact⟨0,em _,rfl,d,o,[],Moved.refl _ AT.out,dL.nil,JW.ofNil,rfl,(λs O=>nomatch O),(λs O=>nomatch O),cg _⟩
 case round=>
  generalize u7=v at *;obtain⟨k,hk,rfl,I,H,l,eO,RU,ff,lP,X0,y9,sl⟩:=hrel;have gy:=ae eO;have JY:=ae RU;have kS:=ae ff;have X1:=ae lP;have JZ:=ae X0;have eS:=ae y9;have sc:w.heap.size<=wr.heap.size:=eO.size;have JP:Lk (∀x,v.ownBlock=IT x->x<wr.heap.size):=ae (λx D=>(aA ff x D).1);clear eO RU ff lP X0 y9;by_cases ks:k<N
  .obtain⟨nm,es,hp⟩:∃nm es,rs[k]? = IT (nm,es):=by
    have lE:k<rs.length:=by grind [Hid.out]
    exact⟨rs[k].1,rs[k].2,bk lE⟩
   have lK:(nm,es)∈rs:=cx hp;have hc:=gx.out wr H I L gy.out k (nm,es) hp g ee N cap rfl;have K:=ae (tA.out wr H I nm es gy.out lK);have HF:Lk (aI L nm=IT (az es J0)):=ae (HL.out _ lK);have Me:Lk (nm≠B):=ae (qS.out nm (gl.2 ⟨_,lK,rfl⟩));have qh:Lk (es.Pairwise (er by')):=ae (P1 (ul.out _ lK));have zc:Lk (e9 (rs.take (k+1))=e9 (rs.take k)++es):=ae (P2 hp);clear hp lK;dsimp only at hc;go_wp2_with fail;go_call K.out as e C⟨v2,c2,A,z,rfl,dA,vX,lp⟩;have fV:=ae (gy.out.trans dA (λ_ _ h=>h));have am:=ae dA;have AE:=ae vX;clear dA vX hc K;by_cases Y:c2=0
   .subst Y;obtain⟨cb,sb,rfl,nl,rJ,P4,Ep,ue,Xv⟩:=lp rfl;have fP:=ae nl;have qK:=ae rJ;have X2:=ae P4;have GH:=ae Ep;have oR:wr.heap.size<=C.heap.size:=am.out.size;clear nl rJ P4 Ep lp;unfold ptrTo at *;by_cases ld:0<es.length
    .have D:es[0]? = IT es[0]:=bk ld;have K:=ae (MS.out C z A L cb sb nm es Ei 0 J0 es[0] fV.out.bh qK.out GH.out fP.out X2.out HF.out D);have HX:=ae D;clear D;generalize es[0]=x at *;go_wp2_with fail;go_call K.out as e E⟨c3,F,G,rfl,fD,Ic,hs3⟩;have fH:=ae (fV.out.trans fD (λx D e=>af));have io:=ae fD;have BL:=ae Ic;have AI:C.heap.size<=E.heap.size:=fD.size;clear fD Ic K;by_cases kl:c3=0
     .subst kl;have gV:=ae (hs3 rfl);have uT:Lk (E.ownsRow w.heap.size 172 1 v (l.map Src.cb).length ((l.map Src.cb).map ptrTo)):=ae (by have iG:∀b,v.ownBlock=IT b->H b=none:=λb S=>(JY.out.row b S).1;have h2:=am.out.ownsRow kS.out (λb S=>⟨iG b S,λh=>h⟩);exact io.out.ownsRow h2 (λb S=>⟨am.out.free (JP.out b S) (iG b S),λe=>Nm (JP.out b S)⟩))
      clear hs3;go_wp2_with (at_builtin;refine zt rfl _ _ rfl w.heap.size _ _ rfl uT.out cb 1 rfl af af ?_);intro v4 u qr CW;have VO:=ae (CW.moved fH.out (λx D=>⟨io.out.free (eg (JP.out x D) oR) (am.out.free (JP.out x D) (JY.out.row x D).1),(JY.out.row x D).2.1⟩));have RZ:=ae (JY.out.opened JP.out am.out io.out sc ue Xv fP.out qK.out X2.out GH.out gV.out HX.out HF.out Me.out CW);have Gi:=ae qr;clear qr CW;go_wp2;go_roundw
      case rel=>exact⟨k+1,af,by go_num,F,G,_,VO.out.1,RZ.out,(by simpa using Gi.out),(by rw[oX,MW,X1.out,zc.out];rfl),(λs O=>(hS.1 O).elim (JZ.out s) (λO=>by rw[kj.1 O];assumption)),(λs O=>(hS.1 O).elim (eS.out s) (λO=>by rw[kj.1 O];exact⟨cg _,ld⟩)),M2⟩
      grind [Lo]
     .have PE:¬(c3:Int)=0:=af;have HE:Lk (lM d F (need L+4*M) c3):=ae (((BL.out.resolve_left kl).num (Nat.le_add_right _ _)).later fV.out.on.bU);clear kl hs3;go_wp2;go_ret;exact⟨c3,F,G,L,rfl,fH.out,(λ_ _ _=>rfl),.inr HE.out⟩
    .have th:es=[]:=jJ af;subst th;have K:=ae (oU fP.out (cg _));unfold ptrTo at K;go_wp2_with fail;go_call K.out as e E⟨rfl,q,rfl⟩;have HB:Lk (Lg C C (C.drewN q)):=ae (below_drewN aq _);have uT:Lk (C.ownsRow w.heap.size 172 1 v (l.map Src.cb).length ((l.map Src.cb).map ptrTo)):=ae (am.out.ownsRow kS.out (λb S=>⟨(JY.out.row b S).1,λh=>h⟩));have XW:=ae ((JY.out.moved am.out JP.out (λ_ _=>⟨λh=>h,λh=>h⟩) (λ_ _=>rfl)).below HB.out);have Gi:Lk ((C.drewN q).ownsRow w.heap.size 172 1 v (l.map Src.cb).length ((l.map Src.cb).map ptrTo)):=ae (bg uT.out (λx D=>HB.out.block x (eg (JP.out x D) oR)));have fH:=ae (fV.out.drewN q);generalize C.drewN q=E at *;go_wp2;go_roundw
     case rel=>exact⟨k+1,af,by go_num,A,z,l,fH.out,XW.out,Gi.out,(by grind [Hid.out]),JZ.out,eS.out,af⟩
     grind [Lo]
   .have PN:¬(c2:Int)=0:=af;have HE:Lk (lM d A (need L+4*M) c2):=ae (((AE.out.resolve_left Y).num (Nat.le_add_right _ _)).later gy.out.on.bU);clear Y lp;go_wp2;go_ret;exact⟨c2,A,z,L,rfl,fV.out,(λ_ _ _=>rfl),.inr HE.out⟩
  .obtain rfl:k=N:=af
   have kd:Lk (Taken by' (e9 rs) [] l):=ae ⟨by rw[DP,X1.out,ey (by grind [Hid.out])],List.Pairwise.nil,(λx D=>nomatch D),JZ.out,eS.out⟩;have K:=ae (JO.out wr H I gy.out);unfold ptrTo at K;go_wp2_with fail;go_call K.out as e C⟨v2,c2,A,z,rfl,dA,vX,lp⟩;have AE:=ae vX;by_cases Y:c2=0
   .subst Y;obtain⟨U,m,rfl,pe,rJ,ML,Ep,sB,zs,zi⟩:=lp rfl;simp only[if_true]at dA;have fV:=ae (gy.out.trans dA (λ_ _ h=>h));have OU:Lk (dL C pb z (aX L B (az [] J0)) w.heap.size B v l):=ae (JY.out.moved dA JP.out (λ_ _=>⟨λh=>h,λh=>h⟩) (λx D=>by rw[aC,if_neg D]));have ve:Lk (JW C v (l.map Src.cb)):=ae (JW.Ig (dA.ownsRow kS.out (λb S=>⟨(JY.out.row b S).1,λh=>h⟩)));have lw:=ae pe;have qK:=ae rJ;have m8:=ae ML;have GH:=ae Ep;have JQ:=ae sB;have pu:Lk (∀x,v.ownBlock=IT x->x≠U/\x≠m):=ae (λx D=>Nm (JP.out x D));have AN:w.heap.size<=U:=af;clear lp dA pe rJ ML Ep sB vX K;unfold ptrTo;have tm:Lk ((e9 rs).length<=60000):=ae (by rw[np.out];omega);clear JY kS X1 JZ eS JP gy sl;go_wp2;go_loopg [7] (e9 rs).length (λleft v wr=>TY n pb db U m by' w o d L B (e9 rs) left v wr)
    case atStart=>exact⟨A,z,l,[],fV.out,OU.out,ve.out,kd.out,lw.out,qK.out,m8.out,GH.out,pu.out,by have:=kd.out.len;simpa using this.symm⟩
    case round=>
     clear fV OU ve kd lw qK m8 GH pu;generalize u7=v at *;generalize wr=wo at *;obtain⟨F,G,J,r,fD,TI,en,Cs,ke,y8,y7,TR,i8,WC⟩:=hrel;have fH:=ae fD;have tg:Lk (dC wo jb pb bz made by'):=ae (HJ.out.moved fD sn.out XZ.out (λh=>h) (λh=>h));by_cases hz:J=[]
     .subst hz;have ww:∃a cap,v=.slice a 0 cap:=by
       rcases en with⟨rfl,_⟩|⟨g',mh,rfl,_⟩
       .simp
       simp
      have HD:=ae Cs.done;have K:=ae (yU.out wo G F (iy r) fD);clear fD TI en Cs ke y8 y7 TR i8 WC;obtain⟨a,mh,rfl⟩:=ww;go_wp2_with fail;go_call K.out as e u⟨c4,d4,o4,L4,rfl,fZ,je⟩;have jg:=ae (fH.out.trans fZ (λ_ _ h=>h));have FL:=ae je;clear fZ je K;go_wp2;go_ret;refine⟨c4,d4,o4,L4,rfl,jg.out,λx D ph=>?_,?_⟩
      .rcases FL.out with⟨_,e⟩|⟨_,_,e⟩
       .rw[e,uW,if_neg ph,aC,if_neg D]
       .rw[e x ph,aC,if_neg D]
      .rcases FL.out with⟨X,e⟩|⟨X,h2,_⟩
       .exact .inl ⟨X,by rw[e,HD.out]⟩
       .exact .inr (.inr ⟨X,h2⟩)
     .have xz:0<J.length:=List.length_pos_iff.2 hz;obtain⟨g3,CA,rfl,AC,XS,fm,qe⟩:∃g3 CA,v=.slice (IT ⟨g3,0,KK⟩) J.length CA/\J.length<=CA/\CA<=maxLen/\jO wo g3 (J.map Src.cb)/\g3<wo.heap.size:=by
       rcases en with⟨rfl,h⟩|⟨g,cap,rfl,X,h2,h3,h4⟩
       .exact absurd (List.map_eq_nil_iff.1 h) hz
       .rw[dj]at *;exact⟨g,cap,rfl,X,h2,h3,h4⟩
      have J1:Lk (∀W,eV wo W->∀(k:Nat)(s:Src),J[k]? = IT s->W.cell? ⟨g3,k,KK⟩=IT (ptrTo s.cb)/\W.cell? ⟨s.cb,3,KK⟩=IT (Kx Mo (s.cur.t.toNat:Int))/\W.cell? ⟨s.cb,4,KK⟩=IT (Kx Mo (s.cur.h.toNat:Int))/\W.cell? ⟨s.cb,5,KK⟩=IT (Kx MJ (s.cur.x.toNat:Int))/\W.cell? ⟨s.cb,6,KK⟩=IT (Kx Mo (s.cur.m.toNat:Int))):=ae (λW hW k s hk=>by obtain⟨X,h2,h3,h4,h5⟩:=TI.cells fm hk;exact⟨hW.cell X,hW.cell h2,hW.cell h3,hW.cell h4,hW.cell h5⟩)
      have XW:=ae TI;have uQ:=ae Cs;have tr:=ae ke;have GI:=ae y8;have XR:=ae y7;have AP:=ae TR;have X3:=ae i8;have mu:=ae WC;have wn:=ae fm;clear fD TI en Cs ke y8 y7 TR i8 WC fm hz;unfold maxLen at XS;have Et:Lk (∀k,k<J.length->∃s,J[k]? = IT s):=ae (λk hk=>⟨J[k],bk hk⟩);generalize hZ:J.length=Z at *;have HZ:=ae hZ;clear hZ;go_wp2;go_loopw [15,63] (λkv iv W=>∃k i:Nat,k<Z/\i<=Z/\kv=Kx Mm (k:Int)/\iv=i/\eV wo W/\∀(s t:Src)(j:Nat),j<i->J[k]? = IT s->J[j]? = IT t->er by' s.cur t.cur) (λ_ iv _=>Z-(Lo iv).toNat)
      case atStart=>exact⟨0,0,xz,em _,rfl,rfl,eV.refl _,λ_ _ j hj=>absurd hj (Nat.not_lt_zero _)⟩
      case round=>
       generalize wr=W at *;obtain⟨k,i,hk,hi,rfl,rfl,ol,zu⟩:=hrel;have HG:=ae ol;have T1:=ae zu;clear ol zu;by_cases ks:i<Z
       .obtain⟨x,D⟩:=Et.out i ks;obtain⟨y,hy⟩:=Et.out k hk;have i7:Lk (∀T,eV W T->T.cell? ⟨g3,i,KK⟩=IT (ptrTo x.cb)/\T.cell? ⟨x.cb,3,KK⟩=IT (Kx Mo (x.cur.t.toNat:Int))/\T.cell? ⟨x.cb,4,KK⟩=IT (Kx Mo (x.cur.h.toNat:Int))/\T.cell? ⟨x.cb,5,KK⟩=IT (Kx MJ (x.cur.x.toNat:Int))/\T.cell? ⟨x.cb,6,KK⟩=IT (Kx Mo (x.cur.m.toNat:Int))):=ae (λT hW=>J1.out T (HG.out.trans hW) i x D);have iS:Lk (∀T,eV W T->T.cell? ⟨g3,k,KK⟩=IT (ptrTo y.cb)/\T.cell? ⟨y.cb,3,KK⟩=y.cur.t/\T.cell? ⟨y.cb,4,KK⟩=y.cur.h/\T.cell? ⟨y.cb,5,KK⟩=y.cur.x/\T.cell? ⟨y.cb,6,KK⟩=y.cur.m):=ae (λT hW=>J1.out T (HG.out.trans hW) k y hy);have K:=ae (λT(hW:eV W T)=>Co.out T (tg.out.below (HG.out.trans hW).below) x.cur y.cur);have tc:Lk (aW by' x.cur y.cur<0->∀(s t:Src)(j:Nat),j<i+1->J[i]? = IT s->J[j]? = IT t->er by' s.cur t.cur):=ae (λhc s t j hj O ht=>by
         rw[D]at O;obtain rfl:=Option.some.inj O;rcases lb j i with tO | tO
         .have X:=T1.out y t j tO hy ht;rw[Ea]at hc;exact er.trans (by unfold er;omega) X
         .obtain rfl:j=i:=af
          rw[D]at ht;obtain rfl:=Option.some.inj ht;exact er.refl _ _)
        have nn:Lk (¬aW by' x.cur y.cur<0->∀(s t:Src)(j:Nat),j<i+1->J[k]? = IT s->J[j]? = IT t->er by' s.cur t.cur):=ae (λhc s t j hj O ht=>by
         rcases lb j i with tO | tO
         .exact T1.out s t j tO O ht
         .obtain rfl:j=i:=af
          rw[D]at ht;obtain rfl:=Option.some.inj ht;rw[hy]at O;obtain rfl:=Option.some.inj O;exact(Eb _ _ _).1 hc)
        clear D hy;unfold ptrTo at *;generalize aW by' x.cur y.cur=R at *
        generalize x.cur.t.toNat=xt at *;generalize x.cur.h.toNat=xh at *;generalize x.cur.x.toNat=xx at *;generalize x.cur.m.toNat=xm at *;generalize y.cur.t.toNat=yt at *;generalize y.cur.h.toNat=yh at *;generalize y.cur.x.toNat=yx at *;generalize y.cur.m.toNat=ym at *;generalize x.cb=xb at *;generalize y.cb=yb at *;by_cases hR:R<0;case' pos=>have wd:decide (R<0)=true:=decide_eq_true hR
        case' neg=>have wd:decide (R<0)=false:=decide_eq_false hR
        all_goals
         go_wp2;refine dx (eV W) (by rfl) ah (eV.refl W).drew ?_;iterate 4 (refine qz ?_)
         refine qz ?_ (λw' P=>by have hc:=(i7.out w' P).1;go_simp<;>rfl);iterate 2 (refine qz ?_)
         refine qz ?_ (λw' P=>by obtain⟨-,e0,e1,e2,e3⟩:=i7.out w' P;go_simp<;>rfl);iterate 3 (refine qz ?_)
         refine qz ?_ (λw' P=>by have hc:=(iS.out w' P).1;go_simp<;>rfl);iterate 2 (refine qz ?_)
         refine qz ?_ (λw' P=>by obtain⟨-,e0,e1,e2,e3⟩:=iS.out w' P;go_simp<;>rfl);refine qw (λw' P=>(K.out w' P).mono (λe AF h=>⟨h.1,P.trans h.2⟩)) ?_;refine qz ?_;refine wpQuiet_nil ?_;intro W1 pr;have K9:=ae (HG.out.trans pr);clear pr K i7 iS;go_wp2;go_roundw
         case measure=>simp[Lo];omega
        .exact⟨k,i+1,hk,af,rfl,by go_num,K9.out,nn.out af⟩
        .exact⟨i,i+1,ks,af,rfl,by go_num,K9.out,tc.out af⟩
       .obtain rfl:Z=i:=af
        obtain⟨y,hy⟩:=Et.out k hk;obtain⟨e0,e3,e4,e5,e6⟩:=J1.out W HG.out k y hy;have mx:Lk ((iy r).length<=r.length):=ae (pR _);have ac:Lk (r.length+(cU J).length=(e9 rs).length):=ae uQ.out.len;have HY:=ae hy;have fZ:Moved (λ_=>False) n pb db w o d W G F (aX L B (az (iy r) J0)):=fH.out.below HG.out.below;have jg:=ae fZ;have ci:gA W U m (iy r):=tr.out.below HG.out.below;have tz:=ae ci;have Jz:aM W m pb B 20:=GI.out.below HG.out.below;have za:=ae Jz;have bd:=XW.out.below HG.out.below;have RZ:=ae bd;have K:=ae (pm.out W G F U m (iy r) fZ.bh Jz AP.out XR.out JQ.out ci (NE mx.out ac.out tm.out) y.cur);have qH:Lk (xI (iy r) y.cur=iy (r++[y.cur])):=ae (Ar _ _).symm;have ce:k<J.length:=by rw[HZ.out];exact hk
        have al:Lk (J[k]=y):=ae (by rw[bk ce]at hy;exact Option.some.inj hy);have oS:=bd.each y (cx hy);have AD:=ae oS;have X4:Lk (∀s∈J,er by' J[k].cur s.cur):=ae (λs O=>by obtain⟨j,hj,rfl⟩:=p6 O;exact T1.out _ _ j (by rw[<- HZ.out];exact hj) (bk ce) (bk hj))
        have el:Lk (∀s∈J,U≠s.cb/\U≠s.sb/\m≠s.cb):=ae (λs O=>⟨Cy (bd.each s O).src ci,Cz (bd.each s O).str ci,ja (bd.each s O).src Jz⟩);have mm:=uQ.out.ok y (cx hy);have sC:=ae mm;have dq:=ae (cx hy);have li:g3<W.heap.size:=eg qe HG.out.below.size;have ti:Lk (jO W g3 (J.map Src.cb)):=ae (wn.out.kept (HG.out.below.block _ qe));clear fZ ci Jz bd hy oS mm J1 T1;unfold ptrTo at *;generalize nF:y.cur=yc at *;have pt:=ae nF;clear nF;generalize mw:y.cb=yb at *;have V:=ae mw;clear mw;go_wp2_with fail;go_call K.out as e w5⟨c5,d5,o5,rfl,oq,Py,XU⟩;have Mn:=ae Py;by_cases BI:c5=0
        .subst BI;simp only[if_true,kI]at oq;rw[qH.out]at oq XU;have du:=ae (XU rfl);have oy:=ae (jg.out.trans oq (λx D e=>af));have VH:dL w5 pb o5 (aX L B (az (iy (r++[yc])) J0)) w.heap.size B (.slice (IT ⟨g3,0,KK⟩) Z CA) J:=RZ.out.moved oq (λx D=>by cases D;omega) (λs O=>⟨λe=>(el.out s O).1 e.symm,λe=>(el.out s O).2.1 e.symm⟩) (λx D=>by rw[aC,if_neg D,aC,if_neg D]);have co:=ae VH;have Q:=RZ.out.row g3 rfl;have de:w5.heap[g3]? = W.heap[g3]? := oq.block li Q.1 (X3.out g3 rfl).1;have gE:Lk (jO w5 g3 (J.map Src.cb)):=ae (ti.out.kept de);have MZ:Lk (aM w5 m pb B 20):=ae (za.out.moved oq AP.out (λe=>JQ.out e.symm));have jj:Lk (o5 U=KK):=ae (oq.free tz.out.lt XR.out);have M0:Lk (o5 m=KK):=ae (oq.free za.out.lt AP.out);have Pr:g3<w5.heap.size:=eg li oq.size;have e0:w5.cell? ⟨g3,k,KK⟩=IT (.pointer yb):=by have:=gE.out.cell (k:=k) (by rw[dj];omega);rw[sp,al.out,V.out]at this;exact this
         have zx:=VH.each y dq.out;have tf:=ae zx;clear oq XU Py VH Q de e3 e4 e5 e6 K;have ut:Lk ((r++[yc]).length<=(e9 rs).length):=ae (by
          rw[eh,lr,<- ac.out];have X:=Src.left_eq sC.out;have h2:y.left.length<=(cU J).length:=by exact(List.sublist_flatten_of_mem (gl.2 ⟨y,dq.out,rfl⟩)).length_le
          rw[X,it]at h2;omega)
         have te:Lk (need (aX L B (az (iy (r++[yc])) J0))<=need L+4*M):=ae (by have X:=MX (es:=iy (r++[yc])) me.out;have h2:=pR (r++[yc]);have h3:=ut.out;rw[np.out]at h3;omega)
         obtain⟨fl,X5⟩:=zx.file;by_cases Es:y.pos<y.es.length
         .obtain⟨x,D⟩:∃x,y.es[y.pos]? = IT x:=⟨_,bk Es⟩;have K:=ae (MS.out w5 o5 d5 _ y.cb y.sb y.name y.es y.cur y.pos fl x oy.out.bh zx.str zx.os zx.src zx.oc X5 D);have HX:=ae D;clear zx X5 D;rw[V.out]at K;have nn:=ae Es;clear Es;go_wp2_with fail;go_call K.out as e w6⟨c6,d6,o6,rfl,q9,he6,hs6⟩;have qt:=ae he6;have BZ:Lk (Moved (λ_=>False) n pb db w o d w6 o6 d6 (aX L B (az (iy (r++[yc])) J0))):=ae (oy.out.trans q9 (λx D e=>by have:=tf.out.bc;rw[V.out]at this;omega))
          by_cases i6:c6=0
          .subst i6;have mT:=hs6 rfl;have dl:y.step.cur=x:=by unfold Src.cur Src.step;show(y.es[y.pos+1-1]?).getD Ei=x;rw[ta,HX.out];rfl
           rw[<- dl,<- V.out]at mT;have X6:Moved (·=J[k].cb) n pb db w5 o5 d5 w6 o6 d6 (aX L B (az (iy (r++[yc])) J0)):=by rw[al.out,V.out];omega
           have vm:=ae (co.out.step ce X6 (λx D=>by cases D;omega) (by rw[al.out];omega));have Q:=co.out.row g3 rfl;have de:w6.heap[g3]? = w5.heap[g3]? := q9.block Pr Q.1 (λe=>(Q.2.2 y dq.out).1 (e.trans V.out.symm));have X7:(J.set k J[k].step).map Src.cb=J.map Src.cb:=by
            rw[List.map_set];apply List.ext_getElem?;intro j;rw[List.getElem?_set];split
            .rename_i e
             subst e;rw[bk (by rw[dj];omega),if_pos (by rw[dj];omega),sp];rfl
            .rfl
           have Hs:Lk (JW w6 (.slice (IT ⟨g3,0,KK⟩) Z CA) ((J.set k J[k].step).map Src.cb)):=ae (by rw[X7];exact .inr ⟨g3,CA,by rw[dj,HZ.out],by rw[dj,HZ.out];omega,Nd,gE.out.kept de,eg Pr q9.size⟩)
           have Wz:Lk (Taken by' (e9 rs) (r++[yc]) (J.set k J[k].step)):=ae (by have:=uQ.out.step ce X4.out (by rw[al.out];assumption);rw[show J[k].cur=yc by rw[al.out,pt.out]]at this;omega)
           have yp:Lk (gA w6 U m (iy (r++[yc]))):=ae (du.out.kept (q9.block du.out.lt jj.out (λe=>(el.out y dq.out).1 (e.trans V.out.symm))));have X8:Lk (aM w6 m pb B 20):=ae (MZ.out.moved q9 M0.out (λe=>(el.out y dq.out).2.2 (e.trans V.out.symm)));have yW:Lk (o6 U=KK):=ae (q9.free du.out.lt jj.out);have tp:Lk (o6 m=KK):=ae (q9.free MZ.out.lt M0.out);have At:Lk ((cU (J.set k J[k].step)).length<gk):=ae (by have X:=Wz.out.len;have h2:=ac.out;have h3:=mu.out;rw[eh,lr]at X;omega)
           clear q9 he6 hs6 mT dl X6 Q de X7 K e0;generalize P5:J.set k J[k].step=ln at *;have X9:=ae P5;clear P5;go_wp2;go_roundg (cU ln).length
           case measure=>assumption
           case rel=>exact⟨d6,o6,ln,r++[yc],BZ.out,vm.out,Hs.out,Wz.out,yp.out,X8.out,yW.out,tp.out,X3.out,rfl⟩
          .have An:¬(c6:Int)=0:=af;have HE:Lk (lM d d6 (need L+4*M) c6):=ae (((qt.out.resolve_left i6).num te.out).later oy.out.on.bU);clear i6 hs6 q9 he6 K;go_wp2;go_ret;exact⟨c6,d6,o6,_,rfl,BZ.out,(λx D _=>by rw[aC,if_neg D]),.inr HE.out⟩
         .have Aj:y.es.length<=y.pos:=Nat.le_of_not_lt Es;have K:=ae (oU zx.src Aj);have OY:=ae Aj;clear zx X5 Aj Es;rw[V.out]at K;unfold ptrTo at K;go_wp2_with fail;go_call K.out as e w6⟨rfl,q,rfl⟩;have mo:Lk (Lg w5 w5 (w5.drewN q)):=ae (below_drewN aq _);generalize w5.drewN q=w6 at *;have rt:Lk (jO w6 g3 (J.map Src.cb)):=ae (gE.out.kept (mo.out.block _ Pr));have wt:g3<w6.heap.size:=eg Pr mo.out.size;have gt:=P0 (cap:=CA) rt.out (by rw[dj,HZ.out];omega) Nd (k:=k) (by rw[dj];omega);rw[dj,HZ.out,show((k+1:Nat):Int)=k+1 by omega]at gt;have K:=ae gt;clear gt e0;go_wp2_with fail;go_call K.out as e w7⟨rfl,afZ,VA⟩;have FU:Lk (Moved (λ_=>False) n pb db w o d w7 o5 d5 (aX L B (az (iy (r++[yc])) J0))):=ae ((oy.out.below mo.out).turned (b:=g3) (co.out.row g3 rfl).1 (.inr (co.out.row g3 rfl).2.1) VA);have kw:aN (λx=>(fz (IT ⟨g3,0,KK⟩) Z CA).ownBlock=IT x) w6 w7:=VA.mono (λx _ e=>by rw[e];rfl);have rm:=ae ((co.out.below mo.out).gone (v':=.slice (IT ⟨g3,0,KK⟩) (Z-1) CA) k kw rfl);have X7:(J.map Src.cb).eraseIdx k=(J.eraseIdx k).map Src.cb:=by rw[C4,C4,k8,It,List.map_drop]
          have yX:(J.eraseIdx k).length=Z-1:=by rw[List.length_eraseIdx,if_pos ce,HZ.out]
          have FV:Lk (JW w7 (.slice (IT ⟨g3,0,KK⟩) (Z-1) CA) ((J.eraseIdx k).map Src.cb)):=ae (by rw[X7]at afZ;exact .inr ⟨g3,CA,by rw[dj,yX],by rw[dj,yX];omega,Nd,afZ,eg wt VA.size⟩)
          have oE:Lk (Taken by' (e9 rs) (r++[yc]) (J.eraseIdx k)):=ae (by have:=uQ.out.gone ce X4.out (by rw[al.out];assumption);rw[show J[k].cur=yc by rw[al.out,pt.out]]at this;omega)
          have yT:Lk (gA w7 U m (iy (r++[yc]))):=ae ((du.out.below mo.out).kept (VA.block U (eg du.out.lt mo.out.size) (λe=>(X3.out g3 rfl).1 e.symm)));have Ya:Lk (aM w7 m pb B 20):=ae ((MZ.out.below mo.out).kept (VA.block m (eg MZ.out.lt mo.out.size) (λe=>(X3.out g3 rfl).2 e.symm)));have As:Lk ((cU (J.eraseIdx k)).length<gk):=ae (by have X:=oE.out.len;have h2:=ac.out;have h3:=mu.out;rw[eh,lr]at X;omega)
          clear afZ VA kw X7 yX K;generalize P5:J.eraseIdx k=ln at *;have X9:=ae P5;clear P5;go_wp2;go_roundg (cU ln).length
          case measure=>assumption
          case rel=>exact⟨d5,o5,ln,r++[yc],FU.out,rm.out,FV.out,oE.out,yT.out,Ya.out,jj.out,M0.out,X3.out,rfl⟩
        .have zp:¬(c5:Int)=0:=af;rw[if_neg BI]at oq;have oy:=ae (jg.out.trans oq (λx D e=>af));have HE:Lk (lM d d5 (need L+4*M) c5):=ae (((Mn.out.resolve_left BI).num (by have X:=MX (es:=iy r) me.out;have h2:=mx.out;have h3:=ac.out;rw[np.out]at h3;omega)).later jg.out.on.bU)
         clear BI oq XU Py K;go_wp2;go_ret;exact⟨c5,d5,o5,_,rfl,oy.out,(λx D _=>by rw[aC,if_neg D]),.inr HE.out⟩
   .have PN:¬(c2:Int)=0:=af;have rx:=ae Y;rw[if_neg Y]at dA;have fV:=ae (gy.out.trans dA (λ_ _ h=>h));clear Y dA lp vX K;go_wp2;go_ret;exact⟨c2,A,z,L,rfl,fV.out,(λ_ _ _=>rfl),.inr (.inr (AE.out.resolve_left rx.out))⟩
end
section
variable {b:Bool}{es:List aJ}{rs:List yB}{L L':aL}{name out:Name}{q:Nat}
noncomputable def merged(b:Bool)(rs:List yB)(q:Nat)(name:Name):List yB:=rs.drop q++[(name,aH b (e9 (rs.take q)))]
theorem zy:(merged b rs q name).map (·.1)=(rs.map (·.1)).drop q++[name]:=by grind [merged,List.map_drop]
theorem GL:(merged b rs q name).length=rs.length-q+1:=by grind [merged]
theorem sJ(rs:List yB)(q:Nat):lens rs=lens (rs.take q)+lens (rs.drop q):=by rw[<- BW,Do]
theorem qQ.merge(h:qQ b es rs)(c:name ∉ rs.map (·.1)):qQ b es (merged b rs q name) where
 each:=λp a=>by
  rcases hS.1 a with a | a
  .grind [each]
  grind [mQ]
 all:=by grind [merged,zm,e9,JS,MN,Do,all]
 len:=by have d:=h.len;grind [sJ,cq,zn,merged,lens]
 nodup:=by  grind [zy,nodup]
theorem Eu(h:qQ b es rs)(e:name ∉ rs.map (·.1))(n:∀p∈rs,aI L p.1=KK)(g:∀x,aI L' x=aI (eI rs L) x)(x:Name) :
 aI (((rs.take q).map (·.1)).foldl b9 (aX L' name (az (aH b (e9 (rs.take q))) J0))) x=aI (eI (merged b rs q name) L) x:=by
 have a:=h.nodup;have c:rs.map (·.1)=(rs.take q).map (·.1)++(rs.drop q).map (·.1):=ai;rw[c]at a e;rw[List.nodup_append]at a;rw[hS,not_or]at e;obtain⟨k,l,j⟩:=a;unfold merged;rw[uW,aC,Er,aC];by_cases d:x=name
 .grind
 .rw[if_neg d,if_neg d];by_cases i:x∈(rs.take q).map (·.1)
  .grind [fJ]
  .rw[if_neg i,g];by_cases f:x∈(rs.drop q).map (·.1)
   .obtain⟨p,m,rfl⟩:=gl.1 f;grind [AQ]
   grind [fJ]
theorem T2(h:qQ b es rs)(c:(L.map (·.1)).Nodup)(a:(L'.map (·.1)).Nodup)(d:∀x,aI L' x=aI (eI rs L) x):need L'<=need L+4*es.length:=by rw[DZ (PX rs L c) a d];have e:=xR rs L;have f:=h.len;omega
end
section
variable {w:KX}{pb db n cb sb jb bz made:Nat}{by':Bool}{name:Name}{o o':ay}{d d':Dsk}{L L':aL}
def mR(n c db e g f:Nat)(by':Bool)(w:KX)(o:ay)(d:Dsk)(L:aL)(a:Name)(es:List aJ)(left:Nat)(v:J3)(wr:KX):Prop:=
 ∃(d':Dsk)(o':ay)(L':aL)(rs:List yB)(made:Nat),Moved (λx=>x=f\/x=e) n c db w o d wr o' d' L'/\dC wr e c g made by'/\bT wr v (rs.map (·.1))/\(∀b,v.ownBlock=IT b->o' b=KK/\w.heap.size<=b)/\qQ by' es rs /\
  (∀x,aI L' x=aI (eI rs L) x)/\((∃x,rs=[(a,x)])\/(2<=rs.length/\∀p∈rs,∃k,k<made/\p.1=eu k))/\made+rs.length<=102/\left=rs.length
theorem T3{a:Name}{rs:List yB}(b:aI L a=KK)(d:∀k,aI L (eu k)=KK)(h:(∃x,rs=[(a,x)])\/(2<=rs.length/\∀p∈rs,∃k,k<made/\p.1=eu k)):∀p∈rs,aI L p.1=none:=by
 intro p c;rcases h with⟨x,rfl⟩|⟨_,h⟩
 .rw[kj.1 c];exact b
 .obtain⟨k,_,e⟩:=h p c;rw[e];exact d k
theorem Ik{a:Name}{rs:List yB}(d:made<=128)(h:(∃x,rs=[(a,x)])\/(2<=rs.length/\∀p∈rs,∃k,k<made/\p.1=eu k)):∀x∈rs.map (·.1),jN a x:=by
 intro y c;obtain⟨p,b,rfl⟩:=gl.1 c;rcases h with⟨x,rfl⟩|⟨_,h⟩
 .rw[kj.1 b];exact .inl rfl
 .obtain⟨k,f,e⟩:=h p b;exact .inr ⟨k,af,e⟩
theorem mR.next{h nm:Name}{es:List aJ}{rs:List yB}{q left g s:Nat}{c r:KX}{A:ay}{B:Dsk}{t:aL}{D v5:J3}{l:List Name}(v:Moved (λx=>x=cb\/x=jb) n pb db w o d c A B t)(J:dC c jb pb bz s by')(E:jb<w.heap.size)(M:bz<w.heap.size)(f:D.ownBlock=IT g)(u:A g=KK/\w.heap.size<=g)(N:nP (c.alloc j) D l nm v5 r)(y:l++[nm]=(merged by' rs q nm).map (·.1))(F:qQ by' es (merged by' rs q nm))(H:∀x,aI t x=aI (eI (merged by' rs q nm) L) x)(z:(∃x,merged by' rs q nm=[(h,x)])\/(2<=(merged by' rs q nm).length/\∀p∈merged by' rs q nm,∃k,k<s/\p.1=eu k))(K:s+(merged by' rs q nm).length<=102)(G:left=(merged by' rs q nm).length):mR n pb db jb bz cb by' w o d L h es left v5 r:=by
 obtain⟨C,I,O⟩:=N;have P:c.heap.size<(c.alloc j).heap.size:=ai;have Q:w.heap.size<=c.heap.size:=v.size;have m:aN (·=g) (c.alloc j) r:=I.mono (λx _ e=>by rw[f]at e;exact(Option.some.inj e).symm);rw[y]at C;have i:∀x,x<w.heap.size->r.heap[x]? = c.heap[x]? := λx R=>(m.block x af (λe=>af)).trans ((MapKept.heap_alloc c j).2 x af);refine⟨B,A,t,merged by' rs q nm,s,(v.alloc j).turned (b:=g) u.1 (.inr u.2) m,J.kept (i jb E) (i bz M),C,λb a=>?_,F,H,z,K,G⟩;rcases O with e | e
 .rw[e,f]at a;cases a;exact u
 .rw[e]at a;cases a;exact⟨v.bh.fresh (yi P),af⟩
theorem Lj(HW:aV){m:Nat}(HS:um m)(mw:m<=2400):eW m:=by
 intro w pb db n cb sb jb bz by' o d L h hn hj mD GJ ce es fl vH out x0 hL pI iS TH fm Y gx gE fI t aE F9 al hm
 have kl:=ae (MR HW HS h hn hj mD GJ ce hL pI iS TH fm Y gx gE fI t aE F9 al hm af);have uZ:Lk (∀W o' d' L',aU W pb db n o' d' L'->K1 prog 15 #[ptrTo pb] W λe w'=>e=n/\W=w'):=ae (λW o' d' L' hW=>js hW);have i8:Lk (∀W o' d' L' x,aU W pb db n o' d' L'->aI L' out=IT (az x J0)->K1 prog 45 #[ptrTo pb,.string out] W (ll (λ_=>False) n pb db W o' d' L' (aX L' out (az x Jd)))):=ae (λW o' d' L' x hW FJ=>sH HW hW FJ);have Jj:Lk (∀W made,dC W jb pb bz made by'->made<100->K1 prog 153 #[ptrTo jb] W λe w'=>e=Mk (.string (eu made))/\dC w' jb pb bz (made+1) by'/\aN (·=jb) W w'):=ae (λW made hW hm=>Ih hW hm ce);have Yb:Lk (∀W o' d' L' made rs q v nm,Moved (λx=>x=cb\/x=jb) n pb db w o d W o' d' L'->dC W jb pb bz made by'->qQ by' es rs->(∀x,aI L' x=aI (eI rs L) x)->bT W v ((rs.take q).map (·.1))->(∀b,v.ownBlock=IT b->o' b=KK)->rs.length<=1000->b6 nm=Jd->aI L nm=KK->nm ∉ rs.map (·.1) ->
  Calls prog 154 #[ptrTo jb,v,.string nm] W (Ij n pb db W o' d' L' nm ((rs.take q).map (·.1)) (aH by' (e9 (rs.take q))) (lens (rs.take q)))):=ae (λW o' d' L' made rs q v nm tL ke Z he hv pD hl rF me ld=>by
  have RU:=sJ rs q;have lE:=Z.len;refine JX HW tL.bh ke (tL.free hj.lt.1 mD) (tL.free hj.lt.2 GJ) hv pD (λp f=>?_) ?_ ?_ (λp f=>Z.each p (tt f)) af rF ?_
  .rw[he];exact AQ _ _ Z.nodup p (tt f)
  .rw[It];exact List.Nodup.sublist (List.take_sublist _ _) Z.nodup
  .rw[et];omega
  .rw[he,fJ _ _ _ ld,me])
 have VM:n<=4096:=by obtain⟨fb,mb,l,hand,mf,f,rfl,-⟩:=h;exact f.most
 have el:=ae aE;have gt:=ae F9;have kw:=ae al;have Yc:=ae t;have ME:=ae h.keys;have am:=ae mD;have m8:=ae Y;have XZ:=ae GJ;have Yd:=hj.lt.1;have T:=hj.lt.2;clear h hj mD GJ ce hL pI iS TH fm Y gx gE fI t aE F9 al hm;unfold ptrTo at *;obtain⟨ways,Ye⟩:∃ways:Nat,(ways:Int)=n-4:=⟨n-4,af⟩;have tW:cf Mm ((n:Int)-4)=ways:=by rw[ax af af,Ye]
 have Yf:4<=ways/\ways<=4092:=af;obtain⟨Yf,mh⟩:=Yf;have nl:=ae Ye;clear Ye;go_enter func83,ntmps83;go_wp2_with fail;go_call kl.out as e D⟨v1,c1,I,H,L1,rfl,eO,af3,hc1⟩;have gy:=ae eO;have du:=ae af3;rcases hc1 with⟨rfl,rs,r,Sg,Z,rF,lP,i7,OW,Dg,dq⟩| yz
 .have X:Lk (mR n pb db jb bz cb by' w o d L out es rs.length v1 D):=ae ⟨I,H,L1,rs,r,eO,OW,Dg,dq,Z,(λx=>by rw[Sg]),rF.imp id (λh=>⟨h.1,h.2.2⟩),af,rfl⟩;obtain⟨Xx,-⟩:=OW.cells;have Yg:=ae (uZ.out D H I L1 eO.bh);clear Sg Z rF lP i7 OW Dg dq eO af3;unfold ptrTo at Xx;generalize rs.length=r0 at *;clear rs;go_wp2_with fail;go_call Yg.out as e C⟨rfl,rfl⟩;go_wp2;go_loopg [7] r0 (λleft v wr=>mR n pb db jb bz cb by' w o d L out es left v wr)
  case atStart=>exact X.out
  case round=>
   clear Xx X gy du Yg;generalize u7=v at *;generalize wr=wo at *;obtain⟨A,z,L2,rs,s,dA,de,S,ee,lp,Sh,ac,tX,Bw⟩:=hrel;have O:=ae dA;have B:=ae de;have Az:=ae S;have V:=ae ee;have J:=ae lp;have Il:=ae Sh;have eS:=ae ac;have Yh:=ae Bw;have pW:Lk (need L2<=need L+4*es.length):=ae (T2 lp ME.out dA.bh.keys Sh);have T4:Lk (∀x,¬jN out x->aI L2 x=aI L x):=ae (λx a=>by rw[Sh,fJ _ _ _ (λe=>a (Ik af ac x e))]);obtain⟨Xx,-⟩:=de.cells;unfold ptrTo at Xx;obtain⟨g,c,cap,rfl⟩:=S.shape;obtain⟨-,lE,TI,-⟩:=S.cells;unfold maxLen at TI;have mu:w.heap.size<=wo.heap.size:=dA.size;clear dA de S ee lp Sh Bw;rw[dj]at *;rcases ac with⟨x,rfl⟩|⟨nn,Ew⟩
   .have a:x=aH by' es:=by have h1:=J.out.each (out,x) ai;have h2:=J.out.all;simp only[e9,oj,FP,List.flatten_cons,List.flatten_nil,nw]at h2;rw[<- h2];exact h1.symm
    have HX:=ae a;have RR:=ae (i8.out wo z A L2 x O.out.bh (by rw[Il.out];exact AQ _ _ J.out.nodup (out,x) ai));clear a;simp only[oj,FP,it,List.length_nil]at *;go_wp2_with fail;go_call RR.out as e E⟨c3,F,G,rfl,fD,Ic⟩;have fH:=ae (O.out.trans fD (λ_ _ h=>h.elim));have BL:=ae Ic;clear fD Ic;go_wp2;go_ret;refine⟨c3,F,G,_,rfl,fH.out,λy hy=>?_,?_⟩
    .have h1:=T4.out y hy;split
     .rw[aC,if_neg (λe=>hy (.inl e)),h1]
     .exact h1
    .rcases BL.out with h | h
     .subst h;refine .inl ⟨rfl,λy=>?_⟩;rw[if_pos rfl,aC,aC,HX.out];by_cases e:y=out
      .rw[if_pos e,if_pos e]
      .rw[if_neg e,if_neg e,Il.out,fJ];simpa using e
     .have h2:=pW.out;exact .inr ((h.num af).later O.out.on.bU)
   .have P6:=ae Ew;have Si:rs.length<=1000:=af;have i6:=ae (T3 el.out gt.out eS.out);have ff:=ae (Ik af eS.out);clear Ew;generalize hN:rs.length=N at *;have P:=ae hN;clear hN;by_cases mm:ways<N
    .have J4:=ae (Jj.out wo s B.out af);have j:Lk (eu s ∉ rs.map (·.1)):=ae (λa=>by obtain⟨p,f,e⟩:=gl.1 a;obtain⟨k,hk,e'⟩:=P6.out p f;have:=AR (e'.symm.trans e);omega)
     have zu:min (ways:Int) (N:Int)=ways:=Int.min_eq_left af;have XQ:=ae (MP (k:=s) af);unfold ptrTo at J4;go_wp2_with fail;go_call J4.out as e E⟨rfl,VK,Cs⟩;have fH:Lk (Moved (λx=>x=cb\/x=jb) n pb db w o d E z A L2):=ae (O.out.turned (b:=jb) (O.out.free Yd am.out) (.inl (.inr rfl)) Cs);have CR:Lk (bT E (.slice (IT ⟨g,c,KK⟩) N cap) (rs.map (·.1))):=ae (Az.out.turn Cs (λb K e=>Nm ((V.out b K).2)));have bd:=ae VK;have R:=ae (Yb.out E z A L2 (s+1) rs ways (.slice (IT ⟨g,c,KK⟩) ways cap) (eu s) fH.out VK J.out Il.out (by rw[It];exact CR.out.take (by rw[dj,P.out];omega)) (λb K=>(V.out b K).1) (by rw[P.out];exact Si) XQ.out (gt.out s) j.out);clear VK Cs J4;unfold ptrTo at R;generalize rF:eu s=nm at *;have io:=ae rF;clear rF;go_wp2_with fail;go_call R.out as e u⟨c4,d4,o4,L4,rfl,fZ,GM,je⟩;have jg:=ae (fH.out.trans fZ (λ_ _ h=>h.elim));have Yi:Lk (∀x,¬jN out x->x≠nm/\x ∉ (rs.take ways).map (·.1)):=ae (λx a=>⟨λe=>a (.inr ⟨s,af,e.trans io.out.symm⟩),λe=>by obtain⟨p,f,e'⟩:=gl.1 e;exact a (ff.out x (gl.2 ⟨p,tt f,e'⟩))⟩)
     by_cases y5:c4=0
     .subst y5;have co:=ae (J.out.merge (q:=ways) j.out);have Yj:Lk (∀x,aI L4 x=aI (eI (merged by' rs ways nm) L) x):=ae (by
       rcases je with⟨_,e⟩| e
       .rw[e];exact Eu J.out j.out i6.out Il.out
       .exact absurd rfl e.ne)
      have PB:Lk (bT u (.slice (IT ⟨g,c,KK⟩) N cap) (rs.map (·.1))):=ae (CR.out.kept (λb K=>fZ.block (CR.out.lt b K) (V.out b K).1 (λh=>h)));have H7:Lk (o4 g=KK/\w.heap.size<=g):=ae ⟨fZ.free (CR.out.lt g rfl) (V.out g rfl).1,(V.out g rfl).2⟩;have dl:Lk (dC u jb pb bz (s+1) by'):=ae (bd.out.kept (fZ.block bd.out.lt.1 (fH.out.free Yd am.out) (λh=>h)) (fZ.block bd.out.lt.2 (fH.out.free T XZ.out) (λh=>h)));have Q:Lk (∀i,bT (u.alloc i) (.slice (IT ⟨g,c+ways,KK⟩) (N-ways) (cap-ways)) ((rs.map (·.1)).drop ways)):=ae (λi=>(PB.out.drop (by rw[dj,P.out];omega)).below (aq.alloc (cg _) i));have ks:Lk (((rs.map (·.1)).drop ways).length<=100000):=ae (by rw[ie,dj,P.out];omega);clear fZ GM je R;go_wp2_with (at_builtin;refine kr rfl _ _ 56 rfl Tryz.underlying56 rfl (Q.out _) nm ⟨u.heap.size,0,KK⟩ 1 rfl ai ks.out ?_);intro v5 U M;have GC:Lk (mR n pb db jb bz cb by' w o d L out es (N-ways+1) v5 U):=ae (by
       have Ck:(merged by' rs ways nm).length=N-ways+1:=by rw[GL,P.out]
       refine mR.next (q:=ways) jg.out dl.out Yd T rfl H7.out M zy.symm co.out Yj.out (.inr ⟨by rw[Ck];omega,λp f=>?_⟩) (by rw[Ck];omega) Ck.symm;rcases hS.1 f with f | f
       .obtain⟨k,hk,e⟩:=P6.out p (List.mem_of_mem_drop f);exact⟨k,af,e⟩
       .rw[kj.1 f];exact⟨s,Nat.lt_succ_self _,io.out.symm⟩)
      clear M;go_wp2;go_roundg (N-ways+1)
      case measure=>have:=Yh.out;omega
      case rel=>exact GC.out
     .have jj:¬(c4:Int)=0:=af;have zZ:Lk (lM d d4 (need L+8*es.length) c4):=ae (((je.resolve_left (λh=>y5 h.1)).mono (by have h1:=pW.out;have h2:=sJ rs ways;have h3:=J.out.len;omega)).later fH.out.on.bU)
      have T5:Lk (∀x,¬jN out x->aI L4 x=aI L x):=ae (λx a=>by rw[GM x (Yi.out x a).1 (Yi.out x a).2,T4.out x a]);clear y5 fZ GM je R;go_wp2;go_ret;exact⟨c4,d4,o4,L4,rfl,jg.out,T5.out,.inr zZ.out⟩
    .have j:Lk (out ∉ rs.map (·.1)):=ae (λa=>by obtain⟨p,f,e⟩:=gl.1 a;obtain⟨k,hk,e'⟩:=P6.out p f;exact kw.out k (e.symm.trans e'))
     have zu:min (ways:Int) (N:Int)=N:=Int.min_eq_right af;have R:=ae (Yb.out wo z A L2 s rs N (.slice (IT ⟨g,c,KK⟩) N cap) out O.out B.out J.out Il.out (by rw[It];exact Az.out.take (by rw[dj,P.out];exact cg _)) (λb K=>(V.out b K).1) (by rw[P.out];exact Si) Yc.out el.out j.out);unfold ptrTo at R;have mx:¬(ways:Int)<N:=af;go_wp2_with fail;go_call R.out as e u⟨c4,d4,o4,L4,rfl,fZ,GM,je⟩;have jg:=ae (O.out.trans fZ (λ_ _ h=>h.elim));have Yi:Lk (∀x,¬jN out x->x≠out/\x ∉ (rs.take N).map (·.1)):=ae (λx a=>⟨λe=>a (.inl e),λe=>by obtain⟨p,f,e'⟩:=gl.1 e;exact a (ff.out x (gl.2 ⟨p,tt f,e'⟩))⟩)
     by_cases y5:c4=0
     .subst y5;have co:=ae (J.out.merge (q:=N) j.out);have Yj:Lk (∀x,aI L4 x=aI (eI (merged by' rs N out) L) x):=ae (by
       rcases je with⟨_,e⟩| e
       .rw[e];exact Eu J.out j.out i6.out Il.out
       .exact absurd rfl e.ne)
      have PB:Lk (bT u (.slice (IT ⟨g,c,KK⟩) N cap) (rs.map (·.1))):=ae (Az.out.kept (λb K=>fZ.block (Az.out.lt b K) (V.out b K).1 (λh=>h)));have H7:Lk (o4 g=KK/\w.heap.size<=g):=ae ⟨fZ.free (Az.out.lt g rfl) (V.out g rfl).1,(V.out g rfl).2⟩;have dl:Lk (dC u jb pb bz s by'):=ae (B.out.kept (fZ.block B.out.lt.1 (O.out.free Yd am.out) (λh=>h)) (fZ.block B.out.lt.2 (O.out.free T XZ.out) (λh=>h)));have Yk:merged by' rs N out=[(out,aH by' (e9 (rs.take N)))]:=by unfold merged;rw[GP (by rw[P.out];exact cg _),DP]
      have GC:Lk (∀vd v5 U i,vd.ownBlock=IT g->nP (u.alloc i) vd [] out v5 U->mR n pb db jb bz cb by' w o d L out es 1 v5 U):=ae (λvd v5 U i kd M=>by refine mR.next (q:=N) jg.out dl.out Yd T kd H7.out M (by rw[Yk];rfl) co.out Yj.out (.inl ⟨_,Yk⟩) (by rw[Yk];simp only[lr];omega) (by rw[Yk];rfl))
      have Q:Lk (∀i,(cap=N->bT (u.alloc i) (.slice (IT ⟨g,c,KK⟩) 0 0) [])/\(N<cap->bT (u.alloc i) (.slice (IT ⟨g,c+N,KK⟩) 0 (cap-N)) [])):=ae (λi=>⟨λe=>(PB.out.abd e.symm).below (aq.alloc (cg _) i),λe=>by have:=PB.out.drop (n:=N) (by rw[dj,P.out];exact cg _);rw[Nat.sub_self,GP (by rw[dj,P.out];exact cg _)]at this;exact this.below (aq.alloc (cg _) i)⟩)
      clear fZ GM je R Yk;by_cases en:cap=N
      .have mT:=ae en;subst en;have lw:Lk (∀i,bT (u.alloc i) (.slice (IT ⟨g,c,KK⟩) 0 0) []):=ae (λi=>(Q.out i).1 rfl);go_wp2_with (at_builtin;refine kr rfl _ _ 56 rfl Tryz.underlying56 rfl (lw.out _) out ⟨u.heap.size,0,KK⟩ 1 rfl ai ai ?_);intro v5 U M;have ci:=ae (GC.out _ v5 U _ rfl M);clear M;go_wp2;go_roundg 1
       case measure=>have:=Yh.out;omega
       case rel=>exact ci.out
      .have li:N<cap:=af;go_wp2_with (at_builtin;refine kr rfl _ _ 56 rfl Tryz.underlying56 rfl ((Q.out _).2 li) out ⟨u.heap.size,0,KK⟩ 1 rfl ai ai ?_);intro v5 U M;have ci:=ae (GC.out _ v5 U _ rfl M);clear M;go_wp2;go_roundg 1
       case measure=>have:=Yh.out;omega
       case rel=>exact ci.out
     .have jj:¬(c4:Int)=0:=af;have zZ:Lk (lM d d4 (need L+8*es.length) c4):=ae (((je.resolve_left (λh=>y5 h.1)).mono (by have h1:=pW.out;have h2:=sJ rs N;have h3:=J.out.len;omega)).later O.out.on.bU)
      have T5:Lk (∀x,¬jN out x->aI L4 x=aI L x):=ae (λx a=>by rw[GM x (Yi.out x a).1 (Yi.out x a).2,T4.out x a]);clear y5 fZ GM je R;go_wp2;go_ret;exact⟨c4,d4,o4,L4,rfl,jg.out,T5.out,.inr zZ.out⟩
 .have Du:¬(c1:Int)=0:=Nm yz.ne;have uh:=ae yz;clear yz eO af3;go_wp2;go_ret;exact⟨c1,I,H,L1,rfl,gy.out,du.out,.inr uh.out⟩
end
end Go.Proofs.YtofigggbapdfhaaGreatDoor
