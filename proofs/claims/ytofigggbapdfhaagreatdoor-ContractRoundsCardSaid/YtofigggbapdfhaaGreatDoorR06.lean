/-
  Joined.
-/
import Derived.Test.YtofigggbapdfhaaGreatDoorR05
set_option maxRecDepth 100000
set_option maxHeartbeats 32000000
open Option renaming some->IT,none->KK,none->GT,isSome_none->H5
open Bool renaming true->Jd,false->J0,and_eq_true->j4
open List renaming getElem?_eq_getElem->bk,mem_of_getElem?->cx,length_map->dj,length_append->eh,length_take->et,take_of_length_le->ey,getElem?_eq_some_iff->e7,take_succ_eq_append_getElem->fh,mem_map->gl,mem_append->hS,mem_iff_getElem?->hY,take_succ_cons->ii,take_zero->j2,mem_range->j3,mem_singleton->kj,range->kk,length_filter_le->kq,map_append->k8,length_singleton->lr,all_eq_true->ms,append_nil->nw,map_cons->oj,append_assoc->o0,ext_getElem?->p5,getElem_of_mem->p6,pairwise_iff_getElem->qa,map_map->rj,mem_reverse->so,zipIdx_cons->tx,filter_append->yk,take_append_drop->Do,pairwise_cons->FC,getElem?_set_self->F4
open Nat renaming le_refl->cg,le_trans->cp,lt_of_lt_of_le->eg,zero_le->em,zero_add->j0,mul_one->sE,add_sub_cancel->ta,le_of_lt->yi,strongRecOn->IF
open Array renaming getElem?_eq_some_iff->ds,getD_eq_getD_getElem?->iD
open UInt32 renaming ofNat->h9,toNat_ofNat'->n9,toNat_inj->Cx,lt_iff_toNat_lt->F2
open UInt64 renaming ofNat->nM
open Int renaming natCast_zero->DE
namespace Go.Proofs.YtofigggbapdfhaaGreatDoor
open Go.RowKit Go.Maps Go.Sort Go
open Go.Proofs.Tryz
open Go renaming World->KX,Value->J3,Calls->K1,Ending->Lp,heap_alloc_new->Lw
open Go.RowKit renaming Below->Lg,Hid->Lk,intOf->Lo
open Go.Value renaming int->Kx,tuple->Ly
open Go.Obj renaming cells->Mi
open Go.Ending renaming returned->Mk
open Go.IntKind renaming i64->Mm,u32->Mo,u64->MJ,u8->MM
open Go.IntKind renaming wrap->cf,wrap_u32->Hz
open Go.RowKit.Below renaming heap_setCell->e8,refl->kp
open Go.Value renaming slice->fz,oneCell'->qn,bool->ID
open Go.World renaming ownsRow_nil->gp,block_lt_of_cell?->jK
variable {j w':KX}{Q:Exit->Act->KX->Prop}{ops:Array Oper}{z:ay}{A:Dsk}{r:J3}{m:Nat}{h:aL}{name:Name}{fl:Bool}
section
variable {w0 W:KX}{base g cap:Nat}{d:Array Nat}
def sW(w0:KX)(base g cap:Nat)(d:Array Nat)(e:Lp)(w':KX):Prop:=e=Mk (Ly #[])/\bI w0 base g cap d w'
theorem bI.drawn(h:bI w0 base g cap d W)(n:Nat):bI w0 base g cap d (W.drewN n):=h.below ⟨rfl,rfl,rfl,cg _,λ_ _=>rfl⟩
theorem bI.two(h:bI w0 base g cap d W)(i j:Nat)(hi:i<d.size)(a:j<d.size):∃(x y:Nat)(b:Bool),W.cell? ⟨g,i,KK⟩=IT (Kx Mo x)/\W.cell? ⟨g,j,KK⟩=IT (Kx Mo y)/\Lk (∀w,K1 prog 226 #[Kx Mo x,Kx Mo y] w λe w'=>e=Mk (.bool b)/\w'=w)/\Lk (b=bw d[i]! d[j]!):=
 ⟨_,_,_,h.cell hi,h.cell a,ae λw=>E6 _ _ w,ae rfl⟩
theorem bI.swap(h:bI w0 base g cap d W)(i j:Nat)(hi:i<d.size)(a:j<d.size):∃x y:Nat,W.cell? ⟨g,i,KK⟩=IT (Kx Mo x)/\W.cell? ⟨g,j,KK⟩=IT (Kx Mo y)/\(∀k,W.frozen? ⟨g,k,KK⟩=J0)/\(∃z:Nat,(W.setCell ⟨g,i,KK⟩ (Kx Mo y)).cell? ⟨g,j,KK⟩=IT (Kx Mo z))/\Lk (bI w0 base g cap (swp d i j) ((W.setCell ⟨g,i,KK⟩ (Kx Mo y)).setCell ⟨g,j,KK⟩ (Kx Mo x)).drew):=
 ⟨_,_,h.cell hi,h.cell a,λk=>World.ownsRow.frozenAt h.row k,⟨_,(h.put (i:=i) d[j]!).cell (by simpa using a)⟩,ae (h.nQ i j)⟩
theorem QR(h:bI w0 base g cap d W)(lo hi first:Nat)(CP:lo<=hi)(hb:first+hi<=d.size)(U:d.size<=1000000):K1 prog 264 #[.slice g d.size cap,lo,hi,first] W (sW w0 base g cap (siftDown bw hi first lo d)):=by
 obtain⟨N,L⟩:=ac d.size;rw[<- L]at hb U ⊢;have H:=ae (show _/\_/\_ from⟨h,CP,L⟩);clear h CP L;go_enter func264,ntmps264;go_wp2;go_loopw [8] (λX wr=>∃(r:Nat)(a:Array Nat),X=r/\r<=hi/\a.size=N/\bI w0 base g cap a wr/\Lk (siftDown bw hi first r a=siftDown bw hi first lo d)) (λX _=>hi-(Lo X).toNat)
 case atStart=>exact⟨lo,d,rfl,H.out.2.1,H.out.2.2.symm,H.out.1,rfl⟩
 case round=>
  obtain⟨r,a,rfl,hr,s,I,K⟩:=hrel;generalize wr=Wr at *;have T:=ae I;obtain⟨V,A⟩:=ac (2*r);obtain⟨C,hC⟩:=ac (V+1);obtain⟨c,B⟩:=ac (C+1);obtain⟨P,Z⟩:=ac (first+r);obtain⟨Q,hQ⟩:=ac (first+C);obtain⟨n,o⟩:=ac (Q+1);have ce:cf Mm (2*(r:Int))=V:=by rw[ax]<;>omega
  have wC:cf Mm ((V:Int)+1)=C:=by rw[ax]<;>omega
  have j:Lk (C=2*r+1/\c=C+1/\P=first+r/\Q=first+(2*r+1)/\n=first+(2*r+2)/\first+hi<=N/\a.size=N/\N<=1000000):=ae af;by_cases Y:C<hi
  .have S:¬(C:Int) >= hi:=af;have wP:cf Mm ((first:Int)+r)=P:=by rw[ax]<;>omega
   have wQ:cf Mm ((first:Int)+C)=Q:=by rw[ax]<;>omega
   have bd:cf Mm ((Q:Int)+1)=n:=by rw[ax]<;>omega
   have bP:(P:Int)<N:=af;have am:cf Mm ((C:Int)+1)=c:=by rw[ax]<;>omega
   obtain⟨xq,aE,b1,c1,c2,p,q⟩:∃(x y:Nat)(b:Bool),(Wr.cell? ⟨g,Q,KK⟩=IT (Kx Mo (x:Int)))/\(c<hi->Wr.cell? ⟨g,n,KK⟩=IT (Kx Mo y))/\Lk (∀w,K1 prog 226 #[Kx Mo (x:Int),Kx Mo y] w λe w'=>e=Mk (.bool b)/\w'=w)/\Lk ((decide (c<hi) && b)=(decide (2*r+2<hi) && bw a[first+(2*r+1)]! a[first+(2*r+2)]!)):=
    ⟨_,a[n]!,_,I.cell af,λh=>I.cell af,ae λw=>E6 _ _ w,ae (by rw[show Q=first+(2*r+1) by omega,show n=first+(2*r+2) by omega,show c=2*r+2 by omega])⟩
   have bQ:(Q:Int)<N:=af;clear I A hC B Z hQ o s;go_upto_region 3 with fail
   go_cut [36] from 17 to 35 (λv R=>v=.bool (decide (c<hi) && b1)/\bI w0 base g cap a R)
   case first=>
    by_cases f:c<hi
    .have F:Lk (decide (c<hi)=Jd):=ae (decide_eq_true f);have M:=F.out;have al:(n:Int)<N:=Nm j.out;have c3:=c2 f;clear f c2;go_wp2_with fail;go_quiet ((go_at_call 226;exact Calls.quiet_of_same (p.out _)))
     have l:=ae (T.out.drawn nq);go_wp2;go_meet
     exact⟨by rw[F.out];rfl,l.out⟩
    .have F:Lk (decide (c<hi)=J0):=ae (decide_eq_false f);have M:=F.out;clear f c2;go_wp2_with fail;go_quiet (fail)
     have l:=ae (T.out.drawn nq);go_wp2;go_meet
     exact⟨by rw[F.out];rfl,l.out⟩
   case rest=>
    obtain⟨rfl,r8⟩:=hcut;have l:=ae r8;clear r8 c1 c2 p;generalize wc=W4 at *;generalize r9:(decide (c<hi) && b1)=J at *;obtain⟨D,m⟩:=ac (if J=Jd then c else C);have k:Lk (D=(if J=Jd then 2*r+2 else 2*r+1)/\D<hi/\r<D):=ae (by
     have hx:=j.out;rw[m];cases J
     .simp;omega
     .simp at r9 ⊢;omega)
    go_upto_if 36 with fail
    go_cut [9] from 37 to 38 (λv R=>v=D/\W4=R)
    case first=>
     cases J
     .simp at m;subst m;go_wp2;go_meet;exact⟨rfl,rfl⟩
     .simp at m;subst m;go_wp2;go_meet;exact⟨rfl,rfl⟩
    case rest=>
     obtain⟨rfl,rfl⟩:=hcut;obtain⟨E,hE⟩:=ac (first+D);have t:P<a.size/\E<a.size:=No k.out j.out;have i:=ae (UQ (lt:=bw) (d:=a) (first:=first) (show 2*r+1<hi by have:=j.out;omega) q.out k.out.1);rw[<- hE,<- j.out.2.2.1]at i;have wE:cf Mm ((first:Int)+D)=E:=by have:=k.out;have:=j.out;rw[ax]<;>omega
     have bE:(E:Int)<N:=Nm j.out;have HB:=ae (show _/\_/\¬E=P from⟨t.1,t.2,No k.out j.out⟩);obtain⟨x,y,cb,x0,y0,p,G⟩:=l.out.two P E t.1 t.2;rw[<- G.out]at i;clear m hE t Y r9 q;go_wp2_with fail;go_quiet ((go_at_call 226;exact Calls.quiet_of_same (p.out _)))
     have cE:=ae (l.out.drawn nq);generalize W4.drewN nq=W5 at *;cases cb
     .have O:Lk (siftDown bw hi first lo d=a):=ae (by rw[<- K.out,i.out];rfl);go_wp2;go_returns;exact⟨rfl,by rw[O.out];exact cE.out⟩
     .obtain⟨u,v,u0,v0,ew,⟨z,hz⟩,HQ⟩:=cE.out.swap P E HB.out.1 HB.out.2.1;clear x0 y0 p G;go_wp2_with fail;go_big_region
      all_goals
       clear u0 v0 ew hz;go_wp2;exact⟨⟨D,_,rfl,Nm k.out,by rw[size_swp];exact j.out.2.2.2.2.2.2.1,HQ.out,by show siftDown _ _ _ _ _=_;rw[<- K.out,i.out];rfl⟩,Xd k.out⟩
  .have S:(C:Int) >= hi:=af;have O:Lk (siftDown bw hi first lo d=a):=ae (by rw[<- K.out];exact Zh af);clear I A hC B Z hQ o s;go_wp2;go_returns;exact⟨rfl,by rw[O.out];exact T.out⟩
end
section
variable {w0 W:KX}{base g cap:Nat}{d:Array Nat}
theorem QS(h:bI w0 base g cap d W)(a b:Nat)(C:a<b)(L:b<=d.size)(p:d.size<=1000000):K1 prog 221 #[.slice g d.size cap,a,b] W (sW w0 base g cap (heapSort bw d a b)):=by
 obtain⟨N,F⟩:=ac d.size;rw[<- F]at L p ⊢;obtain⟨n,I⟩:=ac (b-a);obtain⟨M,B⟩:=ac ((n-1)/2);have H:Lk (∀(W:KX)(i:Array Nat),i.size=N->bI w0 base g cap i W->∀(lo hi:Nat),lo<=hi->hi<=n->K1 prog 264 #[.slice g N cap,lo,hi,a] W λe w'=>e=Mk (Ly #[])/\bI w0 base g cap (siftDown bw hi a lo i) w'/\(siftDown bw hi a lo i).size=N):=ae (λW i l h lo hi O h2=>by rw[<- l];exact(QR h lo hi a O af af).mono λe w' h=>⟨h.1,h.2,size_siftDown _ hi a hi lo i af⟩)
 have s:Lk (heapSort bw d a b=heapPop bw a n (heapBuild bw n a (M+1) d)/\bI w0 base g cap d W/\d.size=N/\M<=n/\a+n<=N/\N<=1000000):=ae ⟨by unfold heapSort;rw[<- I,<- B],h,af,af,af,p⟩;have w1:cf Mm ((b:Int)-a)=n:=by rw[ax]<;>omega
 have w2:cf Mm ((n:Int)-1)=n-1:=ax af af;have w3:cf Mm (((n:Int)-1).tdiv 2)=(M:Int):=by rw[show((n:Int)-1)=((n-1:Nat):Int) by omega,B,show(((n-1:Nat):Int)).tdiv 2=(((n-1)/2:Nat):Int) from rfl];exact ax af af
 have S:(a:Int)<N:=af;clear h F I B C L;go_enter func221,ntmps221;go_wp2;go_loopw [9] (λj wr=>∃(z:Int)(k:Nat)(i:Array Nat),j=Kx Mm z/\z=(k:Int)-1/\k<=M+1/\i.size=N/\bI w0 base g cap i wr/\Lk (heapBuild bw n a k i=heapBuild bw n a (M+1) d)) (λj _=>(Lo j+1).toNat)
 case atStart=>exact⟨(M:Int),M+1,d,rfl,af,cg _,s.out.2.2.1,s.out.2.1,rfl⟩
 case round=>
  obtain⟨z,k,i,rfl,r,A,f,l,E⟩:=hrel;generalize wr=Y at *;have w:=ae (show _/\_ from⟨f,l⟩);have u:=ae (show k<=M+1/\M<=n/\n<=1000000 by have:=s.out;omega);clear f l A;cases k with
  |succ c=>
    obtain rfl:z=(c:Int):=af
    have D:¬(c:Int)<0:=af;have U:cf Mm ((c:Int)-1)=c-1:=by have:=u.out;rw[ax]<;>omega
    have m:=ae (H.out Y i w.out.1 w.out.2 c n (Nm u.out) (cg _));clear r;go_wp2_with fail;go_call m.out as e w5⟨rfl,hs5⟩;have q:=ae hs5;clear hs5 m;go_wp2;exact⟨⟨_,c,_,rfl,rfl,Nm u.out,q.out.2,q.out.1,E.out⟩,by simp[Lo]⟩
  |zero=>
    obtain rfl:z=-1:=af
    clear r u;go_wp2;go_loopw [10] (λj wr=>∃(z:Int)(k:Nat)(o:Array Nat),j=Kx Mm z/\z=(k:Int)-1/\k<=n/\o.size=N/\bI w0 base g cap o wr/\Lk (heapPop bw a k o=heapSort bw d a b)) (λj _=>(Lo j+1).toNat)
    case atStart=>exact⟨(n:Int)-1,n,i,rfl,rfl,cg _,w.out.1,w.out.2,ae (by rw[s.out.1,<- E.out];rfl)⟩
    case round=>
     obtain⟨z,k,o,rfl,r,A,f,l,G⟩:=hrel;generalize wr=Wj at *;have K:=ae (show _/\_ from⟨f,l⟩);clear l;cases k with
     |zero=>
       obtain rfl:z=-1:=af
       clear r A f;go_wp2;go_returns;exact⟨rfl,by rw[<- G.out];exact K.out.2⟩
     |succ c=>
       obtain rfl:z=(c:Int):=af
       have D:¬(c:Int)<0:=af;have P:=s.out;have U:cf Mm ((c:Int)-1)=c-1:=by rw[ax]<;>omega
       obtain⟨Q,J⟩:=ac (a+c);have wQ:cf Mm ((a:Int)+c)=Q:=by rw[ax]<;>omega
       have Z:(Q:Int)<N:=af;obtain⟨x,y,R,T,V,⟨v,v0⟩,X⟩:=K.out.2.swap a Q af af;have m:=ae (H.out _ (swp o a Q) (by rw[size_swp];exact f) X.out 0 c (em _) af);have t:Lk (heapPop bw a c (siftDown bw c a 0 (swp o a Q))=heapSort bw d a b/\c<=n):=ae ⟨by rw[J,<- G.out];rfl,af⟩;simp only[DE]at m;clear r A f J P;go_wp2_with fail;go_big_region
       all_goals
        clear R T V v0;go_wp2_with fail;go_call m.out as e w5⟨rfl,hs5⟩;have q:=ae hs5;clear hs5 m;go_wp2;exact⟨⟨_,c,_,rfl,rfl,t.out.2,q.out.2,q.out.1,ae t.out.1⟩,by simp[Lo]⟩
theorem ag2{a:Type}[Inhabited a]{i j:Nat}{d:Array a}(h:i<j):reverseLoop i j d=reverseLoop (i+1) (j-1) (swp d i j):=by
 conv=>lhs;unfold reverseLoop
 rw[if_pos h]
theorem Zi{a:Type}[Inhabited a]{i j:Nat}{d:Array a}(h:¬i<j):reverseLoop i j d=d:=by unfold reverseLoop;rw[if_neg h]
theorem G5(h:bI w0 base g cap d W)(a b:Nat)(q:a<b)(t:b<=d.size)(e:d.size<=1000000):K1 prog 224 #[.slice g d.size cap,a,b] W (sW w0 base g cap (reverseRange d a b)):=by
 obtain⟨N,l⟩:=ac d.size;rw[<- l]at t e ⊢;obtain⟨J,s⟩:=ac (b-1);have I:cf Mm ((b:Int)-1)=J:=by rw[ax]<;>omega
 have H:=ae (show _/\_/\_/\reverseRange d a b=reverseLoop a J d/\a<=N/\N<=1000000 from⟨h,l.symm,show J<N by omega,by unfold reverseRange;rw[s],af,e⟩);rw[H.out.2.2.2.1];clear h l s q t e;go_enter func224,ntmps224;go_wp2;go_loopw [6,7] (λE o wr=>∃(i j:Nat)(f:Array Nat),E=i/\o=j/\i<=N/\j<N/\f.size=N/\bI w0 base g cap f wr/\Lk (reverseLoop i j f=reverseLoop a J d)) (λ_ o _=>(Lo o).toNat)
 case atStart=>exact⟨a,J,d,rfl,rfl,H.out.2.2.2.2.1,H.out.2.2.1,H.out.2.1,H.out.1,rfl⟩
 case round=>
  obtain⟨i,j,f,rfl,rfl,hi,B,c,n,r⟩:=hrel;generalize wr=F at *;by_cases p:i<j
  .obtain⟨k,rfl⟩:∃k,j=k+1:=⟨j-1,af⟩;have l:=H.out;have u:(i:Int)<k+1:=af;have O:cf Mm ((i:Int)+1)=(i+1:Nat):=by rw[ax]<;>omega
   have M:cf Mm (k:Int)=k:=by rw[ax]<;>omega
   have P:(i:Int)<N:=af;have K:(k:Int)+1<(N:Int):=af;have L:(0:Int)<=k+1:=af;have G:((k:Int)+1).toNat=k+1:=af;obtain⟨x,y,z,C,D,⟨v,v0⟩,w⟩:=n.swap i (k+1) af af;have m:Lk (reverseLoop (i+1) k (swp f i (k+1))=reverseLoop a J d/\i+1<=N/\k<N/\f.size=N):=ae ⟨by rw[<- r.out,ag2 p];rfl,af,af,c⟩;clear n c hi B p l;go_wp2_with fail;go_big_region
   all_goals
    clear z C D v0;go_wp2;exact⟨⟨i+1,k,_,rfl,rfl,m.out.2.1,m.out.2.2.1,by rw[size_swp];exact m.out.2.2.2,w.out,ae m.out.1⟩,by simp[Lo]⟩
  .have u:¬(i:Int)<j:=af;have A:=ae (show bI w0 base g cap (reverseLoop a J d) F by rw[<- r.out,Zi p];exact n);clear n c;go_wp2;go_returns;exact⟨rfl,A.out⟩
end
section
variable {w0 W:KX}{base g cap c s:Nat}{d:Array Nat}{v:J3}
structure fS(w0:KX)(base g cap:Nat)(d:Array Nat)(c:Nat)(v:J3)(W:KX):Prop where
 num:bI w0 base g cap d W
 box:∃T,W.heap[c]? = IT (Mi #[v] T (0,0))
 new:w0.heap.size<=c
 ng:c≠g
theorem fS.cell(h:fS w0 base g cap d c v W):W.cell? c=IT v/\W.frozen? ⟨c,0,KK⟩=false:=by obtain⟨T,a⟩:=h.box;exact⟨by rw[au a];rfl,aO a _⟩
theorem fS.drawn(h:fS w0 base g cap d c v W)(n:Nat):fS w0 base g cap d c v (W.drewN n):=⟨h.num.drawn n,h.box,h.new,h.ng⟩
theorem fS.put(h:fS w0 base g cap d c v W)(u:J3):fS w0 base g cap d c u (W.setCell c u):=by obtain⟨T,i⟩:=h.box;have f:aN (·=c) W (W.setCell c u):=aN.setCell (aN.refl _ _) _ _ (.inl rfl);exact⟨⟨f.ownsRow h.num.row (λb a e=>h.ng (by cases a;exact e.symm)),h.num.turn.setCell _ _ (.inr h.new)⟩,⟨T,by rw[aS i];rfl⟩,h.new,h.ng⟩
theorem fS.SF(h:bI w0 base g cap d W)(v:J3)(T:TypeId):fS w0 base g cap d W.heap.size v (W.alloc (Mi #[v] T)):=by refine⟨h.below aj,⟨T,Lw W _⟩,h.turn.size,λe=>?_⟩;have:=(aA h.row g rfl).1;omega
def SG(w0:KX)(base g cap:Nat)(d:Array Nat)(c a b s:Nat)(e:Lp)(w':KX):Prop:=
 ∃x y t:Nat,e=Mk (Ly #[x,y])/\fS w0 base g cap d c t w'/\order2 bw d a b s=(x,y,t)/\x<d.size/\y<d.size/\t<=s+1
def acy(w0:KX)(base g cap:Nat)(d:Array Nat)(c a b k s:Nat)(e:Lp)(w':KX):Prop:=
 ∃m t:Nat,e=m/\fS w0 base g cap d c t w'/\median bw d a b k s=(m,t)
theorem uF(h:fS w0 base g cap d c s W)(a b:Nat)(k:a<d.size)(m:b<d.size)(L:s<=1000):K1 prog 285 #[.slice g d.size cap,a,b,ptrTo c] W
  (SG w0 base g cap d c a b s):=by
 have H:=ae (show _/\a<d.size/\b<d.size from⟨h,k,m⟩);have A:(a:Int)<d.size:=af;have F:(b:Int)<d.size:=af;have K:cf Mm ((s:Int)+1)=(s+1:Nat):=by rw[ax]<;>omega
 obtain⟨x,y,r,w,E,v,p⟩:=h.num.two b a m k;have n:Lk (order2 bw d a b s=cond r (b,a,s+1) (a,b,s)):=ae (by unfold order2;rw[p.out];cases bw d[b]! d[a]! <;> rfl);clear h k m p;obtain⟨N,e⟩:=ac d.size;rw[<- e]at H A F ⊢;obtain⟨l,f⟩:=ac (SG w0 base g cap d c a b s);rw[<- f];have o:Lk (∀x y t j,fS w0 base g cap d c (Kx Mm ((t:Nat):Int)) j->order2 bw d a b s=(x,y,t)->x<N->y<N->t<=s+1->l (Mk (Ly #[Kx Mm (x:Int),Kx Mm (y:Int)])) j):=ae (λx y t j u C z q B=>by rw[f];exact⟨x,y,t,rfl,u,C,by rw[<- e];exact z,by rw[<- e];exact q,B⟩);unfold ptrTo;clear e f;go_enter func285,ntmps285;go_wp2_with fail;go_quiet ((go_at_call 226;exact Calls.quiet_of_same (v.out _)))
 have i:=ae (H.out.1.drawn nq);clear w E;generalize W.drewN nq=J at *;cases r
 .go_wp2;exact o.out _ _ _ _ i.out n.out H.out.2.1 H.out.2.2 af
 .have D:=ae (i.out.put (s+1:Nat));obtain⟨I,G⟩:=i.out.cell;go_wp2;exact o.out _ _ _ _ D.out n.out H.out.2.2 H.out.2.1 af
theorem KB(h:fS w0 base g cap d c s W)(a b k:Nat)(o:a<d.size)(q:b<d.size)(n:k<d.size)(r:s<=900):K1 prog 266 #[.slice g d.size cap,a,b,k,ptrTo c] W
  (acy w0 base g cap d c a b k s):=by have j:=ae (uF h a b o q af);clear h;unfold ptrTo at *;go_enter func266,ntmps266;go_wp2_with fail;go_call j.out as e w1⟨x1,y1,t1,rfl,n1,o1,p1,q1,r1⟩;have i:=ae (uF n1 y1 k q1 n af);have m:=ae o1;clear n1 o1 j;unfold ptrTo at i;go_wp2_with fail;go_call i.out as e w2⟨x2,y2,t2,rfl,n2,o2,p2,q2,r2⟩;have f:=ae (uF n2 x1 x2 p1 p2 af);have p:=ae o2;clear n2 o2 i;unfold ptrTo at f;go_wp2_with fail;go_call f.out as e w3⟨x3,y3,t3,rfl,n3,o3,-⟩;have l:=ae (show _/\_ from⟨o3,n3⟩);clear n3 o3 f;go_wp2;go_ret;exact⟨y3,t3,rfl,l.out.2,by unfold median;simp only[m.out,p.out,l.out.1]⟩
theorem N8(h:bI w0 base g cap d W)(a b:Nat)(B:12<b-a)(o:b-a<50)(M:b<=d.size)(s:d.size<=1000000):K1 prog 223 #[.slice g d.size cap,a,b] W λe w'=>e=Mk (Ly #[(choosePivot bw d a b).1,(pZ (choosePivot bw d a b).2)])/\bI w0 base g cap d w':=by
 have x:=ae (fS.SF h (0:Nat) 3);obtain⟨L,H⟩:=ac (b-a);obtain⟨Q,y⟩:=ac ((b-a)/4);obtain⟨u,k⟩:=ac (Q*2);obtain⟨n,l⟩:=ac (Q*3);obtain⟨I,v⟩:=ac (a+Q);obtain⟨J,A⟩:=ac (a+u);obtain⟨K,hK⟩:=ac (a+n);have S:cf Mm ((b:Int)-a)=L:=by rw[ax]<;>omega
 have U:cf Mm ((L:Int)/4)=Q:=by rw[ax]<;>omega
 have E:cf Mm (Q:Int)=Q:=ax af af;have C:cf Mm ((Q:Int)*2)=u:=by rw[ax]<;>omega
 have D:cf Mm ((Q:Int)*3)=n:=by rw[ax]<;>omega
 have Z:cf Mm ((a:Int)+Q)=I:=by rw[ax]<;>omega
 have Y:cf Mm ((a:Int)+u)=J:=by rw[ax]<;>omega
 have T:cf Mm ((a:Int)+n)=K:=by rw[ax]<;>omega
 have V:¬(L:Int)<8:=af;have F:(L:Int)<50:=af;have w:=ae (λG(R:fS w0 base g cap d W.heap.size (0:Nat) G)=>KB R I J K af af af af);have p:Lk (∀m,median bw d I J K 0=m->choosePivot bw d a b=(m.1,if m.2=0 then .increasing else if m.2=12 then .decreasing else .unknown)):=ae (λm i=>by rw[v,A,hK,k,l,y,<- sE ((b-a)/4)]at i;rw[sE ((b-a)/4)]at i;unfold choosePivot;simp only[ge_iff_le,show 8<=b-a by omega,show ¬50<=b-a by omega,if_true,if_false,sE,i])
 clear h H y k l v A hK B o M s;unfold ptrTo at *;generalize d.size=N at *;generalize choosePivot bw d a b=r at p ⊢;go_enter func223,ntmps223;go_wp2_with fail;go_call(w.out _ x.out) as e w4⟨m,t,rfl,h4,i⟩;have j:=ae (show _/\_ from⟨h4.num,p.out _ i⟩);obtain⟨c,-⟩:=h4.cell;clear h4 i w p x;by_cases q:t=0
 .subst q;simp only[DE]at c;go_wp2;go_ret2;rw[j.out.2];exact⟨rfl,j.out.1⟩
 .by_cases f:t=12
  .subst f;have X:w4.cell? W.heap.size=IT (Kx Mm 12):=c;clear c;go_wp2;go_ret2;rw[j.out.2];exact⟨rfl,j.out.1⟩
  .have P:((t:Int) == 0)=false:=beq_false_of_ne af;have O:((t:Int) == 12)=false:=beq_false_of_ne af;have z:=ae (show _/\_ from⟨q,f⟩);clear q f;go_wp2;go_ret2;rw[j.out.2];simp only[z.out.1,z.out.2,if_false];exact⟨rfl,j.out.1⟩
end
section
variable {w0 W:KX}{base g cap c:Nat}{d:Array Nat}{v:J3}
theorem fS.swap(h:fS w0 base g cap d c v W)(i j:Nat)(hi:i<d.size)(e:j<d.size):∃x y:Nat,W.cell? ⟨g,i,KK⟩=IT (Kx Mo x)/\W.cell? ⟨g,j,KK⟩=IT (Kx Mo y)/\(∀k,W.frozen? ⟨g,k,KK⟩=J0)/\(∃z:Nat,(W.setCell ⟨g,i,KK⟩ (Kx Mo y)).cell? ⟨g,j,KK⟩=IT (Kx Mo z))/\Lk (fS w0 base g cap (swp d i j) c v ((W.setCell ⟨g,i,KK⟩ (Kx Mo y)).setCell ⟨g,j,KK⟩ (Kx Mo x)).drew):=by obtain⟨x,y,l,m,a,b,f⟩:=h.num.swap i j hi e;obtain⟨T,n⟩:=h.box;have o:aN (·=g) W ((W.setCell ⟨g,i,KK⟩ (Kx Mo y)).setCell ⟨g,j,KK⟩ (Kx Mo x)).drew:=(((aN.refl (·=g) W).setCell _ _ (.inl rfl)).setCell _ _ (.inl rfl)).drew;exact⟨x,y,l,m,a,b,ae ⟨f.out,⟨T,o.heap n h.ng⟩,h.new,h.ng⟩⟩
theorem N9(h:bI w0 base g cap d W)(a b:Nat)(hl:12<b-a)(hb:b<=d.size)(q:d.size<=1000000):K1 prog 222 #[.slice g d.size cap,a,b] W (sW w0 base g cap (breakPatterns d a b)):=by
 obtain⟨L,hL⟩:=ac (b-a);obtain rfl:b=a+L:=af
 rw[breakPatterns_eq d a L af];obtain⟨M,C⟩:∃M:Nat,M=1 <<< bitsLen L:=⟨_,rfl⟩;have Lc:1<=M/\M<=2*L:=by rw[C,Nat.one_shiftLeft];exact⟨Nat.two_pow_pos _,two_pow_bitsLen_le af⟩
 have o:Lk (∀A,K1 prog 188 #[Kx Mm (L:Int)] A λe w'=>e=Mk (Kx MJ M)/\w'=A):=ae (λA=>by rw[C];exact AnyF.nextPowerOfTwo (P:=prog) (ρ:=Tryz.sortEdges_ren) { Tryz.sortEdges with } L af A)
 rw[<- C];obtain⟨N,Y⟩:=ac d.size;rw[<- Y]at hb q ⊢;obtain⟨Q,hQ⟩:=ac (L/4);obtain⟨R,D⟩:=ac (Q*2);obtain⟨s,K⟩:=ac (a+R);obtain⟨E,hE⟩:=ac (s+1);obtain⟨B,hB⟩:=ac (s-1);obtain⟨BN,m⟩:=ac (a+L);have wL:cf Mm ((BN:Int)-a)=L:=by rw[ax]<;>omega
 have bd:cf MJ (L:Int)=L:=iQ _ af af;have wQ:cf Mm ((L:Int)/4)=Q:=by rw[ax]<;>omega
 have al:cf Mm ((Q:Int)*2)=R:=by rw[ax]<;>omega
 have ce:cf Mm ((a:Int)+R)=s:=by rw[ax]<;>omega
 have wE:cf Mm ((s:Int)+1)=E:=by rw[ax]<;>omega
 have wB:cf Mm ((s:Int)-1)=B:=by rw[ax]<;>omega
 have wM:cf MJ ((M:Int)-1)=M-1:=iQ _ af af;have l8:¬(L:Int)<8:=af;have k:Lk (E=B+2/\B+3<=a+L/\a+L<=N/\a<=B/\8<=L/\1<=M/\M<=2*L/\L<=N/\N<=1000000/\d.size=N):=ae af;have F:=ae (fS.SF h (Kx MJ (L:Int)) 264);rw[show a+L/4*2-1=B by omega,<- m];clear h hL C Lc Y hQ D K hE hB m hb q hl;unfold ptrTo at *;go_enter func222,ntmps222;go_wp2_with fail;generalize W.heap.size=rb at F ⊢;generalize W.alloc (Mi #[Kx MJ (L:Int)] 264)=W1 at F ⊢;go_call(o.out _) as e w'⟨rfl,hw'⟩;obtain rfl:=hw';clear o;go_wp2;go_loopw [9] (λU wr=>∃(i t:Nat)(r:UInt64)(c:Array Nat),U=i/\t<=3/\c.size=N/\fS w0 base g cap c rb r wr/\Lk (i=B+t)/\Lk (bpRest a L M B (3-t) t (r,c)=bpRest a L M B 3 0 (nM L,d))) (λU _=>B+3-(Lo U).toNat)
 case atStart=>refine⟨B,0,nM L,d,rfl,af,k.out.2.2.2.2.2.2.2.2.2,?_,ae rfl,rfl⟩;rw[show(nM L).toNat=L from by rw[UInt64.toNat_ofNat'];have:=k.out;omega];exact F.out
 case round=>
  obtain⟨i,t,r,c,rfl,ht,p,l,hi,v⟩:=hrel;generalize wr=X at *;by_cases Cs:t<3
  .obtain⟨R',f⟩:∃R':Nat,R'=xorNextN r.toNat:=⟨_,rfl⟩;obtain⟨O,w⟩:∃O:Nat,O=R' &&& (M-1):=⟨_,rfl⟩;have hx:=k.out;have u:=hi.out;have lO:O<=M-1:=by rw[w];exact Nat.and_le_right
   have aE:bits .and MJ (R':Int) ((M:Int)-1)=(O:Int):=by rw[show((M:Int)-1)=((M-1:Nat):Int) by omega,bits_and_u64_nat _ _ (by rw[f];exact xorNextN_lt _ r.toNat_lt) af,w]
   obtain⟨V,I⟩:=ac (if O >= L then O-L else O);have n:V<L/\(L<=O->V=O-L)/\(¬L<=O->V=O):=by rw[I];split<;>omega
   obtain⟨P,Z⟩:=ac (a+V);have Em:Lk (K1 prog 189 #[.pointer rb] X λe w'=>e=Mk (Kx MJ R')/\fS w0 base g cap c rb (xorNext r) w'):=ae ((AnyF.xorshift_Next (P:=prog) (ρ:=Tryz.sortEdges_ren) { Tryz.sortEdges with } rb 0 r.toNat r.toNat_lt X l.cell.1 l.cell.2).mono λe w' ⟨h1,h2⟩=>by rw[f];refine⟨h1,?_⟩;rw[h2,xorNext_toNat];exact(l.put _).drawn 3)
   have T:(i:Int)<=E:=af;have bi:(i:Int)<N:=af;have bP:(P:Int)<N:=af;have wO:cf Mm (O:Int)=O:=ax af af;have am:cf Mm ((i:Int)+1)=(i+1:Nat):=by rw[ax]<;>omega
   have wP:cf Mm ((a:Int)+V)=P:=by rw[ax]<;>omega
   have S:Lk (bpRest a L M B (3-(t+1)) (t+1) (xorNext r,swp c i P)=bpRest a L M B 3 0 (nM L,d)):=ae (by rw[<- v.out,bp_step a L M B t r c V Cs (by rw[I,w,f,xorNext_toNat]),u,Z])
   have j:=ae (show _/\i<c.size/\P<c.size/\O<=2000000/\i+1=B+(t+1)/\t+1<=3/\c.size=N from⟨n,af,af,af,af,af,p⟩);clear f w lO I n Z l hi hx u v ht Cs p;go_wp2_with fail;go_call Em.out as e w2⟨rfl,hb2⟩;have cA:=ae hb2;clear hb2 Em;go_upto_if 43 with fail
   go_cut [10] from 41 to 46 (λvo wx=>vo=Kx Mm (V:Int)/\w2=wx)
   case first=>
    by_cases J:L<=O
    .have H:(O:Int) >= L:=af;have wV:cf Mm ((O:Int)-L)=V:=by have:=j.out;have:=k.out;rw[ax]<;>omega
     go_wp2;go_meet
     exact⟨rfl,rfl⟩
    .have H:¬(O:Int) >= L:=af;have G:V=O:=j.out.1.2.2 J;go_wp2;go_meet
     exact⟨by rw[G],rfl⟩
   case rest=>
    obtain⟨rfl,rfl⟩:=hcut;obtain⟨x,y,x0,y0,ew,⟨z,z0⟩,HD⟩:=cA.out.swap i P j.out.2.1 j.out.2.2.1;go_wp2_with fail;go_big_region
    all_goals
     clear x0 y0 ew z0;go_wp2;exact⟨⟨i+1,t+1,xorNext r,_,rfl,j.out.2.2.2.2.2.1,by rw[size_swp];exact j.out.2.2.2.2.2.2,HD.out,ae j.out.2.2.2.2.1,S⟩,by have:=j.out;have:=k.out;simp[Lo];omega⟩
  .have T:¬(i:Int)<=E:=No k.out hi.out;obtain rfl:t=3:=af
   have HS:=ae (show bI w0 base g cap (bpRest a L M B 3 0 (nM L,d)) X by rw[<- v.out];exact l.num);clear l v hi;go_wp2;go_returns;exact⟨rfl,HS.out⟩
end
section
variable {w0 W:KX}{base g cap:Nat}{d:Array Nat}
def QT(w0:KX)(base g cap:Nat)(r:Nat×Bool×Array Nat)(e:Lp)(w':KX):Prop:=e=Mk (Ly #[r.1,.bool r.2.1])/\bI w0 base g cap r.2.2 w'
theorem QU(h:bI w0 base g cap d W)(a b pv:Nat)(ce:a<=pv)(Td:pv<b)(m:b<=d.size)(am:d.size<=1000000):K1 prog 228 #[.slice g d.size cap,a,b,pv] W (QT w0 base g cap (partition bw d a b pv)):=by
 have H:=ae h;obtain⟨N,hN⟩:=ac d.size;rw[<- hN]at m am ⊢;obtain⟨J,hJ⟩:=ac (b-1);have wJ:cf Mm ((b:Int)-1)=J:=by rw[ax]<;>omega
 have wI:cf Mm ((a:Int)+1)=(a+1:Nat):=by rw[ax]<;>omega
 have ba:(a:Int)<N:=af;have bp:(pv:Int)<N:=af;have HX:Lk (a<d.size/\pv<d.size/\J<N/\a<=J/\N<=1000000/\b-1=J/\d.size=N):=ae af;obtain⟨D,hD⟩:=ac (swp d a pv);obtain⟨r,hr⟩:=ac (partition bw d a b pv);rw[<- hr];have FT:=ae (show _/\_ from⟨hD,hr⟩);clear h hJ ce Td m am hN hD hr;go_enter func228,ntmps228;go_upto_region 1 with fail
 go_cut [] from 12 to 25 (λA=>bI w0 base g cap (swp d a pv) A)
 case first=>
  obtain⟨x,y,B,E,R,⟨z,z0⟩,S⟩:=H.out.swap a pv (Nm HX.out) (Nm HX.out);go_big_region
  all_goals
   clear B E R z0;go_wp2;go_meet
   exact S.out
 case rest=>
  have ko:=ae (show bI w0 base g cap D _ by rw[FT.out.1];exact hcut);have K:Lk (D.size=N/\a+1<=J+1/\J<N/\1<=a+1/\a<N/\N<=1000000/\a<a+1):=ae (by have:=HX.out;rw[FT.out.1,size_swp];omega);clear hcut H;go_upto_block 0 with fail
  go_cut [10] from 30 to 45 (λn A=>∃i:Nat,n=i/\bI w0 base g cap D A/\Lk (i=scanUp (λx=>bw x D[a]!) D J (a+1)))
  case first=>
   go_wp2_with fail;go_loopw [10] (λn wr=>∃i:Nat,n=i/\(a+1)<=i/\i<=J+1/\bI w0 base g cap D wr/\Lk (scanUp (λx=>bw x D[a]!) D J i=scanUp (λx=>bw x D[a]!) D J (a+1))) (λn _=>J+1-(Lo n).toNat)
   case atStart=>exact⟨(a+1),rfl,Nm K.out,Nm K.out,ko.out,rfl⟩
   case round=>
    obtain⟨i,rfl,I,L,k,p⟩:=hrel;have F:=ae k;by_cases w:i<=J
    .have O:(i:Int)<=J:=af;have bi:(i:Int)<N:=Nm K.out;have wi:cf Mm ((i:Int)+1)=(i+1:Nat):=by have:=K.out;rw[ax]<;>omega
     obtain⟨x,y,b,B,E,V,m⟩:=k.two i a (Nm K.out) (Nm K.out);have C:Lk (b=J0->i=scanUp (λx=>bw x D[a]!) D J (a+1)):=ae λe=>by rw[<- p.out,scanUp_end _ _ _ _ (.inr (by rw[e]at m;simp[<- m.out]))]
     have U:Lk (b=Jd->scanUp (λx=>bw x D[a]!) D J (i+1)=scanUp (λx=>bw x D[a]!) D J (a+1)/\(a+1)<=(i+1)/\(i+1)<=J+1):=ae λe=>⟨by rw[<- p.out,scanUp_go _ _ _ _ w (by rw[e]at m;simp[<- m.out])],Nm K.out,af⟩;have X:=ae w;clear k I L m w p;go_wp2_with fail;go_quiet ((go_at_call 226;exact Calls.quiet_of_same (V.out _)))
     have s:=ae (F.out.drawn nq);clear F B E;cases b
     .go_wp2;go_meet
      exact⟨i,rfl,s.out,ae (C.out trivial)⟩
     .have G:=U.out rfl;have al:=X.out;have r9:=K.out;go_wp2;exact⟨⟨(i+1),rfl,G.2.1,G.2.2,s.out,ae G.1⟩,Xg⟩
    .have O:¬(i:Int)<=J:=af;have C:Lk (i=scanUp (λx=>bw x D[a]!) D J (a+1)):=ae (by rw[<- p.out,scanUp_end _ _ _ _ (.inl w)]);clear k I L p;go_wp2_with fail;go_quiet (fail)
     have s:=ae (F.out.drawn nq);go_wp2;go_meet
     exact⟨i,rfl,s.out,C⟩
  case rest=>
   obtain⟨f,rfl,k,tI⟩:=hcut;have fP:=ae k;have Y:=KA tI.out (Nm K.out);have P:Lk (D.size=N/\f<=J+1/\J<N/\1<=f/\a<N/\N<=1000000/\a<f):=ae (Nm K.out);clear k Y ko;go_upto_block 2 with fail
   go_cut [11] from 46 to 62 (λn A=>∃i:Nat,n=i/\bI w0 base g cap D A/\Lk (i=scanDown (λx=>!bw x D[a]!) D f J))
   case first=>
    go_wp2_with fail;go_loopw [11] (λn wr=>∃i:Nat,n=i/\f<=i+1/\i<=J/\bI w0 base g cap D wr/\Lk (scanDown (λx=>!bw x D[a]!) D f i=scanDown (λx=>!bw x D[a]!) D f J)) (λn _=>(Lo n).toNat)
    case atStart=>exact⟨J,rfl,Nm P.out,Nm P.out,fP.out,rfl⟩
    case round=>
     obtain⟨i,rfl,I,L,k,p⟩:=hrel;have F:=ae k;by_cases w:f<=i
     .have O:(f:Int)<=i:=af;have bi:(i:Int)<N:=Nm P.out;have wi:cf Mm ((i:Int)-1)=(i-1:Nat):=by have:=P.out;rw[ax]<;>omega
      obtain⟨x,y,b,B,E,V,m⟩:=k.two i a (Nm P.out) (Nm P.out);have C:Lk (b=Jd->i=scanDown (λx=>!bw x D[a]!) D f J):=ae λe=>by rw[<- p.out,scanDown_end _ _ _ _ (.inr (by rw[e]at m;simp[<- m.out]))]
      have U:Lk (b=J0->scanDown (λx=>!bw x D[a]!) D f (i-1)=scanDown (λx=>!bw x D[a]!) D f J/\f<=(i-1)+1/\(i-1)<=J):=ae λe=>⟨by rw[<- p.out,scanDown_go _ _ _ _ w (Nm P.out) (by rw[e]at m;simp[<- m.out])],Nm P.out,af⟩;have X:=ae w;clear k I L m w p;go_wp2_with fail;go_quiet ((go_at_call 226;exact Calls.quiet_of_same (V.out _)))
      have s:=ae (F.out.drawn nq);clear F B E;cases b
      .have G:=U.out rfl;have al:=X.out;have r9:=P.out;go_wp2;exact⟨⟨(i-1),rfl,G.2.1,G.2.2,s.out,ae G.1⟩,Xg⟩
      .go_wp2;go_meet
       exact⟨i,rfl,s.out,ae (C.out trivial)⟩
     .have O:¬(f:Int)<=i:=af;have C:Lk (i=scanDown (λx=>!bw x D[a]!) D f J):=ae (by rw[<- p.out,scanDown_end _ _ _ _ (.inl w)]);clear k I L p;go_wp2_with fail;go_quiet (fail)
      have s:=ae (F.out.drawn nq);go_wp2;go_meet
      exact⟨i,rfl,s.out,C⟩
   case rest=>
    obtain⟨l,rfl,k,OW⟩:=hcut;have gV:=ae k;have Y:=Be (λ_=>rfl) tI.out OW.out (Nm K.out);have gU:Lk (D.size=N/\f<=l+1/\l<N/\a<=l/\1<=f/\a<N/\N<=1000000/\a<f/\(f<=l->f+1<=l)):=ae (Nm P.out);have bj:(l:Int)<N:=Nm P.out;have o:=λr=>QQ (lt:=bw) (u:=f) (v:=l) (r:=r) FT.out.1 (by rw[HX.out.2.2.2.2.2.1];exact tI.out) (by rw[HX.out.2.2.2.2.2.1];exact OW.out);clear k Y fP;by_cases CQ:f>l
    .have O:(f:Int)>l:=af;have HP:Lk (r=(l,Jd,swp D l a)):=ae (by rw[FT.out.2,o (0,d) (λhn=>absurd CQ hn),if_pos CQ]);clear o;go_upto_region 8 with fail
     go_cut [] from 66 to 79 (λA=>bI w0 base g cap (swp D l a) A)
     case first=>
      obtain⟨x,y,B,E,R,⟨z,z0⟩,S⟩:=gV.out.swap l a (Nm gU.out) (Nm gU.out);go_big_region
      all_goals
       clear B E R z0;go_wp2;go_meet
       exact S.out
     case rest=>have jh:=ae hcut;clear hcut;go_wp2;go_ret2;rw[HP.out];exact⟨rfl,jh.out⟩
    .have O:¬(f:Int)>l:=af;have T:Lk (D.size=N/\f+1<=l/\l<N/\a<f/\N<=1000000):=ae (Nm gU.out);have bi:(f:Int)<N:=Nm gU.out;have wi:cf Mm ((f:Int)+1)=(f+1:Nat):=by have:=T.out;rw[ax]<;>omega
     have wj:cf Mm ((l:Int)-1)=(l-1:Nat):=by have:=T.out;rw[ax]<;>omega
     have HP:Lk (r=((partLoop bw a (f+1) (l-1) (swp D f l)).1,J0,swp (partLoop bw a (f+1) (l-1) (swp D f l)).2 (partLoop bw a (f+1) (l-1) (swp D f l)).1 a)):=ae (by rw[FT.out.2,o _ (λ_=>rfl),if_neg CQ]);clear o;go_upto_region 10 with fail
     go_cut [] from 81 to 94 (λA=>bI w0 base g cap (swp D f l) A)
     case first=>
      obtain⟨x,y,B,E,R,⟨z,z0⟩,S⟩:=gV.out.swap f l (Nm T.out) (Nm T.out);go_big_region
      all_goals
       clear B E R z0;go_wp2;go_meet
       exact S.out
     case rest=>
      have s:=ae hcut;clear hcut gV;generalize hq:partLoop bw a (f+1) (l-1) (swp D f l)=q at *;have C:=ae hq;clear hq;go_wp2_with fail;go_loopw [10,11] (λn vj wr=>∃(i3 j:Nat)(c:Array Nat),n=i3/\vj=j/\a<i3/\i3<=j+1/\j<N/\c.size=N/\bI w0 base g cap c wr/\Lk (partLoop bw a i3 j c=q)) (λn vj _=>(Lo vj).toNat+1-(Lo n).toNat)
      case atStart=>exact⟨f+1,l-1,_,rfl,rfl,Nm T.out,Nm T.out,Nm T.out,by rw[size_swp];exact T.out.1,s.out,C⟩
      case round=>
       obtain⟨i3,j,c,rfl,rfl,TL,XD,VK,bd,aE,pN⟩:=hrel;have iF:=ae aE;have M:Lk (c.size=N/\i3<=j+1/\j<N/\1<=i3/\a<N/\N<=1000000/\a<i3):=ae (Nm T.out);clear aE bd TL XD VK;go_upto_block 6 with fail
       go_cut [10] from 99 to 114 (λn A=>∃i:Nat,n=i/\bI w0 base g cap c A/\Lk (i=scanUp (λx=>bw x c[a]!) c j i3))
       case first=>
        go_wp2_with fail;go_loopw [10] (λn wr=>∃i:Nat,n=i/\i3<=i/\i<=j+1/\bI w0 base g cap c wr/\Lk (scanUp (λx=>bw x c[a]!) c j i=scanUp (λx=>bw x c[a]!) c j i3)) (λn _=>j+1-(Lo n).toNat)
        case atStart=>exact⟨i3,rfl,Nm M.out,Nm M.out,iF.out,rfl⟩
        case round=>
         obtain⟨i,rfl,I,L,k,p⟩:=hrel;have F:=ae k;by_cases w:i<=j
         .have O:(i:Int)<=j:=af;have bi:(i:Int)<N:=Nm M.out;have wi:cf Mm ((i:Int)+1)=(i+1:Nat):=by have:=M.out;rw[ax]<;>omega
          obtain⟨x,y,b,B,E,V,m⟩:=k.two i a (Nm M.out) (Nm M.out);have C:Lk (b=J0->i=scanUp (λx=>bw x c[a]!) c j i3):=ae λe=>by rw[<- p.out,scanUp_end _ _ _ _ (.inr (by rw[e]at m;simp[<- m.out]))]
          have U:Lk (b=Jd->scanUp (λx=>bw x c[a]!) c j (i+1)=scanUp (λx=>bw x c[a]!) c j i3/\i3<=(i+1)/\(i+1)<=j+1):=ae λe=>⟨by rw[<- p.out,scanUp_go _ _ _ _ w (by rw[e]at m;simp[<- m.out])],Nm M.out,af⟩;have X:=ae w;clear k I L m w p;go_wp2_with fail;go_quiet ((go_at_call 226;exact Calls.quiet_of_same (V.out _)))
          have s:=ae (F.out.drawn nq);clear F B E;cases b
          .go_wp2;go_meet
           exact⟨i,rfl,s.out,ae (C.out trivial)⟩
          .have G:=U.out rfl;have al:=X.out;have r9:=M.out;go_wp2;exact⟨⟨(i+1),rfl,G.2.1,G.2.2,s.out,ae G.1⟩,Xg⟩
         .have O:¬(i:Int)<=j:=af;have C:Lk (i=scanUp (λx=>bw x c[a]!) c j i3):=ae (by rw[<- p.out,scanUp_end _ _ _ _ (.inl w)]);clear k I L p;go_wp2_with fail;go_quiet (fail)
          have s:=ae (F.out.drawn nq);go_wp2;go_meet
          exact⟨i,rfl,s.out,C⟩
       case rest=>
        obtain⟨i4,rfl,k,BA⟩:=hcut;have lL:=ae k;have Y:=KA BA.out (Nm M.out);have Q:Lk (c.size=N/\i4<=j+1/\j<N/\1<=i4/\a<N/\N<=1000000/\a<i4):=ae (Nm M.out);clear k Y iF;go_upto_block 8 with fail
        go_cut [11] from 115 to 131 (λn A=>∃i:Nat,n=i/\bI w0 base g cap c A/\Lk (i=scanDown (λx=>!bw x c[a]!) c i4 j))
        case first=>
         go_wp2_with fail;go_loopw [11] (λn wr=>∃i:Nat,n=i/\i4<=i+1/\i<=j/\bI w0 base g cap c wr/\Lk (scanDown (λx=>!bw x c[a]!) c i4 i=scanDown (λx=>!bw x c[a]!) c i4 j)) (λn _=>(Lo n).toNat)
         case atStart=>exact⟨j,rfl,Nm Q.out,Nm Q.out,lL.out,rfl⟩
         case round=>
          obtain⟨i,rfl,I,L,k,p⟩:=hrel;have F:=ae k;by_cases w:i4<=i
          .have O:(i4:Int)<=i:=af;have bi:(i:Int)<N:=Nm Q.out;have wi:cf Mm ((i:Int)-1)=(i-1:Nat):=by have:=Q.out;rw[ax]<;>omega
           obtain⟨x,y,b,B,E,V,m⟩:=k.two i a (Nm Q.out) (Nm Q.out);have C:Lk (b=Jd->i=scanDown (λx=>!bw x c[a]!) c i4 j):=ae λe=>by rw[<- p.out,scanDown_end _ _ _ _ (.inr (by rw[e]at m;simp[<- m.out]))]
           have U:Lk (b=J0->scanDown (λx=>!bw x c[a]!) c i4 (i-1)=scanDown (λx=>!bw x c[a]!) c i4 j/\i4<=(i-1)+1/\(i-1)<=j):=ae λe=>⟨by rw[<- p.out,scanDown_go _ _ _ _ w (Nm Q.out) (by rw[e]at m;simp[<- m.out])],Nm Q.out,af⟩;have X:=ae w;clear k I L m w p;go_wp2_with fail;go_quiet ((go_at_call 226;exact Calls.quiet_of_same (V.out _)))
           have s:=ae (F.out.drawn nq);clear F B E;cases b
           .have G:=U.out rfl;have al:=X.out;have r9:=Q.out;go_wp2;exact⟨⟨(i-1),rfl,G.2.1,G.2.2,s.out,ae G.1⟩,Xg⟩
           .go_wp2;go_meet
            exact⟨i,rfl,s.out,ae (C.out trivial)⟩
          .have O:¬(i4:Int)<=i:=af;have C:Lk (i=scanDown (λx=>!bw x c[a]!) c i4 j):=ae (by rw[<- p.out,scanDown_end _ _ _ _ (.inl w)]);clear k I L p;go_wp2_with fail;go_quiet (fail)
           have s:=ae (F.out.drawn nq);go_wp2;go_meet
           exact⟨i,rfl,s.out,C⟩
        case rest=>
         obtain⟨t,rfl,k,XG⟩:=hcut;have lJ:=ae k;have Y:=Be (λ_=>rfl) BA.out XG.out (Nm M.out);have vI:Lk (c.size=N/\t<N/\a<=t/\a<i4/\a<N/\N<=1000000/\i4<=t+1/\(i4<=t->i4+1<=t)/\i3<=i4/\t<=j):=ae (Nm Q.out);have bj:(t:Int)<N:=Nm vI.out;have o:=UR BA.out XG.out;rw[pN.out]at o;clear k Y lL;by_cases CQ:i4>t
         .have O:(i4:Int)>t:=af;rw[if_pos CQ]at o;have Z:=ae o;clear o;go_upto_region 21 with fail
          go_cut [] from 153 to 166 (λA=>bI w0 base g cap (swp c t a) A)
          case first=>
           obtain⟨x,y,B,E,R,⟨z,z0⟩,S⟩:=lJ.out.swap t a (Nm vI.out) (Nm vI.out);go_big_region
           all_goals
            clear B E R z0;go_wp2;go_meet
            exact S.out
          case rest=>have tR:=ae hcut;clear hcut;go_wp2;go_ret2;rw[HP.out,Z.out];exact⟨rfl,tR.out⟩
         .have O:¬(i4:Int)>t:=af;rw[if_neg CQ]at o;have Z:=ae o;have tF:Lk (c.size=N/\i4+1<=t/\t<N/\a<i4/\N<=1000000/\i3<=i4/\t<=j):=ae (Nm vI.out);have bi:(i4:Int)<N:=Nm tF.out;have wi:cf Mm ((i4:Int)+1)=(i4+1:Nat):=by have:=tF.out;rw[ax]<;>omega
          have wj:cf Mm ((t:Int)-1)=(t-1:Nat):=by have:=tF.out;rw[ax]<;>omega
          clear o;go_upto_region 18 with fail
          go_cut [] from 135 to 148 (λA=>bI w0 base g cap (swp c i4 t) A)
          case first=>
           obtain⟨x,y,B,E,R,⟨z,z0⟩,S⟩:=lJ.out.swap i4 t (Nm tF.out) (Nm tF.out);go_big_region
           all_goals
            clear B E R z0;go_wp2;go_meet
            exact S.out
          case rest=>have tR:=ae hcut;clear hcut;go_wp2;have m:=tF.out;exact⟨⟨i4+1,t-1,_,rfl,rfl,af,af,af,by rw[size_swp];exact m.1,tR.out,ae Z.out.symm⟩,Xg⟩
end
section
variable {w0 W:KX}{base g cap:Nat}{d:Array Nat}
def Zj(w0:KX)(base g cap:Nat)(r:Nat×Array Nat)(e:Lp)(w':KX):Prop:=e=r.1/\bI w0 base g cap r.2 w'
theorem KC(h:bI w0 base g cap d W)(a b pv:Nat)(R:a<=pv)(Td:pv<b)(k:b<=d.size)(K:d.size<=1000000):K1 prog 227 #[.slice g d.size cap,a,b,pv] W (Zj w0 base g cap (partitionEqual bw d a b pv)):=by
 have H:=ae h;obtain⟨N,hN⟩:=ac d.size;rw[<- hN]at k K ⊢;obtain⟨J,hJ⟩:=ac (b-1);have wJ:cf Mm ((b:Int)-1)=J:=by rw[ax]<;>omega
 have wI:cf Mm ((a:Int)+1)=(a+1:Nat):=by rw[ax]<;>omega
 have ba:(a:Int)<N:=af;have bp:(pv:Int)<N:=af;obtain⟨r,Y⟩:=ac (partitionEqual bw d a b pv);rw[<- Y];have E:Lk (a<d.size/\pv<d.size/\J<N/\a<=J/\N<=1000000/\d.size=N/\partEqLoop bw a (a+1) J (swp d a pv)=r):=ae ⟨af,af,af,af,af,af,by rw[Y,hJ];rfl⟩;clear h hJ R Td k K hN Y;go_enter func227,ntmps227;go_upto_region 1 with fail
 go_cut [] from 11 to 24 (λC=>bI w0 base g cap (swp d a pv) C)
 case first=>
  obtain⟨x,y,w,D,Z,⟨z,z0⟩,O⟩:=H.out.swap a pv (Nm E.out) (Nm E.out);go_big_region
  all_goals
   clear w D Z z0;go_wp2;go_meet
   exact O.out
 case rest=>
  have ko:=ae hcut;clear hcut H;go_wp2_with fail;go_loopw [9,10] (λm X wr=>∃(i3 f:Nat)(c:Array Nat),m=i3/\X=f/\a<i3/\i3<=f+1/\f<N/\c.size=N/\bI w0 base g cap c wr/\Lk (partEqLoop bw a i3 f c=r)) (λm X _=>(Lo X).toNat+1-(Lo m).toNat)
  case atStart=>exact⟨a+1,J,_,rfl,rfl,af,Nm E.out,E.out.2.2.1,by rw[size_swp];exact E.out.2.2.2.2.2.1,ko.out,ae E.out.2.2.2.2.2.2⟩
  case round=>
   obtain⟨i3,f,c,rfl,rfl,TL,XD,VK,V,I,pN⟩:=hrel;have iF:=ae I;have p:Lk (c.size=N/\i3<=f+1/\f<N/\1<=i3/\a<N/\N<=1000000/\a<i3):=ae (Nm E.out);clear I V TL XD VK ko;go_upto_block 2 with fail
   go_cut [9] from 29 to 45 (λm C=>∃i:Nat,m=i/\bI w0 base g cap c C/\Lk (i=scanUp (λx=>!bw c[a]! x) c f i3))
   case first=>
    go_wp2_with fail;go_loopw [9] (λm wr=>∃i:Nat,m=i/\i3<=i/\i<=f+1/\bI w0 base g cap c wr/\Lk (scanUp (λx=>!bw c[a]! x) c f i=scanUp (λx=>!bw c[a]! x) c f i3)) (λm _=>f+1-(Lo m).toNat)
    case atStart=>exact⟨i3,rfl,Nm p.out,Nm p.out,iF.out,rfl⟩
    case round=>
     obtain⟨i,rfl,G,L,n,o⟩:=hrel;have B:=ae n;by_cases t:i<=f
     .have M:(i:Int)<=f:=af;have bi:(i:Int)<N:=Nm p.out;have wi:cf Mm ((i:Int)+1)=(i+1:Nat):=by have:=p.out;rw[ax]<;>omega
      obtain⟨x,y,b,w,D,Q,k⟩:=n.two a i (Nm p.out) (Nm p.out);have A:Lk (b=Jd->i=scanUp (λx=>!bw c[a]! x) c f i3):=ae λe=>by rw[<- o.out,scanUp_end _ _ _ _ (.inr (by rw[e]at k;simp[<- k.out]))]
      have P:Lk (b=J0->scanUp (λx=>!bw c[a]! x) c f (i+1)=scanUp (λx=>!bw c[a]! x) c f i3/\i3<=(i+1)/\(i+1)<=f+1):=ae λe=>⟨by rw[<- o.out,scanUp_go _ _ _ _ t (by rw[e]at k;simp[<- k.out])],Nm p.out,af⟩;have S:=ae t;clear n G L k t o;go_wp2_with fail;go_quiet ((go_at_call 226;exact Calls.quiet_of_same (Q.out _)))
      have s:=ae (B.out.drawn nq);clear B w D;cases b
      .have v:=P.out rfl;have T:=S.out;have r9:=p.out;go_wp2;exact⟨⟨(i+1),rfl,v.2.1,v.2.2,s.out,ae v.1⟩,Xg⟩
      .go_wp2;go_meet
       exact⟨i,rfl,s.out,ae (A.out trivial)⟩
     .have M:¬(i:Int)<=f:=af;have A:Lk (i=scanUp (λx=>!bw c[a]! x) c f i3):=ae (by rw[<- o.out,scanUp_end _ _ _ _ (.inl t)]);clear n G L o;go_wp2_with fail;go_quiet (fail)
      have s:=ae (B.out.drawn nq);go_wp2;go_meet
      exact⟨i,rfl,s.out,A⟩
   case rest=>
    obtain⟨i4,rfl,n,U⟩:=hcut;have lL:=ae n;have hu:=KA U.out (Nm p.out);have q:Lk (c.size=N/\i4<=f+1/\f<N/\1<=i4/\a<N/\N<=1000000/\a<i4):=ae (Nm p.out);clear n hu iF;go_upto_block 4 with fail
    go_cut [10] from 46 to 61 (λm C=>∃i:Nat,m=i/\bI w0 base g cap c C/\Lk (i=scanDown (λx=>bw c[a]! x) c i4 f))
    case first=>
     go_wp2_with fail;go_loopw [10] (λm wr=>∃i:Nat,m=i/\i4<=i+1/\i<=f/\bI w0 base g cap c wr/\Lk (scanDown (λx=>bw c[a]! x) c i4 i=scanDown (λx=>bw c[a]! x) c i4 f)) (λm _=>(Lo m).toNat)
     case atStart=>exact⟨f,rfl,Nm q.out,Nm q.out,lL.out,rfl⟩
     case round=>
      obtain⟨i,rfl,G,L,n,o⟩:=hrel;have B:=ae n;by_cases t:i4<=i
      .have M:(i4:Int)<=i:=af;have bi:(i:Int)<N:=Nm q.out;have wi:cf Mm ((i:Int)-1)=(i-1:Nat):=by have:=q.out;rw[ax]<;>omega
       obtain⟨x,y,b,w,D,Q,k⟩:=n.two a i (Nm q.out) (Nm q.out);have A:Lk (b=J0->i=scanDown (λx=>bw c[a]! x) c i4 f):=ae λe=>by rw[<- o.out,scanDown_end _ _ _ _ (.inr (by rw[e]at k;simp[<- k.out]))]
       have P:Lk (b=Jd->scanDown (λx=>bw c[a]! x) c i4 (i-1)=scanDown (λx=>bw c[a]! x) c i4 f/\i4<=(i-1)+1/\(i-1)<=f):=ae λe=>⟨by rw[<- o.out,scanDown_go _ _ _ _ t (Nm q.out) (by rw[e]at k;simp[<- k.out])],Nm q.out,af⟩;have S:=ae t;clear n G L k t o;go_wp2_with fail;go_quiet ((go_at_call 226;exact Calls.quiet_of_same (Q.out _)))
       have s:=ae (B.out.drawn nq);clear B w D;cases b
       .go_wp2;go_meet
        exact⟨i,rfl,s.out,ae (A.out trivial)⟩
       .have v:=P.out rfl;have T:=S.out;have r9:=q.out;go_wp2;exact⟨⟨(i-1),rfl,v.2.1,v.2.2,s.out,ae v.1⟩,Xg⟩
      .have M:¬(i4:Int)<=i:=af;have A:Lk (i=scanDown (λx=>bw c[a]! x) c i4 f):=ae (by rw[<- o.out,scanDown_end _ _ _ _ (.inl t)]);clear n G L o;go_wp2_with fail;go_quiet (fail)
       have s:=ae (B.out.drawn nq);go_wp2;go_meet
       exact⟨i,rfl,s.out,A⟩
    case rest=>
     obtain⟨j,rfl,n,XG⟩:=hcut;have lJ:=ae n;have hu:=Be (λ_=>ai) U.out XG.out (Nm p.out);have vI:Lk (c.size=N/\j<N/\a<=j/\a<i4/\a<N/\N<=1000000/\i4<=j+1/\(i4<=j->i4+1<=j)/\i3<=i4/\j<=f):=ae (Nm q.out);have bj:(j:Int)<N:=Nm vI.out;have l:=acx U.out XG.out;rw[pN.out]at l;clear n hu lL;by_cases CQ:i4>j
     .have M:(i4:Int)>j:=af;rw[if_pos CQ]at l;have u:=ae l;clear l;go_wp2;go_ret;rw[u.out];exact⟨rfl,lJ.out⟩
     .have M:¬(i4:Int)>j:=af;rw[if_neg CQ]at l;have u:=ae l;have F:Lk (c.size=N/\i4+1<=j/\j<N/\a<i4/\N<=1000000/\i3<=i4/\j<=f):=ae (Nm vI.out);have bi:(i4:Int)<N:=Nm F.out;have wi:cf Mm ((i4:Int)+1)=(i4+1:Nat):=by have:=F.out;rw[ax]<;>omega
      have wj:cf Mm ((j:Int)-1)=(j-1:Nat):=by have:=F.out;rw[ax]<;>omega
      clear l;go_upto_region 8 with fail
      go_cut [] from 65 to 78 (λC=>bI w0 base g cap (swp c i4 j) C)
      case first=>
       obtain⟨x,y,w,D,Z,⟨z,z0⟩,O⟩:=lJ.out.swap i4 j (Nm F.out) (Nm F.out);go_big_region
       all_goals
        clear w D Z z0;go_wp2;go_meet
        exact O.out
      case rest=>have tR:=ae hcut;clear hcut;go_wp2;have k:=F.out;exact⟨⟨i4+1,j-1,_,rfl,rfl,af,af,af,by rw[size_swp];exact k.1,tR.out,ae u.out.symm⟩,Xg⟩
end
section
variable {w0 W:KX}{base g cap:Nat}{d:Array Nat}
theorem G6(h:bI w0 base g cap d W)(a b:Nat)(F:a<b)(o:b-a<50)(O:b<=d.size)(s:d.size<=1000000):K1 prog 225 #[.slice g d.size cap,a,b] W λe w'=>e=Mk (.bool (partialInsertionSort bw d a b).2)/\(partialInsertionSort bw d a b).1=d/\bI w0 base g cap d w':=by
 have H:=ae h;obtain⟨N,I⟩:=ac d.size;rw[<- I]at O s ⊢;have K:Lk (∀u,u=scanSorted bw d b (a+1)->partialInsertionSort bw d a b=(d,decide (u=b))):=ae (λu z=>by
  unfold partialInsertionSort;rw[partialIns_succ,<- z];by_cases e:u=b
  .rw[if_pos e,decide_eq_true e]
  .rw[if_neg e,if_pos o,decide_eq_false e])
 obtain⟨L,V⟩:=ac (b-a);have Z:cf Mm ((b:Int)-a)=L:=by rw[ax]<;>omega
 have wI:cf Mm ((a:Int)+1)=(a+1:Nat):=by rw[ax]<;>omega
 have T:(L:Int)<50:=af;have m:Lk (a<b/\b<=N/\N<=1000000/\d.size=N):=ae af;generalize partialInsertionSort bw d a b=r at K ⊢;clear h I V F O s o;go_enter func225,ntmps225;go_upto_block 0 with fail
 go_wp2_with fail;refine wp_loop_rounds 1 ?_;rw[rounds_succ];go_upto_block 2 with fail
 go_cut [7] from 17 to 34 (λt U=>∃i:Nat,t=i/\i<=b/\bI w0 base g cap d U/\Lk (i=scanSorted bw d b (a+1)))
 case first=>
  go_wp2_with fail;go_loopw [7] (λt wr=>∃i:Nat,t=i/\a+1<=i/\i<=b/\bI w0 base g cap d wr/\Lk (scanSorted bw d b i=scanSorted bw d b (a+1))) (λt _=>b-(Lo t).toNat)
  case atStart=>exact⟨a+1,by go_num,cg _,m.out.1,H.out,rfl⟩
  case round=>
   obtain⟨i,rfl,G,C,j,n⟩:=hrel;have l:=ae j;by_cases D:i<b
   .obtain⟨k,J⟩:=ac (i-1);have E:(i:Int)<b:=af;have bi:(i:Int)<N:=Nm m.out;have Y:(k:Int)<N:=af;have wi:cf Mm ((i:Int)+1)=(i+1:Nat):=by have:=m.out;rw[ax]<;>omega
    have wk:cf Mm ((i:Int)-1)=k:=by have:=m.out;rw[ax]<;>omega
    obtain⟨x,y,c,S,X,R,v⟩:=j.two i k (Nm m.out) (Nm m.out);rw[J]at v;have B:Lk (c=Jd->i=scanSorted bw d b (a+1)):=ae λe=>by rw[<- n.out,scanSorted_stop _ _ _ _ (.inr (by rw[<- v.out,e]))]
    have P:Lk (c=J0->scanSorted bw d b (i+1)=scanSorted bw d b (a+1)):=ae λe=>by rw[<- n.out,scanSorted_go _ _ _ _ D (by rw[<- v.out,e])]
    have p:=ae (show a+1<=i+1/\i+1<=b by omega);clear j G C v D n J;go_wp2_with fail;go_quiet ((go_at_call 226;exact Calls.quiet_of_same (R.out _)))
    have w:=ae (l.out.drawn nq);clear l S X;cases c
    .have Q:=P.out rfl;go_wp2;exact⟨⟨i+1,rfl,p.out.1,p.out.2,w.out,ae Q⟩,Xg⟩
    .go_wp2;go_meet
     exact⟨i,rfl,Nm p.out,w.out,ae (B.out trivial)⟩
   .have E:¬(i:Int)<b:=af;have B:Lk (i=scanSorted bw d b (a+1)):=ae (by rw[<- n.out,scanSorted_stop _ _ _ _ (.inl D)]);have p:=ae C;clear j G C n;go_wp2_with fail;go_quiet (fail)
    have w:=ae (l.out.drawn nq);go_wp2;go_meet
    exact⟨i,rfl,p.out,w.out,B⟩
 case rest=>
  obtain⟨u,rfl,q,j,z⟩:=hcut;have l:=ae j;have M:=ae (K.out u z.out);clear j z;by_cases e:u=b
  .have E:((u:Int) == b)=true:=by simp[e]
   have f:=M.out;rw[decide_eq_true e]at f;have A:=ae f;clear f e q;go_wp2;go_ret;rw[A.out];exact⟨rfl,rfl,l.out⟩
  .have E:((u:Int) == b)=false:=by simp;omega
   have f:=M.out;rw[decide_eq_false e]at f;have A:=ae f;clear f e q;go_wp2;go_ret;rw[A.out];exact⟨rfl,rfl,l.out⟩
end
structure Zk{α:Type}[Inhabited α](lt:α->α->Bool)(a b lim:Nat)(wb wp:Bool)(dk:Array α)(R:Sort.Rd α):Prop where
 brk:wb=J0->R.d1=breakPatterns dk a b/\R.lim=lim-1
 nob:wb=Jd->R.d1=dk/\R.lim=lim
 c:R.c=choosePivot lt R.d1 a b
 dec:R.c.2=.decreasing->R.d2=reverseRange R.d1 a b/\R.pivot=(b-1)-(R.c.1-a)/\R.hint=.increasing
 XK:R.c.2≠.decreasing->R.d2=R.d1/\R.pivot=R.c.1/\R.hint=R.c.2
 yes:(wb && wp && decide (R.hint=.increasing))=Jd->R.pi=partialInsertionSort lt R.d2 a b
 no:(wb && wp && decide (R.hint=.increasing))=J0->R.pi=(R.d2,J0)
 s1:R.d1.size=dk.size
 c1:a<=R.c.1
 c2:R.c.1<b
 s2:R.d2.size=dk.size
 p1:a<=R.pivot
 p2:R.pivot<b
 s3:R.pi.1.size=dk.size
 B3:Sort.Below lt a b R.pi.1
 mj:R.lim<=lim
 done:R.pi.2=Jd->pdq lt dk a b lim wb wp=R.pi.1
 eq:R.pi.2=J0->(decide (a>0) && !lt R.pi.1[a-1]! R.pi.1[R.pivot]!)=Jd->∀mid d4,partitionEqual lt R.pi.1 a b R.pivot=(mid,d4)->a<mid->mid<=b->pdq lt dk a b lim wb wp=pdq lt d4 mid b R.lim wb wp
 left:R.pi.2=J0->(decide (a>0) && !lt R.pi.1[a-1]! R.pi.1[R.pivot]!)=J0->∀mid ap d4,partition lt R.pi.1 a b R.pivot=(mid,ap,d4)->a<=mid->mid<b->mid-a<b-mid->pdq lt dk a b lim wb wp=pdq lt (pdq lt d4 a mid R.lim Jd Jd) (mid+1) b R.lim (decide (mid-a >= (b-a)/8)) ap
 right:R.pi.2=J0->(decide (a>0) && !lt R.pi.1[a-1]! R.pi.1[R.pivot]!)=J0->∀mid ap d4,partition lt R.pi.1 a b R.pivot=(mid,ap,d4)->a<=mid->mid<b->¬mid-a<b-mid->pdq lt dk a b lim wb wp=pdq lt (pdq lt d4 (mid+1) b R.lim Jd Jd) a mid R.lim (decide (b-mid >= (b-a)/8)) ap
theorem UT{q:Type}[Inhabited q]{lt:q->q->Bool}(h:SWO lt){a b e:Nat}(wb wp:Bool){p:Array q}(o:¬b-a<=12)(n:¬e=0)(v:b<=p.size)(t:Sort.Below lt a b p):Zk lt a b e wb wp p (rd lt p a b e wb wp):=by
 obtain⟨s1,x,g,s2,w,k,s3,B3⟩:=rd_facts (limit:=e) (wb:=wb) (wp:=wp) h partialInsertionSort_holds reverseRange_holds (show a<b by omega) v t;exact {
  brk:=by rintro rfl;exact rd_false
  nob:=by rintro rfl;exact rd_true
  c:=rd_c
  dec:=rd_dec
  XK:=rd_not
  yes:=rd_pi_yes
  no:=rd_pi_no
  s1:=s1
  c1:=g.1
  c2:=g.2
  s2:=s2
  p1:=k.1
  p2:=k.2
  s3:=s3
  B3:=B3
  mj:=rd_lim_le
  done:=pdq_done o n
  eq:=λf j i s d l m=>by rw[pdq_eq o n f j (by rw[d];exact⟨l,m⟩),d]
  left:=λf j i u s d l m r=>by rw[pdq_left o n f j (by rw[d];exact⟨l,m⟩) (by rw[d];exact r),d]
  right:=λf j i u s d l m r=>by rw[pdq_right o n f j (by rw[d];exact⟨l,m⟩) (by rw[d];exact r),d] }
section
variable {w0 W:KX}{base g cap:Nat}{d:Array Nat}
theorem UU(h:bI w0 base g cap d W)(a b:Nat)(O:a<=b)(T:b<=d.size)(A:d.size<=1000000):K1 prog 220 #[.slice g d.size cap,a,b] W (sW w0 base g cap (insertionSort bw d a b)):=by
 have H:=ae h;obtain⟨N,Q⟩:=ac d.size;rw[<- Q]at T A ⊢;have F:Lk (a<=b/\b<=N/\N<=1000000/\d.size=N):=ae af;have wa:cf Mm ((a:Int)+1)=(a+1:Nat):=by rw[ax]<;>omega
 clear h O T A Q;go_enter func220,ntmps220;go_wp2;go_loopw [6] (λP wr=>∃(i:Nat)(m:Array Nat),P=i/\a<i/\i<=b+1/\m.size=N/\bI w0 base g cap m wr/\Lk (insOuter bw a b i m=insertionSort bw d a b)) (λP _=>b+1-(Lo P).toNat)
 case atStart=>exact⟨a+1,d,by go_num,af,Nm F.out,F.out.2.2.2,H.out,rfl⟩
 case round=>
  obtain⟨i,m,rfl,t,J,w,G,D⟩:=hrel;have HS:=ae G;by_cases n:i<b
  .have X:(i:Int)<b:=af;have l:=ae (show a<i/\i<b/\m.size=N from⟨t,n,w⟩);have R:Lk (∀e,insInner bw a i m=e->insOuter bw a b (i+1) e=insertionSort bw d a b):=ae λe h=>by rw[<- D.out,insOuter_go _ _ _ _ _ n,h]
   have wi:cf Mm ((i:Int)+1)=(i+1:Nat):=by have:=F.out;rw[ax]<;>omega
   clear G t J w n D;go_wp2;go_loopw [7] (λK L=>∃(j:Nat)(e:Array Nat),K=j/\a<=j/\j<=i/\e.size=N/\bI w0 base g cap e L/\Lk (insInner bw a i m=insInner bw a j e)) (λK _=>(Lo K).toNat)
   case atStart=>exact⟨i,m,rfl,Nm l.out,cg _,l.out.2.2,HS.out,rfl⟩
   case round=>
    obtain⟨j,e,rfl,B,S,r,f,C⟩:=hrel;have M:=ae f;by_cases s:a<j
    .obtain⟨k,rfl⟩:∃k,j=k+1:=⟨j-1,af⟩;have CV:(a:Int)<k+1:=af;have hx:=F.out;have hi:=l.out;have wk:cf Mm (k:Int)=k:=ax af af;have b1:(k:Int)+1<(N:Int):=af;have b2:(k:Int)<N:=af;have p0:(0:Int)<=k+1:=af;have e0:((k:Int)+1).toNat=k+1:=af;obtain⟨x,y,c,Y,y0,V,I⟩:=f.two (k+1) k af af;have o:=ae (show k+1<e.size/\k<e.size/\a<=k/\k<=i/\e.size=N by omega);have p:Lk (insInner bw a i m=cond c (insInner bw a k (swp e (k+1) k)) e):=ae (by
      cases c
      .rw[C.out,insInner_stop _ _ _ _ (.inr (by rw[ta,<- I.out]))];rfl
      .rw[C.out,insInner_go (lt:=bw) a (k+1) e s (by rw[ta,<- I.out]),ta];rfl)
     clear f B S r s hx hi I C;go_wp2_with fail;go_quiet ((go_at_call 226;exact Calls.quiet_of_same (V.out _)))
     have E:=ae (M.out.drawn nq);clear Y y0 M;generalize wr.drewN nq=W3 at *;cases c
     .have q:=ae (R.out _ p.out);go_wp2;exact⟨⟨i+1,e,rfl,Nm l.out,Nm l.out,o.out.2.2.2.2,E.out,q⟩,Xd l.out⟩
     .obtain⟨u,v,Z,v0,ew,⟨z,z0⟩,U⟩:=E.out.swap (k+1) k o.out.1 o.out.2.1;have q:=ae p.out;clear p;go_wp2_with fail;go_big_region
      all_goals
       clear Z v0 ew z0;go_wp2;exact⟨⟨k,_,rfl,o.out.2.2.1,o.out.2.2.2.1,by rw[size_swp];exact o.out.2.2.2.2,U.out,ae q.out⟩,by simp[Lo]⟩
    .have CV:¬(a:Int)<j:=af;have q:=ae (R.out e (by rw[C.out,insInner_stop _ _ _ _ (.inl af)]));have o:=ae r;clear f B S r C;go_wp2_with fail;go_quiet (fail)
     have E:=ae (M.out.drawn nq);go_wp2;exact⟨⟨i+1,e,rfl,Nm l.out,Nm l.out,o.out,E.out,q⟩,Xd l.out⟩
  .have X:¬(i:Int)<b:=af;have q:=ae (show bI w0 base g cap (insertionSort bw d a b) wr by rw[<- D.out,insOuter_stop _ _ _ _ _ n];exact G);clear G D;go_wp2;go_returns;exact⟨rfl,q.out⟩
end
theorem Zl{h:Hint}(e:pZ h=2):h=.decreasing:=by cases h<;>simp[pZ]at e ⊢
def acz(m:Nat):Prop:=∀{w0 W:KX}{base g cap:Nat}{d:Array Nat},bI w0 base g cap d W->∀a b limit:Nat,a<=b->b<=d.size->d.size<=1000000->b-a<=m->limit<=64->Sort.Below bw a b d ->
 Calls prog 182 #[.slice g d.size cap,a,b,limit] W (sW w0 base g cap (pdq bw d a b limit Jd Jd))
theorem QV(m:Nat)(en:m<50):acz m:=by
 induction m using IF with
 |ind m ih=>
   intro w0 W base g cap d h a b limit i7 hb am hm hl XM;have H:=ae h;have fF:=ae XM;have IH:Lk (∀{W:KX}{d:Array Nat},bI w0 base g cap d W->12<m->∀a b limit:Nat,a<=b->b<=d.size->d.size<=1000000->b-a+1<=m->limit<=64->Sort.Below bw a b d ->
    K1 prog 182 #[.slice g d.size cap,a,b,limit] W (sW w0 base g cap (pdq bw d a b limit Jd Jd))):=ae λh FO a b l q1 T q3 q4 q5 q6=>ih (m-1) af af h a b l q1 T q3 af q5 q6
   obtain⟨N,hN⟩:=ac d.size;rw[<- hN]at hb am ⊢;obtain⟨r,hr⟩:=ac (pdq bw d a b limit Jd Jd);rw[<- hr];have iS:Lk (pdq bw d a b limit Jd Jd=r):=ae hr.symm;have HX:Lk (a<=b/\b<=N/\N<=1000000/\b-a<=m/\limit<=64/\d.size=N/\m<50):=ae af;clear h hN XM hr i7 hb am hm hl ih en;go_enter func182,ntmps182;go_wp2_with fail;go_loopw [1,2,3,8,9] (λs1 s2 s3 fm dq wr=>∃(f i p:Nat)(wb wp:Bool)(Q:Array Nat),s1=f/\s2=i/\s3=p/\fm=.bool wb/\dq=.bool wp/\f<=i/\i<=N/\i-f<=m/\p<=64/\Q.size=N/\Lk (Sort.Below bw f i Q)/\bI w0 base g cap Q wr/\Lk (pdq bw Q f i p wb wp=r)) (λs1 s2 _ _ _ _=>(Lo s2-Lo s1).toNat)
   case atStart=>exact⟨a,b,limit,Jd,Jd,d,rfl,rfl,rfl,rfl,rfl,HX.out.1,HX.out.2.1,HX.out.2.2.2.1,HX.out.2.2.2.2.1,HX.out.2.2.2.2.2.1,fF,H.out,iS⟩
   case round=>
    obtain⟨f,i,p,wb,wp,Q,rfl,rfl,rfl,rfl,rfl,ee,eS,LJ,RU,dl,gt,hs,HO⟩:=hrel;generalize wr=Wr at *;have HS:=ae hs;obtain⟨L,hL⟩:=ac (i-f);have wL:cf Mm ((i:Int)-f)=L:=by have:=HX.out;rw[ax]<;>omega
    have t:Lk (f<=i/\i<=N/\L=i-f/\L<=m/\p<=64/\N<=1000000/\Q.size=N/\m<50):=ae (Nm HX.out);clear hs dl hL ee eS LJ RU;by_cases FO:L<=12
    .have i6:(L:Int)<=12:=af;have n:=t.out;have j:=UU HS.out f i n.1 af af;rw[n.2.2.2.2.2.2.1,show insertionSort bw Q f i=r by rw[<- HO.out];exact(pdq_small af).symm]at j;have s:=ae j;clear j n;go_wp2_with fail;go_call s.out as e w1⟨rfl,hs1⟩;have X:=ae hs1;clear hs1;go_wp2;go_returns;exact⟨rfl,X.out⟩
    .have i6:¬((L:Int)<=12):=af;by_cases U:p=0
     .subst U;have n:=t.out;have j:=QS HS.out f i af af af;rw[n.2.2.2.2.2.2.1,show heapSort bw Q f i=r by rw[<- HO.out];exact(pdq_heap af rfl).symm]at j;have s:=ae j;clear j n;go_wp2_with fail;go_call s.out as e w1⟨rfl,hs1⟩;have X:=ae hs1;clear hs1;go_wp2;go_returns;exact⟨rfl,X.out⟩
     .have kl:((p:Int) == 0)=false:=by simp;omega
      obtain⟨R,k⟩:∃R,Lk (Zk bw f i p wb wp Q R):=⟨_,ae (UT IL wb wp (Nm t.out) U (Nm t.out) gt.out)⟩;have JL:Lk (1<=p/\12<L/\R.d1.size=N/\R.d2.size=N/\R.pi.1.size=N):=ae ⟨af,af,k.out.s1.trans t.out.2.2.2.2.2.2.1,k.out.s2.trans t.out.2.2.2.2.2.2.1,k.out.s3.trans t.out.2.2.2.2.2.2.1⟩;clear U FO;go_upto_if 35 with fail
      go_cut [3] from 19 to 133 (λs3 wc=>s3=Kx Mm (R.lim:Int)/\bI w0 base g cap R.d1 wc)
      case first=>
       cases wb with
       |false=>
         obtain⟨u,w⟩:=k.out.brk rfl;have n:=t.out;have o:=JL.out;have j:=N9 HS.out f i af af af;rw[n.2.2.2.2.2.2.1,<- u]at j;have s:=ae j;have ke:cf Mm ((p:Int)-1)=R.lim:=by rw[ax]<;>omega
         clear j u w n o;go_wp2_with fail;go_call s.out as e w1⟨rfl,hs1⟩;have X:=ae hs1;clear hs1;go_wp2;go_meet
         exact⟨rfl,X.out⟩
       |true=>
         obtain⟨u,w⟩:=k.out.nob rfl;go_wp2;go_meet
         exact⟨by rw[w],by rw[u];exact HS.out⟩
      case rest=>
       obtain⟨rfl,hs1⟩:=hcut;have X:=ae hs1;have n:=t.out;have o:=JL.out;have j:=N8 X.out f i af af af af;rw[o.2.2.1,<- k.out.c]at j;have s:=ae j;clear j hs1 n o;go_upto_if 50 with fail
       refine s.out.mono ?_;rintro e w2⟨rfl,bd⟩;have fP:=ae bd;clear bd s;go_upto_if 50 with fail
       go_cut [11,12] from 19 to 133 (λdu io wc=>du=Kx Mm (R.pivot:Int)/\io=Kx Mm (pZ R.hint:Int)/\bI w0 base g cap R.d2 wc)
       case first=>
        by_cases hh:R.c.2=.decreasing
        .obtain⟨w,Y,O⟩:=k.out.dec hh;have hz:(pZ R.c.2:Int)=2:=by rw[hh];rfl
         have n:=t.out;have o:=JL.out;have j:=G5 fP.out f i af af af;rw[o.2.2.1,<- w]at j;have s:=ae j;obtain⟨P,hP⟩:=ac (R.c.1-f);have h1:=k.out.c1;have h2:=k.out.c2;have jj:cf Mm ((i:Int)-1)=i-1:=by rw[ax]<;>omega
         have wP:cf Mm ((R.c.1:Int)-f)=P:=by rw[ax]<;>omega
         have wV:cf Mm ((i:Int)-1-(P:Int))=R.pivot:=by rw[ax]<;>omega
         have HE:Lk (R.hint=.increasing):=ae O;clear j w Y O hP hh h1 h2 n o;go_wp2_with fail;go_call s.out as e w3⟨rfl,hs3⟩;have gV:=ae hs3;clear hs3;go_wp2;go_meet
         exact⟨rfl,by rw[HE.out];rfl,gV.out⟩
        .obtain⟨w,Y,O⟩:=k.out.XK hh;have hz:((pZ R.c.2:Int) == 2)=false:=by simp only[beq_eq_false_iff_ne,ne_eq];exact λh=>hh (Zl af)
         go_wp2;go_meet
         exact⟨by rw[Y],by rw[O],by rw[w];exact fP.out⟩
       case rest=>
        obtain⟨rfl,rfl,hs3⟩:=hcut;have gV:=ae hs3;clear hs3;obtain⟨z,hz⟩:∃z:Int,z=(pZ R.hint:Int):=⟨_,rfl⟩;rw[<- hz];have HV:Lk (decide (R.hint=.increasing)=(z == 1)):=ae (by rw[hz];cases R.hint<;>rfl);clear hz;go_upto_region 15 with fail
        go_cut [68] from 19 to 133 (λfI wx=>fI=.bool (wb && wp && decide (R.hint=.increasing))/\bI w0 base g cap R.d2 wx)
        case first=>
         cases wb<;>cases wp<;>(
          go_wp2_with fail;go_meet
          exact⟨by rw[HV.out];simp,gV.out⟩)
        case rest=>
         obtain⟨rfl,F⟩:=hcut;have jh:=ae F;clear F;go_upto_if 68 with fail
         go_cut [] from 19 to 133 (λwx=>R.pi.2=J0/\bI w0 base g cap R.pi.1 wx)
         case first=>
          cases aE:(wb && wp && decide (R.hint=.increasing))
          .have J:=ae (k.out.no aE);go_wp2;go_meet
           exact⟨by rw[J.out],by rw[J.out];exact jh.out⟩
          .have J:=ae (k.out.yes aE);have n:=t.out;have o:=JL.out;have j:=G6 jh.out f i af af af af;rw[o.2.2.2.1,<- J.out]at j;have s:=ae j;clear j n o;cases M:R.pi.2
           .go_wp2_with fail;go_call s.out as e w4⟨rfl,u,F⟩;rw[M];rw[<- u]at F;have V:=ae (show _/\_ from⟨M,F⟩);clear F M u;go_wp2;go_meet
            exact V.out
           .have I:Lk (R.pi.1=r):=ae (by rw[<- HO.out];exact(k.out.done M).symm);go_wp2_with fail;go_call s.out as e w4⟨rfl,u,F⟩;rw[M];rw[<- u,I.out]at F;have V:=ae F;clear F M u;go_wp2;go_returns;exact⟨rfl,V.out⟩
         case rest=>
          obtain⟨M,co⟩:=hcut;have V:=ae co;have rD:=ae M;clear co M;generalize wc=W5 at *;have bV:(R.pivot:Int)<N:=No k.out.p2 t.out;go_upto_region 17 with fail
          go_cut [87] from 19 to 133 (λv wx=>v=.bool (decide (f>0) && !bw R.pi.1[f-1]! R.pi.1[R.pivot]!)/\bI w0 base g cap R.pi.1 wx)
          case first=>
           rcases Nat.eq_zero_or_pos f with K | K
           .have i8:decide (0<f)=false:=decide_eq_false af;have ff:=ae K;clear K;go_wp2_with fail;go_quiet (fail)
            have iF:=ae (V.out.drawn nq);go_wp2;go_meet
            exact⟨by simp[ff.out],iF.out⟩
           .have kd:(f:Int)>0:=af;obtain⟨A,hA⟩:=ac (f-1);have n:=t.out;have o:=JL.out;have hv:=k.out.p2;have bA:(A:Int)<N:=af;have wA:cf Mm ((f:Int)-1)=A:=by rw[ax]<;>omega
            obtain⟨x,y,c,x0,y0,hl,j⟩:=V.out.two A R.pivot af af;have HW:Lk ((decide (f>0) && !bw R.pi.1[f-1]! R.pi.1[R.pivot]!)=!c):=ae (by rw[<- hA,<- j.out,decide_eq_true K];rfl);clear hA n o hv j;go_wp2_with fail;go_quiet ((go_at_call 226;exact Calls.quiet_of_same (hl.out _)))
            have iF:=ae (V.out.drawn nq);go_wp2;go_meet
            exact⟨by rw[HW.out],iF.out⟩
          case rest=>
           obtain⟨rfl,ci⟩:=hcut;have iF:=ae ci;clear ci;have n:=t.out;have o:=JL.out;cases TQ:(decide (f>0) && !bw R.pi.1[f-1]! R.pi.1[R.pivot]!)
           .obtain⟨mid,ap,d4,D⟩:∃mid ap d4,partition bw R.pi.1 f i R.pivot=(mid,ap,d4):=⟨_,_,_,rfl⟩;obtain⟨G,S,al,de,Kc,Ca,ce⟩:=round_part IL (partition_holds bw) k.out.p1 k.out.p2 (show i<=R.pi.1.size by omega) k.out.B3 D;have j:=QU iF.out f i R.pivot k.out.p1 k.out.p2 af af;rw[o.2.2.2.2,D]at j;have s:=ae j;have gx:=ae (k.out.left rD.out TQ mid ap d4 D G S);have gE:=ae (k.out.right rD.out TQ mid ap d4 D G S);obtain⟨A,hA⟩:=ac (mid-f);obtain⟨B,hB⟩:=ac (i-mid);obtain⟨E,hE⟩:=ac (L/8);have wA:cf Mm ((mid:Int)-f)=A:=by rw[ax]<;>omega
            have wB:cf Mm ((i:Int)-mid)=B:=by rw[ax]<;>omega
            have wE:cf Mm ((L:Int)/8)=E:=by rw[ax]<;>omega
            have wM:cf Mm ((mid:Int)+1)=(mid+1:Nat):=by rw[ax]<;>omega
            have HM:Lk (A=mid-f/\B=i-mid/\E=L/8/\f<=mid/\mid<i/\d4.size=N):=ae ⟨hA,hB,hE,G,S,al.trans o.2.2.2.2⟩;have La:=ae (show _/\_/\_/\_ from⟨de,Kc,Ca,ce⟩);clear j D hA hB hE G S al de Kc Ca ce TQ n o;go_wp2_with fail;go_call s.out as e w7⟨rfl,PW⟩;dsimp only at PW;have lL:=ae PW;clear PW s;have n:=t.out;have o:=JL.out;have C:=HM.out;by_cases h4:A<B
            .have el:(A:Int)<B:=af;have Z:=IH.out lL.out af f mid R.lim C.2.2.2.1 af af af (cp k.out.mj n.2.2.2.2.1) La.out.1;obtain⟨pL,sL⟩:=pdq_sorts bw IL d4 f mid R.lim Jd Jd C.2.2.2.1 af La.out.1;have uY:=ae (La.out.2.2.1 _ pL sL).1;have I:Lk (pdq bw (pdq bw d4 f mid R.lim Jd Jd) (mid+1) i R.lim (decide (A >= E)) ap=r/\(pdq bw d4 f mid R.lim Jd Jd).size=N):=ae ⟨by rw[<- HO.out,gx.out af,C.1,C.2.2.1,n.2.2.1],pL.1.trans C.2.2.2.2.2⟩
             rw[C.2.2.2.2.2]at Z;have XP:=ae Z;clear Z pL sL h4 n o C;go_wp2_with fail;go_call XP.out as e w8⟨rfl,GG⟩;have lJ:=ae GG;clear GG XP;go_wp2;have q:=HM.out;have T:=t.out;exact⟨⟨mid+1,i,R.lim,decide (A >= E),ap,_,rfl,rfl,rfl,congrArg ID ai,rfl,af,af,af,cp k.out.mj T.2.2.2.2.1,I.out.2,uY,lJ.out,ae I.out.1⟩,Xg⟩
            .have el:¬(A:Int)<B:=af;have Z:=IH.out lL.out af (mid+1) i R.lim af af af af (cp k.out.mj n.2.2.2.2.1) La.out.2.1;obtain⟨pL,sL⟩:=pdq_sorts bw IL d4 (mid+1) i R.lim Jd Jd af af La.out.2.1;have uY:=ae (La.out.2.2.2 _ pL sL).1;have I:Lk (pdq bw (pdq bw d4 (mid+1) i R.lim Jd Jd) f mid R.lim (decide (B >= E)) ap=r/\(pdq bw d4 (mid+1) i R.lim Jd Jd).size=N):=ae ⟨by rw[<- HO.out,gE.out af,C.2.1,C.2.2.1,n.2.2.1],pL.1.trans C.2.2.2.2.2⟩
             rw[C.2.2.2.2.2]at Z;have XP:=ae Z;clear Z pL sL h4 n o C;go_wp2_with fail;go_call XP.out as e w8⟨rfl,GG⟩;have lJ:=ae GG;clear GG XP;go_wp2;have q:=HM.out;have T:=t.out;exact⟨⟨f,mid,R.lim,decide (B >= E),ap,_,rfl,rfl,rfl,congrArg ID ai,rfl,af,af,af,cp k.out.mj T.2.2.2.2.1,I.out.2,uY,lJ.out,ae I.out.1⟩,Xg⟩
           .have JM:=TQ;simp only[j4,decide_eq_true_eq,Bool.not_eq_true']at JM;obtain⟨mid,d4,D⟩:∃mid d4,partitionEqual bw R.pi.1 f i R.pivot=(mid,d4):=⟨_,_,rfl⟩;obtain⟨u,w,e3,e4⟩:=round_eq IL (partitionEqual_holds bw) JM.1 k.out.p1 k.out.p2 (show i<=R.pi.1.size by omega) k.out.B3 JM.2 D;have j:=KC iF.out f i R.pivot k.out.p1 k.out.p2 af af;rw[o.2.2.2.2,D]at j;have s:=ae j;have I:Lk (pdq bw d4 mid i R.lim wb wp=r/\f<mid/\mid<=i/\d4.size=N):=ae ⟨by rw[<- HO.out,k.out.eq rD.out TQ mid d4 D u w],u,w,e3.trans o.2.2.2.2⟩;have uY:=ae e4.1;clear j D TQ JM u w e3 e4 n o;go_wp2_with fail;go_call s.out as e w7⟨rfl,PW⟩;dsimp only at PW;have lL:=ae PW;clear PW s;go_wp2;have q:=I.out;have T:=t.out;exact⟨⟨mid,i,R.lim,wb,wp,d4,rfl,rfl,rfl,rfl,rfl,q.2.2.1,T.2.1,af,cp k.out.mj T.2.2.2.2.1,q.2.2.2,uY,lL.out,ae q.1⟩,Xg⟩
section
variable {base:Nat}
theorem Bf(v:J3)(w:KX):K1 prog 220 #[v,Kx Mm 0,Kx Mm 0] w λe w'=>e=Mk (Ly #[])/\w=w':=by
 go_enter func220,ntmps220;go_wp2;refine wp_loop_rounds 1 ?_;iterate 1 (rw[rounds_succ];go_wp2)
 go_returns;exact⟨rfl,rfl⟩
theorem G7(v:J3)(a:Int)(w:KX):K1 prog 182 #[v,Kx Mm 0,Kx Mm 0,Kx Mm a] w λe w'=>e=Mk (Ly #[])/\w=w':=by have b:=ae (Bf v w);go_enter func182,ntmps182;go_wp2;refine wp_loop_rounds 1 ?_;rw[rounds_succ];go_wp2_with fail;go_call b.out as e w'⟨rfl,rfl⟩;go_wp2;go_returns;exact⟨rfl,rfl⟩
theorem QW{w:KX}{v:J3}{l:List Nat}(h:aT w base v l)(y:l.length<50):K1 prog 117 #[v] w (E7 w base v l):=by
 have x:Lk (K1 prog 72 #[Kx MJ l.length] w λe w'=>e=Mk (Kx Mm (Lib.bitLen l.length:Nat))/\w'=w):=
  ae (Any.bits_Len (SlLaysF0.n15.bits (P:=prog) (ρ:=Tryz.sortEdges_ren) { Tryz.sortEdges with }) l.length w af af)
 have E:cf MJ (l.length:Int)=l.length:=iQ _ af af;have d:Lk (K1 prog 182 #[v,Kx Mm 0,l.length,(Lib.bitLen l.length:Nat)] w (E7 w base v l)):=ae (by
  obtain⟨-,⟨rfl,z⟩|⟨g,cap,_,rfl,_⟩⟩:=id h
  .obtain rfl:=List.eq_nil_of_length_eq_zero z;go_call(G7 _ _ w) as e w'⟨rfl,rfl⟩;exact⟨[],rfl,h,List.Perm.refl _,List.Pairwise.nil,aN.refl _ _⟩
  .have B:bI w base g cap l.toArray w:=⟨by simpa using h,aN.refl _ _⟩;have u:=QV 49 af B 0 l.length (Lib.bitLen l.length) (em _) ai (by simp;omega) af (cp (Lib.bitLen_le _ 62 af af) ag) (.inl rfl);rw[List.size_toArray]at u;go_call u as e w'⟨rfl,h1⟩;obtain⟨⟨c,-,q⟩,A⟩:=pdq_sorts bw IL l.toArray 0 l.length (Lib.bitLen l.length) Jd Jd (em _) ai (.inl rfl);generalize pdq bw l.toArray 0 l.length (Lib.bitLen l.length) Jd Jd=D at *;have c:D.size=l.length:=by simpa using c
   refine⟨D.toList,rfl,?_,?_,?_,h1.turn.mono (λb _ e=>by rw[e];rfl)⟩
   .have:=h1.row;rw[c]at this;unfold aT at this ⊢;simpa[c]using this
   .rw[show D.extract 0 l.length=D by rw[<- c];simp]at q;simpa using q
   .rw[qa];intro i j hi s C;have t:=A i j (em _) C (by simpa[c]using s);rw[getElem!_pos D i (by simpa using hi),getElem!_pos D j (by simpa using s)]at t;have:=of_decide_eq_false t;simp only[Array.getElem_toList];omega)
 obtain⟨a,k,rfl⟩:=aw h;clear h y;generalize l.length=n at *;generalize Lib.bitLen n=F at *;obtain⟨f,o⟩:=ac (E7 w base (.slice a n k) l);rw[<- o]at d ⊢;have r:Lk (∀e w',f e w'->e=Mk (Ly #[])):=ae (by rw[o];rintro e w'⟨H,h,-⟩;exact h);clear o;go_enter func117,ntmps117;go_wp2_with fail;go_call x.out as e w'⟨rfl,rfl⟩;go_wp2_with fail;refine d.out.mono ?_;intro e G p;obtain rfl:=r.out _ _ p;have m:=ae p;clear p d x r;go_wp2;go_returns;exact m.out
end
open Go.ChangeMaps (setBlock)
abbrev gQ:=sO×(Option Addr×Nat)
abbrev pA(p:gQ):Value:=.slice p.2.1 p.1.n.length p.2.2
abbrev kM(p:gQ):Value:=.agg #[Kx Mo p.1.v,Kx MJ p.1.k,.slice p.2.1 p.1.n.length p.2.2]
def kf:List gQ->List J3
 | []=>[]
 |p::l=>[Kx Mo p.1.v,Kx MJ p.1.k,pA p]++kf l
theorem E9(a b:List gQ):kf (a++b)=kf a++kf b:=by
 induction a with
 |nil=>rfl
 |cons e a c=>rw[List.cons_append,kf,kf,c,o0]
theorem Oa{l:List gQ}{i:Nat}{p:gQ}(h:l[i]? = IT p):(kf l)[i*3]? = IT (Kx Mo p.1.v)/\(kf l)[i*3+1]? = IT (Kx MJ p.1.k)/\(kf l)[i*3+2]? = IT (pA p):=by
 induction l generalizing i with
 |nil=>cases h
 |cons q l a=>
   cases i with
   |zero=>cases h;exact⟨rfl,rfl,rfl⟩
   |succ i=>have:=a (i:=i) (by simpa using h);rw[show(i+1)*3=i*3+3 by omega];exact this
abbrev eA(w:KX)(base:Nat)(v:J3)(l:List gQ):Prop:=w.ownsRow base 143 3 v l.length (kf l)
theorem Ce{w:KX}{base g cap:Nat}{l:List gQ}(h:eA w base (.slice g l.length cap) l){i:Nat}{p:gQ}(hi:l[i]? = IT p) :
 w.cell? ⟨g,i*3,KK⟩=IT (Kx Mo p.1.v)/\w.cell? ⟨g,i*3+1,KK⟩=IT (Kx MJ p.1.k)/\w.cell? ⟨g,i*3+2,KK⟩=IT (pA p):=by
 have a:∀(j:Nat)(u:J3),(kf l)[j]? = IT u->w.cell? ⟨g,j,KK⟩=IT u:=λj u c=>by have:=World.ownsRow.cells h (g:=g) rfl j u c;rwa [br,j0]at this
 obtain⟨d,e,b⟩:=Oa hi;exact⟨a _ _ d,a _ _ e,a _ _ b⟩
abbrev QX(w:KX)(b:Nat)(m:List (Nat×gQ)):Prop:=cj prog 33 jf kM w b m
structure qU(w:KX)(base:Nat)(lv:J3)(cs:List gQ):Prop where
 row:eA w base lv cs
 jE:∀p∈cs,aT w 0 (pA p) p.1.n/\∀y∈p.1.n,y<4294967296
 v32:∀p∈cs,p.1.v<4294967296
 il:(cs.map (·.1.v)).Pairwise (· < ·)
 len:cs.length<=24
def iE(a:List gQ):List (Nat×gQ):=a.reverse.map λp=>(p.1.v,p)
section
variable {w W:KX}{base:Nat}{lv:J3}{cs:List gQ}
theorem Fa{l:List Nat}(h:l.Pairwise (· < ·)):l.Nodup:=h.imp (λh e=>af)
theorem UW{j:Nat}{p:gQ}(h:qU w base lv cs)(e:cs[j]? = IT p):aX (iE (cs.take j)) p.1.v p=iE (cs.take (j+1))/\aI (iE (cs.take j)) p.1.v=none:=by
 obtain⟨c,rfl⟩:=e7.1 e;have a:∀q∈iE (cs.take j),q.1≠cs[j].1.v:=by
  intro q g;obtain⟨x,d,rfl⟩:=gl.1 g;rw[so]at d;obtain⟨i,hi⟩:=hY.1 d;have b:i<j:=by have:=(e7.1 hi).1;rw[et]at this;omega
  rw[List.getElem?_take_of_lt b]at hi;obtain⟨f,rfl⟩:=e7.1 hi;have:=qa.1 h.il i j (by simpa using f) (by simpa using c) b;simp at this;show cs[i].1.v≠_;omega
 refine⟨?_,lT.2 a⟩;unfold aX;rw[rq a];unfold iE;rw[fh c,List.reverse_append];rfl
theorem Zm(h:qU w base lv cs)(v:Nat):(∃p∈cs,p.1.v=v/\aI (iE cs) v=IT p)\/(aI (iE cs) v=KK/\∀p∈cs,p.1.v≠v):=by
 have d:((iE cs).map (·.1)).Nodup:=by unfold iE;rw[rj];exact((List.reverse_perm cs).map (·.1.v)).nodup_iff.2 (Fa h.il)
 cases e:aI (iE cs) v with
 |none=>refine .inr ⟨rfl,λp b a=>?_⟩;exact lT.1 e (p.1.v,p) (gl.2 ⟨p,so.2 b,rfl⟩) a
 |some q=>obtain⟨x,c,a⟩:=gl.1 (fy e);cases a;exact .inl ⟨q,so.1 c,rfl,rfl⟩
theorem zJ{l:List Nat}{k y:Nat}{P:Nat->Prop}{Q:Prop}(h:l[k]? = IT y):(Q\/∃x∈l.take (k+1),P x)↔((Q\/∃x∈l.take k,P x)\/P y):=by
 obtain⟨b,rfl⟩:=e7.1 h;rw[fh b];constructor
 .rintro(h |⟨x,a,h⟩)
  .exact .inl (.inl h)
  .rcases hS.1 a with a | a
   .exact .inl (.inr ⟨x,a,h⟩)
   .rw[kj]at a;subst a;exact .inr h
 .rintro((h |⟨x,a,h⟩) | h)
  .exact .inl h
  .exact .inr ⟨x,hS.2 (.inl a),h⟩
  .exact .inr ⟨_,hS.2 (.inr ai),h⟩
theorem Fb(h:qU w base lv cs){a b:gQ}(l:a∈cs)(m:b∈cs)(e:a.1.v=b.1.v):a=b:=by
 obtain⟨i,hi⟩:=hY.1 l;obtain⟨j,k⟩:=hY.1 m;obtain⟨g,rfl⟩:=e7.1 hi;obtain⟨d,rfl⟩:=e7.1 k;have f:=qa.1 h.il;rcases Nat.lt_trichotomy i j with c | c | c
 .have:=f i j (by simpa using g) (by simpa using d) c;simp at this;omega
 .subst c;rfl
 .have:=f j i (by simpa using d) (by simpa using g) c;simp at this;omega
theorem Zn(h:qU w base lv cs){S ts:List Nat}{c:List (Nat×gQ)}(i:∀z,z∈S↔Cb (cs.map (·.1)) z)(j:c.Perm (iE cs))(k:ts.Perm ((c.map (·.1)).filter (λx=>decide (x ∉ S))))(g:ts.Pairwise (·<=·)):ts=jc (cs.map (·.1)):=by
 have e:jc (cs.map (·.1))=(cs.map (·.1.v)).filter (λx=>decide (x ∉ S)):=by unfold jc;rw[rj];refine List.filter_congr λx _=>?_;simp only[i x]
 rw[e];have l:ts.Perm ((cs.map (·.1.v)).filter (λx=>decide (x ∉ S))):=by refine k.trans (List.Perm.filter _ ((j.map (·.1)).trans ?_));unfold iE;rw[rj];exact(List.reverse_perm cs).map _
 refine l.eq_of_pairwise (le:=λa b=>a<=b) (λa b _ _ d f=>Nat.le_antisymm d f) g ?_;exact(h.il.imp (λh=>yi h)).filter _
def Zo(w:KX)(l:List Nat)(e:Lp)(w':KX):Prop:=∃v,e=Mk v/\Lg w w w'/\aT w' w.heap.size v l
theorem UX(w:KX):(zeroValue 143).run prog w=.ok (.agg #[Kx Mo 0,Kx MJ 0,.slice KK 0 0]) w:=Tryz.zeroValue143 w
theorem Zp(h:qU w base lv cs):K1 prog 62 #[lv] w (Zo w (jc (cs.map (·.1)))):=by
 obtain⟨la,lk,rfl⟩:=aw h.row;have H:=ae h;have HZ:=ae UX;have i8:=ae IE;have tX:∀(t:TypeId)(W:KX),(Instr.makeMap t KK).run prog W=.ok (.map (IT W.heap.size)) (W.alloc (.map #[] 0)):=λ_ _=>rfl;clear h;obtain⟨R,HR⟩:∃R,Lk (jc (cs.map (·.1))=R):=⟨_,ae rfl⟩;rw[HR.out];obtain⟨M,hM⟩:=ac cs.length;rw[<- hM];have HM:Lk (M=cs.length/\M<=24):=ae ⟨hM,by rw[hM];exact H.out.len⟩;clear hM;have i7:Lk (QX (w.alloc (.map #[] 0)) w.heap.size (iE (cs.take 0))):=ae (cj.made w prog 33 jf kM);have fF:Lk (Lg w w (w.alloc (.map #[] 0))):=ae aj;go_enter func62,ntmps62;go_wp2_with fail;go_loopw [22] (λvi wr=>∃j:Nat,vi=j/\j<=M/\Lk (QX wr w.heap.size (iE (cs.take j)))/\Lk (Lg w w wr)) (λvi _=>M-(Lo vi).toNat)
 case atStart=>exact⟨0,rfl,em _,i7,fF⟩
 case round=>
  obtain⟨j,rfl,hj,HO,K⟩:=hrel;clear i7 fF;generalize wr=f at *;by_cases E:j<M
  .have CV:(j:Int)<M:=af;have wj:cf Mm ((j:Int)+1)=(j+1:Nat):=by have:=HM.out;rw[ax]<;>omega
   obtain⟨p,u⟩:∃x,cs[j]? = IT x:=⟨_,bk (Nm HM.out)⟩;have HP:=ae u;have HG:=ae (iK (H.out.v32 p (cx u)));obtain⟨g,rfl⟩:∃g,la=IT ⟨g,0,KK⟩:=by
    obtain⟨-,⟨N,h2⟩|⟨g,_,_,N,_⟩⟩:=H.out.row
    .have:=HM.out;omega
    .cases N;exact⟨g,rfl⟩
   obtain⟨q0,q1,q2⟩:=Ce (aB H.out.row K.out) u;obtain⟨c,s,m⟩:=p;have cA:Lk (Lg f f (f.alloc (Mi #[Kx Mo (c.v:Int),Kx MJ (c.k:Int),.slice s c.n.length m] 143))):=ae aj;have tq:Lk (QX (f.alloc (Mi #[Kx Mo (c.v:Int),Kx MJ (c.k:Int),.slice s c.n.length m] 143)) w.heap.size (iE (cs.take j))):=ae (HO.out.kept (cA.out.block _ HO.out.lt));have pN:Lk (QX ((f.alloc (Mi #[Kx Mo (c.v:Int),Kx MJ (c.k:Int),.slice s c.n.length m] 143)).alloc (Mi #[Kx Mo 0,Kx MJ 0,.slice KK 0 0] 143)) w.heap.size (iE (cs.take j))):=ae (tq.out.kept ((MapKept.heap_alloc _ _).2 _ tq.out.lt));obtain⟨el,jM⟩:=UW H.out u;have qH:=ae el;have Et:=ae jM;clear u el jM;go_wp2_with (first | (at_lookup;refine cy _ rfl _ _ _ _ rfl 143 cF dP Tryz.underlying203 (HZ.out _) w.heap.size _ rfl tq.out c.v rfl HG.out ?_;unfold tH;rw[Et.out];simp only[Option.map_none,Option.getD_none,H5]) | (at_mapUpdate;refine fL _ rfl _ _ _ _ rfl 143 cF dP Tryz.underlying203 w.heap.size _ rfl pN.out c.v (c,s,m) rfl rfl HG.out ?_;intro es am hm;rw[qH.out]at hm;have jg:=ae hm;clear hm));have uY:Lk (Lg w w (setBlock ((f.alloc (Mi #[Kx Mo (c.v:Int),Kx MJ (c.k:Int),.slice s c.n.length m] 143)).alloc (Mi #[Kx Mo 0,Kx MJ 0,.slice KK 0 0] 143)) w.heap.size (.map es am))):=ae (by have ht:aN (λx=>w.heap.size<=x) w (setBlock ((f.alloc (Mi #[Kx Mo (c.v:Int),Kx MJ (c.k:Int),.slice s c.n.length m] 143)).alloc (Mi #[Kx Mo 0,Kx MJ 0,.slice KK 0 0] 143)) w.heap.size (.map es am)):=(((aN.aZ K.out).alloc _).alloc _).setBlock _ _ (.inl (cg _));exact ht.below (cg _) (λ_ h=>h))
   exact⟨⟨j+1,by go_num,af,jg,uY⟩,Xg⟩
  .have CV:¬(j:Int)<M:=af;have dl:Lk (QX f w.heap.size (iE cs)):=ae (by have:=HO.out;rwa [ey (Nm HM.out)]at this);clear HO;have CT:Lk (Lg f f ((f.alloc (.map #[] 0)).alloc (Mi #[.map (IT f.heap.size)] 205))/\((f.alloc (.map #[] 0)).alloc (Mi #[.map (IT f.heap.size)] 205)).heap.size=f.heap.size+1+1):=ae ⟨aj.alloc ai _,ai⟩;have pN:Lk (QX ((f.alloc (.map #[] 0)).alloc (Mi #[.map (IT f.heap.size)] 205)) w.heap.size (iE cs)):=ae (dl.out.kept (CT.out.1.block _ dl.out.lt));have gV:Lk (lC ((f.alloc (.map #[] 0)).alloc (Mi #[.map (IT f.heap.size)] 205)) f.heap.size []/\((f.alloc (.map #[] 0)).alloc (Mi #[.map (IT f.heap.size)] 205)).heap[f.heap.size+1]? = IT (Mi #[.map (IT f.heap.size)] 205)):=ae ⟨(cj.made f prog 33 jf (λ_:Unit=>Value.agg #[])).kept ((MapKept.heap_alloc _ _).2 _ ai),by have:=Lw (f.alloc (.map #[] 0)) (Mi #[.map (IT f.heap.size)] 205);simpa using this⟩
   have PU:Lk (w.heap.size<f.heap.size):=ae dl.out.lt;clear dl;go_wp2_with (at_range;refine lU _ rfl _ _ rfl 143 Tryz.underlying203 w.heap.size _ rfl pN.out ?_;intro ee tj);try go_frame
   rw[CT.out.2]at tj;have O:=ae tj;clear tj;obtain⟨l,Ii⟩:=ac f.heap.size;obtain⟨L,fI⟩:=ac (f.heap.size+1);obtain⟨ib,iS⟩:=ac (f.heap.size+1+1);have Z:Lk (w.heap.size<l/\l<L/\L<ib):=ae (Nm PU.out);have oZ:Lk (Lg w w (((f.alloc (.map #[] 0)).alloc (Mi #[.map (IT f.heap.size)] 205)).alloc ee)):=ae ((K.out.trans (CT.out.1.mono K.out.size)).alloc (by rw[CT.out.2];have:=K.out.size;omega) _);have jh:Lk (lC (((f.alloc (.map #[] 0)).alloc (Mi #[.map (IT f.heap.size)] 205)).alloc ee) l []/\(((f.alloc (.map #[] 0)).alloc (Mi #[.map (IT f.heap.size)] 205)).alloc ee).heap[L]? = IT (Mi #[.map (IT l)] 205)):=ae (by subst Ii fI;exact⟨gV.out.1.kept ((MapKept.heap_alloc _ _).2 _ gV.out.1.lt),by rw[(MapKept.heap_alloc _ _).2 _ (by rw[CT.out.2];omega)];exact gV.out.2⟩)
   rw[<- iS]at O;rw[<- iS,<- fI];generalize ((f.alloc (.map #[] 0)).alloc (Mi #[.map (IT f.heap.size)] 205)).alloc ee=W4 at *;clear Ii fI iS gV pN CT PU K tX;go_loopw [] (λwr=>∃n d S,Lk (cL prog 33 jf kM wr w.heap.size ib (iE cs) d)/\Lk (Lg w w wr)/\Lk (lC wr l S/\wr.heap[L]? = IT (Mi #[.map (IT l)] 205))/\Lk ((n++d).Perm (iE cs))/\Lk (∀z,z∈S ↔ ∃q∈n,∃b∈cs,b.1.v∈q.2.1.n/\Kz q.2.1 b.1 z)) (λwr=>wr.rangeLeft w.heap.size ib)
   case atStart=>exact⟨[],_,[],O,oZ,jh,ae (List.Perm.refl _),ae ai⟩
   case round=>
    obtain⟨n,d,S,HI,K,V,HP,en⟩:=hrel;clear O oZ jh;generalize wr=W5 at *;go_wp2_with (at_next;refine lV _ rfl _ rfl w.heap.size ib (iE cs) d rfl HI.out ?_ ?_)
    .rintro rfl;have lP:Lk (∀z,z∈S↔Cb (cs.map (·.1)) z):=ae (λz=>by
      have u:n.Perm (iE cs):=by simpa using HP.out
      rw[en.out z];unfold Cb;constructor
      .rintro⟨q,G,b,hb,N,h2⟩;obtain⟨x,C,rfl⟩:=gl.1 (u.mem_iff.1 G);exact⟨x.1,gl.2 ⟨x,so.1 C,rfl⟩,b.1,gl.2 ⟨b,hb,rfl⟩,N,h2.1,h2.2⟩
      .rintro⟨a,ha,b,hb,N,h2,h3⟩;obtain⟨x,C,rfl⟩:=gl.1 ha;obtain⟨y,hy,rfl⟩:=gl.1 hb;exact⟨(x.1.v,x),u.mem_iff.2 (gl.2 ⟨x,so.2 C,rfl⟩),y,hy,N,h2,h3⟩)
     have lE:Lk (QX W5 w.heap.size (iE cs)):=ae HI.out.map;clear HP en HI;go_wp2_with (at_range;refine lU _ rfl _ _ rfl 143 Tryz.underlying203 w.heap.size _ rfl lE.out ?_;intro ce R4);try go_frame
     obtain⟨A,de⟩:=ac W5.heap.size;have O:=ae R4;have z8:Lk (L<A):=ae (by rw[de];exact(ds.1 V.out.2).1);have fF:Lk (Lg w w (W5.alloc ce)):=ae (K.out.alloc K.out.size _);have FT:Lk (lC (W5.alloc ce) l S/\(W5.alloc ce).heap[L]? = IT (Mi #[.map (IT l)] 205)):=ae ⟨V.out.1.kept ((MapKept.heap_alloc _ _).2 _ V.out.1.lt),by rw[(MapKept.heap_alloc _ _).2 _ (ds.1 V.out.2).1];exact V.out.2⟩;rw[<- de]at O;rw[<- de];generalize W5.alloc ce=U at *;clear de R4 V K lE;go_loopw [2] (λv wr=>∃(d:List (Nat×gQ))(o:List Nat),Lk (aT wr (A+1) v o)/\Lk (cL prog 33 jf kM wr w.heap.size A (iE cs) d)/\Lk (Lg w w wr)/\Lk (lC wr l S/\wr.heap[L]? = IT (Mi #[.map (IT l)] 205))/\Lk (∃n,(n++d).Perm (iE cs)/\o=(n.map (·.1)).filter (λx=>decide (x ∉ S)))) (λ_ wr=>wr.rangeLeft w.heap.size A)
     case atStart=>exact⟨_,[],ae ⟨rfl,.inl ⟨rfl,rfl⟩⟩,O,fF,FT,ae ⟨[],List.Perm.refl _,rfl⟩⟩
     case round=>
      generalize u2=ov at *;obtain⟨d,o,kS,HI,K,V,HA⟩:=hrel;clear O fF FT;generalize wr=W7 at *;have kl:Lk (o.length<=24):=ae (by obtain⟨n,u,rfl⟩:=HA.out;have N:=u.length_eq;have h2:=kq (λx=>decide (x ∉ S)) (n.map (·.1));have h3:=H.out.len;unfold iE at N;simp only[eh,dj,List.length_reverse]at N h2;omega)
      go_wp2_with (at_next;refine lV _ rfl _ rfl w.heap.size A (iE cs) d rfl HI.out ?_ ?_)
      .rintro rfl;have HC:=ae (QW kS.out (Nat.lt_of_le_of_lt kl.out ag));go_wp2_with fail;go_call HC.out as e w8⟨ts,rfl,hr8,hp8,GG,ht8⟩;have HQ:Lk (Lg w w w8/\aT w8 w.heap.size ov R):=ae (by
        refine⟨?_,?_⟩
        .have h0:aN (λx=>w.heap.size<=x) w W7:=aN.aZ K.out;exact(h0.trans ht8 (λx C e=>NE (aD kS.out x (by first | exact e | exact e.symm)) z8.out Z.out)).below (cg _) (λ_ h=>h)
        .obtain⟨n,u,rfl⟩:=HA.out;rw[nw]at u;rw[<- HR.out,<- Zn H.out lP.out u hp8 GG];exact aQ hr8 (No z8.out Z.out))
       clear hr8 hp8 GG ht8 HC;go_wp2;go_ret;exact⟨ov,rfl,HQ.out.1,HQ.out.2⟩
      .intro I c s m rs T Q u nB tI ff;have VY:∀x,x≠A->(setBlock T A Q).heap[x]? = W7.heap[x]? := λx C=>by
        rcases nB with rfl | rfl
        .exact bm _ C
        .exact bm _ C
       have aE:Lg w w (setBlock T A Q):=by
        have h0:aN (λx=>w.heap.size<=x) w W7:=aN.aZ K.out;have:aN (λx=>w.heap.size<=x) w (setBlock T A Q):=by
         have:=Z.out;have:=z8.out;rcases nB with rfl | rfl
         .exact h0.setBlock _ _ (.inl af)
         .exact h0.drew.setBlock _ _ (.inl af)
        exact this.below (cg _) (λ_ h=>h)
       have F:Lk (lC (setBlock T A Q) l S/\(setBlock T A Q).heap[L]? = IT (Mi #[.map (IT l)] 205)):=ae ⟨V.out.1.kept (VY _ (No Z.out z8.out)),by rw[VY _ (Nm z8.out)];exact V.out.2⟩;have Y0:Lk (aT (setBlock T A Q) (A+1) ov o):=ae (bg kS.out (λx C=>VY x (Nm (aD kS.out x C))));have vI:=ae aE;have io:Lk ((I,(c,s,m))∈iE cs):=ae (by obtain⟨n,G,-⟩:=HA.out;exact G.mem_iff.1 (hS.2 (.inr (u.mem_iff.2 ai))))
       have ks:Lk (Good prog 33 (jf I)):=ae (by obtain⟨x,C,he⟩:=gl.1 io.out;cases he;exact iK (H.out.v32 _ (so.1 C)))
       have P:=ae tI;have du:Lk (d.length=rs.length+1/\W7.rangeLeft w.heap.size A=d.length):=ae ⟨by have:=u.length_eq;simpa using this,HI.out.left⟩;have J:Lk (∃n,(n++[(I,(c,s,m))]++rs).Perm (iE cs)/\o=(n.map (·.1)).filter (λx=>decide (x ∉ S))):=ae (by obtain⟨n,G,he⟩:=HA.out;refine⟨n,List.Perm.trans ?_ G,he⟩;rw[o0];exact List.Perm.append_left n (by simpa using u.symm))
       clear VY aE u nB tI HI K V kS HA;simp only[jf]at ff;generalize setBlock T A Q=i at *;have q0:i.cell? L=IT (.map (IT l)):=by rw[au F.out.2];rfl
       have X:Lk (Lg i i (i.alloc (Mi #[] 207))):=ae aj;have tR:Lk (lC (i.alloc (Mi #[] 207)) l S/\(i.alloc (Mi #[] 207)).heap[L]? = IT (Mi #[.map (IT l)] 205)):=ae ⟨F.out.1.kept (X.out.block _ F.out.1.lt),(X.out.block _ (ds.1 F.out.2).1).trans F.out.2⟩;have ci:Lk (cL prog 33 jf kM (i.alloc (Mi #[] 207)) w.heap.size A (iE cs) rs):=ae (P.out.kept (X.out.block _ P.out.map.lt) (X.out.block _ P.out.lt));have D:Lk (Lg w w (i.alloc (Mi #[] 207))):=ae (vI.out.trans (X.out.mono vI.out.size));have co:Lk (aT (i.alloc (Mi #[] 207)) (A+1) ov o):=ae (aB Y0.out X.out);have Lh:Lk (A+1<=(i.alloc (Mi #[] 207)).heap.size/\o.length<=100000):=ae ⟨ci.out.lt,Nm kl.out⟩;by_cases E:I∈S
       .have UH:Lk (decide (I∈S)=Jd):=ae (decide_eq_true E);have II:Lk (∃n,(n++rs).Perm (iE cs)/\o=(n.map (·.1)).filter (λx=>decide (x ∉ S))):=ae (by obtain⟨n,G,he⟩:=J.out;refine⟨_,G,?_⟩;rw[k8,yk,<- he];simp[E])
        have VQ:Lk ((i.alloc (Mi #[] 207)).rangeLeft w.heap.size A<W7.rangeLeft w.heap.size A):=ae (by have:=du.out;rw[ci.out.left];omega);clear E J;go_wp2_with (at_lookup;refine cy _ rfl _ _ _ _ rfl 207 cF dP Tryz.underlying205 (i8.out _) l _ rfl F.out.1 I rfl ks.out ?_;rw[zC,vt];try rw[UH.out]);go_roundw
        case rel=>exact⟨rs,o,co,ci,D,tR,II⟩
        case measure=>exact VQ.out
       .have UH:Lk (decide (I∈S)=J0):=ae (decide_eq_false E);have II:Lk (∃n,(n++rs).Perm (iE cs)/\o++[I]=(n.map (·.1)).filter (λx=>decide (x ∉ S))):=ae (by obtain⟨n,G,he⟩:=J.out;refine⟨_,G,?_⟩;rw[k8,yk,<- he];simp[E])
        clear E J;obtain⟨oa,ok,rfl⟩:=aw co.out;go_wp2_with (first | (at_lookup;refine cy _ rfl _ _ _ _ rfl 207 cF dP Tryz.underlying205 (i8.out _) l _ rfl F.out.1 I rfl ks.out ?_;rw[zC,vt];try rw[UH.out]) | (at_builtin;refine fg rfl _ _ rfl (A+1) _ o rfl co.out I 1 (by simp[go_sem]) Lh.out.2 Lh.out.1 ?_;intro v5 w5 h5 ha));obtain⟨⟨q1,q2,q3,q4,q5⟩,-⟩:=ha;have gt:((i.alloc (Mi #[] 207)).alloc (Mi #[Kx Mo (I:Int)] 33)).heap.size=(i.alloc (Mi #[] 207)).heap.size+1:=ai;have E:=Lh.out.1;have B:∀x,x<=A->w5.heap[x]? = (i.alloc (Mi #[] 207)).heap[x]? := λx C=>by rw[q5 x (by rw[gt];omega) (λe=>Nm (aD co.out x (by first | exact e | exact e.symm)))];exact(MapKept.heap_alloc _ _).2 _ af
        have hN:=Z.out;have mh:=z8.out;have UY:Lk (cL prog 33 jf kM w5 w.heap.size A (iE cs) rs):=ae (ci.out.kept (B _ af) (B _ (cg _)));have Zq:Lk (Lg w w w5):=ae (D.out.trans ⟨by rw[q1];rfl,by rw[q2];rfl,by rw[q3];rfl,by rw[gt]at q4;omega,λk hk=>B k af⟩);have qV:Lk (lC w5 l S/\w5.heap[L]? = IT (Mi #[.map (IT l)] 205)):=ae ⟨tR.out.1.kept (B _ af),(B _ af).trans tR.out.2⟩;have Zr:=ae h5;have VQ:Lk (w5.rangeLeft w.heap.size A<W7.rangeLeft w.heap.size A):=ae (by have:=du.out;rw[UY.out.left];omega);clear q1 q2 q3 q4 q5 gt E B hN mh h5;go_roundw
        case rel=>exact⟨rs,o++[I],Zr,UY,Zq,qV,II⟩
        case measure=>exact VQ.out
    .intro I c s m rs T Q u nB tI ff;have VY:∀x,x≠ib->(setBlock T ib Q).heap[x]? = W5.heap[x]? := λx C=>by
      rcases nB with rfl | rfl
      .exact bm _ C
      .exact bm _ C
     have aE:Lg w w (setBlock T ib Q):=by
      have h0:aN (λx=>w.heap.size<=x) w W5:=aN.aZ K.out;have:aN (λx=>w.heap.size<=x) w (setBlock T ib Q):=by
       have:=Z.out;rcases nB with rfl | rfl
       .exact h0.setBlock _ _ (.inl af)
       .exact h0.drew.setBlock _ _ (.inl af)
      exact this.below (cg _) (λ_ h=>h)
     have iF:Lk (lC (setBlock T ib Q) l S/\(setBlock T ib Q).heap[L]? = IT (Mi #[.map (IT l)] 205)):=ae ⟨V.out.1.kept (VY _ (Nm Z.out)),by rw[VY _ (Nm Z.out)];exact V.out.2⟩;have mo:=ae aE;have QZ:=ae u;have io:Lk ((I,(c,s,m))∈iE cs):=ae (HP.out.mem_iff.1 (hS.2 (.inr (u.mem_iff.2 ai))));have dq:=ae tI;have du:Lk (d.length=rs.length+1/\W5.rangeLeft w.heap.size ib=d.length):=ae ⟨by have:=u.length_eq;simpa using this,HI.out.left⟩;clear VY aE u nB tI HI K V;generalize setBlock T ib Q=U at *;have kd:Lk ((c,s,m)∈cs/\I=c.v):=ae (by obtain⟨x,C,he⟩:=gl.1 io.out;cases he;exact⟨so.1 C,rfl⟩)
     have gE:=ae (H.out.jE _ kd.out.1);have YI:Lk (Lg U U (U.alloc (Mi #[Kx Mo (c.v:Int),Kx MJ (c.k:Int),.slice s c.n.length m] 143))/\(U.alloc (Mi #[Kx Mo (c.v:Int),Kx MJ (c.k:Int),.slice s c.n.length m] 143)).heap[U.heap.size]? = IT (Mi #[Kx Mo (c.v:Int),Kx MJ (c.k:Int),.slice s c.n.length m] 143)):=ae ⟨aq.alloc (cg _) _,Lw _ _⟩;have lw:Lk (cL prog 33 jf kM (U.alloc (Mi #[Kx Mo (c.v:Int),Kx MJ (c.k:Int),.slice s c.n.length m] 143)) w.heap.size ib (iE cs) rs):=ae (dq.out.kept (YI.out.1.block _ dq.out.map.lt) (YI.out.1.block _ dq.out.lt));have tN:Lk (Lg w w (U.alloc (Mi #[Kx Mo (c.v:Int),Kx MJ (c.k:Int),.slice s c.n.length m] 143))):=ae (mo.out.trans (YI.out.1.mono mo.out.size));have lL:Lk (lC (U.alloc (Mi #[Kx Mo (c.v:Int),Kx MJ (c.k:Int),.slice s c.n.length m] 143)) l S/\(U.alloc (Mi #[Kx Mo (c.v:Int),Kx MJ (c.k:Int),.slice s c.n.length m] 143)).heap[L]? = IT (Mi #[.map (IT l)] 205)):=ae ⟨iF.out.1.kept (YI.out.1.block _ iF.out.1.lt),(YI.out.1.block _ (ds.1 iF.out.2).1).trans iF.out.2⟩;obtain⟨ab,i6⟩:=ac U.heap.size;have kw:Lk ((U.alloc (Mi #[Kx Mo (c.v:Int),Kx MJ (c.k:Int),.slice s c.n.length m] 143)).heap[ab]? = IT (Mi #[Kx Mo (c.v:Int),Kx MJ (c.k:Int),.slice s c.n.length m] 143)/\ab≠l):=ae ⟨by rw[i6];exact YI.out.2,Nm iF.out.1.lt⟩;clear dq mo iF;go_wp2_with fail;rw[<- i6];generalize U.alloc (Mi #[Kx Mo (c.v:Int),Kx MJ (c.k:Int),.slice s c.n.length m] 143)=W7 at *;clear i6 YI ff;go_loopw [51] (λvk wr=>∃(k:Nat)(S':List Nat),vk=Kx Mm (k:Int)/\k<=c.n.length/\Lk (cL prog 33 jf kM wr w.heap.size ib (iE cs) rs)/\Lk (Lg w w wr)/\Lk (lC wr l S'/\wr.heap[L]? = IT (Mi #[.map (IT l)] 205))/\Lk (wr.heap[ab]? = IT (Mi #[Kx Mo (c.v:Int),Kx MJ (c.k:Int),.slice s c.n.length m] 143)/\ab≠l)/\Lk (∀z,z∈S'↔z∈S\/∃y∈c.n.take k,∃b∈cs,b.1.v=y/\Kz c b.1 z)) (λvk _=>c.n.length-(Lo vk).toNat)
     case atStart=>exact⟨0,S,rfl,em _,lw,tN,lL,kw,ae ai⟩
     case round=>
      obtain⟨k,S',rfl,hk,P,vI,F,J,Y⟩:=hrel;clear lw tN lL kw;generalize wr=i at *;by_cases mu:k<c.n.length
      .have CX:(k:Int)<c.n.length:=af;obtain⟨g,rfl,yM⟩:∃g,s=IT ⟨g,0,KK⟩/\c.n.length<=maxLen:=by
        obtain⟨-,⟨N,h2⟩|⟨g,cap,_,N,_,_,mx,mT,_⟩⟩:=gE.out.1
        .omega
        .cases N;exact⟨g,rfl,af⟩
       unfold maxLen at yM;have wk:cf Mm ((k:Int)+1)=(k+1:Nat):=by rw[ax]<;>omega
       obtain⟨y,hy⟩:∃x,c.n[k]? = IT x:=⟨_,bk mu⟩;have HY:=ae hy;have li:=ae (iK (gE.out.2 y (cx hy)));have q0:=iT (aB gE.out.1 vI.out) hy;have a0:i.cell? ab=IT (Kx Mo (c.v:Int)):=by rw[au J.out.1];rfl
       have a1:i.cell? ⟨ab,1,KK⟩=IT (Kx MJ (c.k:Int)):=by rw[au J.out.1];rfl
       have a2:i.cell? ⟨ab,2,KK⟩=IT (.slice (IT ⟨g,0,KK⟩) c.n.length m):=by rw[au J.out.1];rfl
       obtain⟨⟨b,nb,al⟩,u,jj,jM⟩|⟨jM,ke⟩:=Zm H.out y
       .have Et:=ae jM;have bd:=ae (show(b,nb,al)∈cs/\b.v=y from⟨u,jj⟩);clear u jj jM hy;have D:Lk (Lg i i (i.alloc (Mi #[Kx Mo (b.v:Int),Kx MJ (b.k:Int),.slice nb b.n.length al] 143))):=ae aj;have tR:Lk (lC (i.alloc (Mi #[Kx Mo (b.v:Int),Kx MJ (b.k:Int),.slice nb b.n.length al] 143)) l S'/\(i.alloc (Mi #[Kx Mo (b.v:Int),Kx MJ (b.k:Int),.slice nb b.n.length al] 143)).heap[L]? = IT (Mi #[.map (IT l)] 205)):=ae ⟨F.out.1.kept (D.out.block _ F.out.1.lt),(D.out.block _ (ds.1 F.out.2).1).trans F.out.2⟩;have e0:=EI D.out a0;have e1:=EI D.out a1;have e2:=EI D.out a2;have ld:=ae (Zg (y:=b) tR.out.2 tR.out.1 (Nm Z.out) c (H.out.v32 _ kd.out.1) (H.out.v32 _ bd.out.1) (xa:=IT ⟨g,0,KK⟩) (xn:=c.n.length) (xc:=m) (ya:=nb) (yn:=b.n.length) (yc:=al));go_wp2_with (at_lookup;refine cy _ rfl _ _ _ _ rfl 143 cF dP Tryz.underlying203 (HZ.out _) w.heap.size _ rfl P.out.map y rfl li.out ?_;unfold tH;rw[Et.out];simp only[Option.map_some,Option.getD_some,Option.isSome_some]);go_call ld.out as e w9⟨S9,rfl,hs9,hz9,ht9,hc9⟩;have VB:∀x,x<i.heap.size->x≠l->w9.heap[x]? = i.heap[x]? := λx C mm=>by exact(ht9.block x (Nm D.out.size) mm).trans (D.out.block _ C)
        have UY:Lk (cL prog 33 jf kM w9 w.heap.size ib (iE cs) rs):=ae (P.out.kept (VB _ P.out.map.lt (Nm Z.out)) (VB _ P.out.lt (Nm Z.out)));have Zq:Lk (Lg w w w9):=ae (by have h0:aN (λx=>w.heap.size<=x) w w9:=((aN.aZ vI.out).alloc _).trans ht9 (λx _ e=>Nm Z.out);exact h0.below (cg _) (λ_ h=>h))
        have qV:=ae (show _/\_ from⟨hs9,hc9⟩);have gx:Lk (w9.heap[ab]? = IT (Mi #[Kx Mo (c.v:Int),Kx MJ (c.k:Int),.slice (IT ⟨g,0,KK⟩) c.n.length m] 143)/\ab≠l):=ae ⟨(VB _ (ds.1 J.out.1).1 J.out.2).trans J.out.1,J.out.2⟩;have fm:Lk (∀z,z∈S9↔z∈S\/∃y∈c.n.take (k+1),∃b∈cs,b.1.v=y/\Kz c b.1 z):=ae (λz=>by rw[hz9 z,Y.out z,zJ HY.out];refine or_congr Iff.rfl ⟨λh=>⟨_,bd.out.1,bd.out.2,h⟩,?_⟩;rintro⟨b',eS,hv,hm⟩;rw[Fb H.out eS bd.out.1 (hv.trans bd.out.2.symm)]at hm;exact hm)
        clear hs9 hz9 ht9 hc9 VB P vI F J Y ld tR D a0 a1 a2 e0 e1 e2 q0;go_wp2;go_roundw
        case rel=>exact⟨k+1,S9,by go_num,af,UY,Zq,qV,gx,fm⟩
        case measure=>simp[Lo];omega
       .have Et:=ae jM;have fm:Lk (∀z,z∈S'↔z∈S\/∃y∈c.n.take (k+1),∃b∈cs,b.1.v=y/\Kz c b.1 z):=ae (λz=>by rw[Y.out z,zJ HY.out];refine⟨.inl,λh=>h.elim id ?_⟩;rintro⟨b',eS,hv,-⟩;exact absurd hv (ke _ eS))
        clear jM ke hy;have D:Lk (Lg i i (i.alloc (Mi #[Kx Mo 0,Kx MJ 0,.slice KK 0 0] 143))):=ae aj;have qV:Lk (lC (i.alloc (Mi #[Kx Mo 0,Kx MJ 0,.slice KK 0 0] 143)) l S'/\(i.alloc (Mi #[Kx Mo 0,Kx MJ 0,.slice KK 0 0] 143)).heap[L]? = IT (Mi #[.map (IT l)] 205)):=ae ⟨F.out.1.kept (D.out.block _ F.out.1.lt),(D.out.block _ (ds.1 F.out.2).1).trans F.out.2⟩;have UY:Lk (cL prog 33 jf kM (i.alloc (Mi #[Kx Mo 0,Kx MJ 0,.slice KK 0 0] 143)) w.heap.size ib (iE cs) rs):=ae (P.out.kept (D.out.block _ P.out.map.lt) (D.out.block _ P.out.lt));have Zq:Lk (Lg w w (i.alloc (Mi #[Kx Mo 0,Kx MJ 0,.slice KK 0 0] 143))):=ae (vI.out.trans (D.out.mono vI.out.size));have gx:Lk ((i.alloc (Mi #[Kx Mo 0,Kx MJ 0,.slice KK 0 0] 143)).heap[ab]? = IT (Mi #[Kx Mo (c.v:Int),Kx MJ (c.k:Int),.slice (IT ⟨g,0,KK⟩) c.n.length m] 143)/\ab≠l):=ae ⟨(D.out.block _ (ds.1 J.out.1).1).trans J.out.1,J.out.2⟩;clear Y D a0 a1 a2;go_wp2_with (at_lookup;refine cy _ rfl _ _ _ _ rfl 143 cF dP Tryz.underlying203 (HZ.out _) w.heap.size _ rfl P.out.map y rfl li.out ?_;unfold tH;rw[Et.out];simp only[Option.map_none,Option.getD_none,H5]);go_roundw
        case rel=>exact⟨k+1,S',by go_num,af,UY,Zq,qV,gx,fm⟩
        case measure=>simp[Lo];omega
      .have CX:¬(k:Int)<c.n.length:=af;have mw:Lk (((n++[(I,(c,s,m))])++rs).Perm (iE cs)):=ae (by refine List.Perm.trans ?_ HP.out;rw[o0];exact(List.Perm.append_left n (by simpa using QZ.out.symm)))
       have me:Lk (∀z,z∈S' ↔ ∃q∈n++[(I,(c,s,m))],∃b∈cs,b.1.v∈q.2.1.n/\Kz q.2.1 b.1 z):=ae (λz=>by
        rw[Y.out z,en.out z,ey af];constructor
        .rintro(⟨q,G,r⟩|⟨y,hy,b,hb,rfl,hm⟩)
         .exact⟨q,hS.2 (.inl G),r⟩
         .exact⟨(I,(c,s,m)),hS.2 (.inr ai),b,hb,hy,hm⟩
        .rintro⟨q,G,b,hb,N,h2⟩;rcases hS.1 G with G | G
         .exact .inl ⟨q,G,b,hb,N,h2⟩
         .rw[kj]at G;subst G;exact .inr ⟨_,N,b,hb,rfl,h2⟩)
       have VQ:Lk (i.rangeLeft w.heap.size ib<W5.rangeLeft w.heap.size ib):=ae (by have:=du.out;rw[P.out.left];omega);clear Y J;go_wp2;go_roundw
       case rel=>exact⟨_,rs,S',P,vI,F,mw,me⟩
       case measure=>exact VQ.out
end
open Go.ChangeMaps (setBlock)
abbrev ir(w:KX)(b:Nat)(S:List Nat):Prop:=cj prog 33 jf (λ_:Unit=>ID Jd) w b (S.map λx=>(x,()))
theorem UZ:(prog.info? 143).map (λi=>(i.zero,i.size,i.bytes))=IT (IT (.agg #[Kx Mo 0,Kx MJ 0,.slice KK 0 0]),3,40):=ah
section
variable {w:KX}{rest:List Oper}{e:Oper}{a:Act}
theorem kB(d:e.guard=KK)(s x:Operand)(m:e.op=.call { callee:=.builtin .append,args:=#[s,x],argTypes:=#[135,135] })(base:Nat)(v:J3)(l:List gQ)(n:a.eval s=v)(b:eA w base v l)(y:gQ)(c:Nat)(i:a.eval x=.slice w.heap.size 1 c)(p:l.length<=100000)(f:base<=w.heap.size)(k:∀v' w',eA w' base v' (l++[y])->gP v (w.alloc (Mi #[Kx Mo y.1.v,Kx MJ y.1.k,.slice y.2.1 y.1.n.length y.2.2] 143)) w' v'->wpList prog ops Q rest (a.put e.dst v') w') :
 wpList prog ops Q (e::rest) a (w.alloc (Mi #[Kx Mo y.1.v,Kx MJ y.1.k,.slice y.2.1 y.1.n.length y.2.2] 143)):=by
 refine ct d s x 135 m base 143 _ 3 40 Tryz.underlying135 UZ rfl ag v l.length (kf l) n (World.ownsRow.alloc b _) ⟨w.heap.size,0,KK⟩ 1 c [Kx Mo y.1.v,Kx MJ y.1.k,pA y] i rfl (λj u o=>?_) (by simp[qn]) (by grind [maxLen]) af (by simp;omega) (λv' w' g h=>k v' w' ?_ h)
 .rw[br,j0];simp_all
 .unfold eA;rw[E9,eh];exact g
end
section
variable {w0 w W:KX}{pb db n gb gen N ob ib vb rb:Nat}{o o':ay}{d d':Dsk}{L:aL}{es:List aJ}{vs:List bZ}{lv B:J3}{cs:List gQ}
structure Bg(n pb db:Nat)(w:KX)(o:ay)(d:Dsk)(L:aL)(lv:J3)(cs:List gQ)(W:KX)(o':ay)(d':Dsk):Prop where
 mv:Moved (λ_=>False) n pb db w o d W o' d' L
 row:eA W w.heap.size lv cs
 own:∀b,lv.ownBlock=IT b->o' b=KK
 jE:∀p∈cs,aT W w.heap.size (pA p) p.1.n/\∀b,(pA p).ownBlock=IT b->o' b=KK
theorem Bg.below(h:Bg n pb db w o d L lv cs W o' d')(a:Lg W W j):Bg n pb db w o d L lv cs j o' d':=
 ⟨h.mv.below a,aB h.row a,h.own,λp b=>⟨aB (h.jE p b).1 a,(h.jE p b).2⟩⟩
theorem Bg.moved(h:Bg n pb db w o d L lv cs W o' d')(c:Moved (λ_=>False) n pb db W o' d' j z A L):Bg n pb db w o d L lv cs j z A:=
 ⟨h.mv.trans c (λ_ _ e=>e),c.ownsRow h.row (λb a=>⟨h.own b a,λe=>e⟩),λb a=>c.free (aA h.row b a).1 (h.own b a),
  λp f=>⟨c.ownsRow (h.jE p f).1 (λb a=>⟨(h.jE p f).2 b a,λe=>e⟩),λb a=>c.free (aA (h.jE p f).1 b a).1 ((h.jE p f).2 b a)⟩⟩
theorem Bg.CG(h:Bg n pb db w o d L lv cs W o' d'){y:gQ}{m:Obj}(l:eA j w.heap.size B (cs++[y]))(q:gP lv (W.alloc m) j B)(u:aT W w.heap.size (pA y) y.1.n)(g:∀b,(pA y).ownBlock=IT b->o' b=KK):Bg n pb db w o d L B (cs++[y]) j o' d':=by
 obtain⟨r,k,i,s⟩:=q.moved h.mv (λx f=>⟨h.own x f,(aA h.row x f).2⟩);have t:∀p:gQ,aT W w.heap.size (pA p) p.1.n->aT j w.heap.size (pA p) p.1.n:=λp c=>bg c (λb a=>i b (aA c b a).1 (λe=>cr c h.row ag b a e))
 refine⟨r,l,λb a=>(k b a).1,λp c=>?_⟩;grind [jE]
theorem C6{vs:List bZ}{k:Nat}:∀c∈(vs.zipIdx k).filterMap (λp=>if p.1.r=4294967295 then IT (nL es p.2 p.1) else KK),k<=c.v/\c.v<k+vs.length:=by grind [nL]
theorem Fc(vs:List bZ):∀k,(((vs.zipIdx k).filterMap (λp=>if p.1.r=4294967295 then IT (nL es p.2 p.1) else KK)).map (·.v)).Pairwise (· < ·):=by
 induction vs with
 |nil=>simp
 |cons x vs d=>
   intro k;rw[tx,List.filterMap_cons];split
   .grind
   .rename_i c a
    rw[oj,FC];refine⟨λy e=>?_,d (k+1)⟩;obtain⟨z,b,rfl⟩:=gl.1 e;have f:=(C6 z b).1;simp only at a;split at a
    .cases a;assumption
    grind
theorem KD{v:Nat}(h:∀x∈es,x.t.toNat<N/\x.h.toNat<N):∀y∈dD es v,y<N:=by
 have d:∀(l a:List Nat)(y:Nat),y∈l.foldl jx a->y∈a\/y∈l:=by
  intro l;induction l with
  |nil=>simp
  |cons x l g=>grind [UN]
 intro y e;rw[zI]at e;rcases d _ _ y e with b | b
 .rcases d _ _ y b with c | c
  .cases c
  .obtain⟨x,f,rfl⟩:=gl.1 c;grind [EP]
 .obtain⟨x,f,rfl⟩:=gl.1 b;grind [SC]
noncomputable def fX(es:List aJ)(vs:List bZ)(j:Nat):List sO:=dy es (vs.take j)
theorem uG(es:List aJ)(vs:List bZ){j:Nat}(h:vs.length<=j):fX es vs j=dy es vs:=by grind [fX,ey]
theorem sX(es:List aJ)(vs:List bZ){j:Nat}{x:bZ}(h:vs[j]? = IT x):fX es vs (j+1)=fX es vs j++if x.r=4294967295 then [nL es j x] else []:=by grind [fX,dy,fh]
theorem Fe(es:List aJ)(vs:List bZ)(j:Nat):(fX es vs j).length<=(dy es vs).length:=by grind [fX,dy,Do]
theorem Bg.pick(h:Bg n pb db w o d L lv cs W o' d')(f:cs.map (·.1)=dy es vs)(g:∀x∈es,x.t.toNat<vs.length/\x.h.toNat<vs.length)(k:vs.length<=1000)(j:(dy es vs).length<=24):qU W w.heap.size lv cs:=by
 have c:∀p∈cs,p.1∈dy es vs:=λp a=>M2
 refine⟨h.row,λp a=>⟨aQ (h.jE p a).1 (em _),λy e=>?_⟩,λp a=>?_,?_,?_⟩
 .obtain⟨⟨x,i⟩,-,b⟩:=List.mem_filterMap.1 (c p a);split at b
  .have b:=Option.some.inj b;rw[<- b]at e;have:=KD g y e;omega
  grind
 .have:=(C6 _ (c p a)).2;omega
 .have:=Fc (es:=es) vs 0;rw[show cs.map (·.1.v)=(cs.map (·.1)).map (·.v) by simp,f];exact this
 grind
end
theorem iN{b:Bool}{l:List aJ}{e:aJ}:e∈aH b l↔e∈l/\e.t≠e.h/\∀x∈l,same x e->rk e<=rk x:=by have h:=bM b l;refine⟨h.mem e,λ⟨d,j,g⟩=>?_⟩;obtain⟨y,f,a⟩:=h.all e d j;obtain⟨k,-,i⟩:=h.mem y f;have c:=WK (Nat.le_antisymm (i e d a.symm) (g y k a));rw[<- aJ.ext' a.1 a.2 c.1 c.2];exact f
theorem oB(b a:Bool)(l:List aJ):aH b (aH a l)=aH b l:=((bM a l).trans (bM b _)).unique (bM b l)
theorem Zs(l:List Nat):∀(b:List Nat)(y:Nat),y∈l.foldl (λa x=>if x∈a then a else a++[x]) b↔y∈b\/y∈l:=by
 induction l with
 |nil=>simp
 |cons x l c=>grind
theorem vz{es:List aJ}{v:Nat}{x:aJ}:x∈aY es v↔x∈aH J0 es/\x.t.toNat=v:=by grind [aY,eJ,fY]
theorem Bh{es:List aJ}{v:Nat}{x:aJ}:x∈eD es v↔x∈aH J0 es/\x.h.toNat=v:=by grind [eD,eJ,fY,iN]
theorem uH{es:List aJ}{v w:Nat}:w∈dD es v ↔ ∃x∈aH J0 es,x.t.toNat=v/\x.h.toNat=w\/x.h.toNat=v/\x.t.toNat=w:=by grind [dD,YU,Zs,vz,Bh]
theorem IP{es:List aJ}{v:Nat}:v ∉ dD es v:=λh=>by grind [uH,iN,Cx]
theorem Ob:∀c:List sO,c≠[]->∃a∈c,∀b∈c,¬dh b a:=by
 intro c;induction c with
 |nil=>simp
 |cons x c f=>
   intro _;by_cases e:c=[]
   .subst e;exact⟨x,ai,λb d=>by grind [dh]⟩
   grind [dh]
theorem Ff{a:List sO}{v:Nat}:v∈jc a↔(∃c∈a,c.v=v)/\¬Cb a v:=by grind [jc]
theorem acC{c:List sO}(k:∀a∈c,∀b∈c,a.v=b.v->a=b)(h:c≠[]):jc c≠[]:=by
 obtain⟨a,g,i⟩:=Ob c h;have:a.v∈jc c:=by
  rw[Ff];refine⟨⟨a,g,rfl⟩,?_⟩;rintro⟨x,j,y,l,-,d,⟨e,f⟩|⟨e,f⟩⟩
  .grind
  grind [dh]
 grind
theorem Q5{d:List sO}{a b:sO}(g:a∈d)(j:b∈d)(e:a.v∈jc d)(f:b.v∈jc d)(c:a.v≠b.v):b.v ∉ a.n:=λi=>by
 rw[Ff]at e f;by_cases h:dh a b
 .exact f.2 ⟨a,g,b,j,i,c,.inl ⟨h,rfl⟩⟩
 .exact e.2 ⟨a,g,b,j,i,c,.inr ⟨h,rfl⟩⟩
theorem uI{es:List aJ}{vs:List bZ}{c:sO}:c∈dy es vs ↔ ∃(i:Nat)(x:bZ),vs[i]? = IT x/\x.r=4294967295/\c=nL es i x:=by
 unfold dy;rw[List.mem_filterMap];constructor
 .grind
 .rintro⟨i,x,a,b,rfl⟩;exact⟨(x,i),M2,M2⟩
theorem Zt{es:List aJ}{vs:List bZ}:∀a∈dy es vs,∀b∈dy es vs,a.v=b.v->a=b:=by intro a d b c e;obtain⟨i,x,g,-,rfl⟩:=uI.1 d;obtain⟨j,y,f,-,rfl⟩:=uI.1 c;have e:i=j:=e;grind
theorem mV{es:List aJ}{vs:List bZ}{v:Nat}(h:v∈aP es vs):∃x,vs[v]? = IT x/\x.r=4294967295/\nL es v x∈dy es vs:=by obtain⟨⟨c,a,rfl⟩,-⟩:=Ff.1 h;obtain⟨i,x,d,b,rfl⟩:=uI.1 a;exact⟨x,d,b,a⟩
theorem kN{es:List aJ}{vs:List bZ}{v:Nat}(h:v∈aP es vs):v<vs.length:=by grind [mV]
theorem sY{es:List aJ}{vs:List bZ}{v w:Nat}(b:v∈aP es vs)(a:w∈aP es vs):w ∉ dD es v:=by
 by_cases e:v=w
 .grind [IP]
 .obtain⟨x,-,-,c⟩:=mV b;obtain⟨y,-,-,d⟩:=mV a;exact Q5 c d b a e
theorem jy(es:List aJ)(vs:List bZ):(aP es vs).Pairwise (· < ·):=by
 have f:∀(vs:List bZ)(k:Nat),(((vs.zipIdx k).filterMap λp=>if p.1.r=4294967295 then IT (nL es p.2 p.1) else KK).map (·.v)).Pairwise (· < ·)/\∀v∈((vs.zipIdx k).filterMap λp=>if p.1.r=4294967295 then IT (nL es p.2 p.1) else KK).map (·.v),k<=v:=by
  intro vs;induction vs with
  |nil=>simp
  |cons x vs e=>
    intro k;obtain⟨b,c⟩:=e (k+1);rw[tx,List.filterMap_cons];by_cases d:x.r=4294967295
    .simp only[d,if_true,oj,FC,List.mem_cons];refine⟨⟨λy a=>?_,b⟩,?_⟩
     .have:=c y a;assumption
     .rintro y (rfl | a)
      .simp
      grind
    grind
 grind [aP,jc,dy]
theorem U0{es:List aJ}{vs:List bZ}{i:Nat}{x:bZ}(h:vs[i]? = IT x)(a:x.r=4294967295):aP es vs≠[]:=
 acC Zt (λe=>by have:=(uI (es:=es)).2 ⟨i,x,h,a,rfl⟩;grind)
theorem KE(lv:UInt32)(vs:List bZ)(w:Nat):(eX lv vs w).length=vs.length:=by grind [eX]
theorem Bi(lv:UInt32)(vs:List bZ)(w u:Nat):(eX lv vs w)[u]? = if w=u then (vs[u]?).map (λx=>⟨x.r,if x.l<lv then lv else x.l,x.g+1⟩) else vs[u]? := by grind [eX]
theorem sZ(lv:UInt32)(l:List Nat):∀vs:List bZ,(l.foldl (eX lv) vs).length=vs.length:=by
 induction l with
 |nil=>simp
 |cons w l a=>grind [KE]
theorem acD(lv:UInt32)(l:List Nat)(u:Nat):∀vs:List bZ,((l.foldl (eX lv) vs)[u]?).map (·.r)=(vs[u]?).map (·.r):=by
 induction l with
 |nil=>simp
 |cons w l a=>grind [Bi]
theorem Cf(lv:UInt32)(l:List Nat)(u:Nat)(h:u ∉ l):∀vs:List bZ,(l.foldl (eX lv) vs)[u]? = vs[u]? := by
 induction l with
 |nil=>simp
 |cons w l a=>grind [Bi]
section
variable {es:List aJ}{was vs:List bZ}{done gen i v u:Nat}
theorem Oc:(gq es was done gen vs i v).length=vs.length:=by grind [gq,sZ]
theorem ag6(h:u≠v):((gq es was done gen vs i v)[u]?).map (·.r)=(vs[u]?).map (·.r):=by grind [gq,acD]
theorem Fg(h:u≠v)(a:u ∉ dD es v):(gq es was done gen vs i v)[u]? = vs[u]? := by grind [gq,Cf]
theorem Zu:(gq es was done gen vs i v)[v]? = (vs[v]?).map λx=>⟨h9 (done+i),h9 (gen+1),x.g⟩:=by grind [gq,Cf,IP]
theorem zK(ch:List Nat):∀(k:Nat)(vs:List bZ),((ch.zipIdx k).foldl (λvs p=>gq es was done gen vs p.2 p.1) vs).length=vs.length:=by
 induction ch with
 |nil=>simp
 |cons v ch a=>grind [tx,Oc]
theorem acE{ch:List Nat}(h:u ∉ ch):∀(k:Nat)(vs:List bZ),(((ch.zipIdx k).foldl (λvs p=>gq es was done gen vs p.2 p.1) vs)[u]?).map (·.r)=(vs[u]?).map (·.r):=by
 induction ch with
 |nil=>simp
 |cons v ch a=>grind [tx,ag6]
theorem Od{ch:List Nat}(h:u ∉ ch)(a:∀v∈ch,u ∉ dD es v):∀(k:Nat)(vs:List bZ),((ch.zipIdx k).foldl (λvs p=>gq es was done gen vs p.2 p.1) vs)[u]? = vs[u]? := by
 induction ch with
 |nil=>simp
 |cons v ch b=>grind [tx,Fg]
theorem U2{ch:List Nat}(b:ch.Pairwise (· < ·))(a:∀v∈ch,u ∉ dD es v):∀(k:Nat)(vs:List bZ),ch[i]? = IT u->((ch.zipIdx k).foldl (λvs p=>gq es was done gen vs p.2 p.1) vs)[u]? = (vs[u]?).map λx=>⟨h9 (done+(k+i)),h9 (gen+1),x.g⟩:=by
 induction ch generalizing i with
 |nil=>simp
 |cons v ch d=>
   intro k vs h;rw[FC]at b;rw[tx,List.foldl_cons];cases i with
   |zero=>cases h;rw[Od (λe=>M2) (λx c=>a x M2),Zu];rfl
   |succ i=>rw[List.getElem?_cons_succ]at h;rw[d b.2 (λx c=>a x M2) (k+1) _ h,Fg (λe=>Nm (b.1 _ (cx h))) (a v ai),show k+1+i=k+(i+1) by omega]
end
section
variable {es:List aJ}{was:List bZ}{done gen i u:Nat}
theorem zL(ch:List Nat):(dE es was done gen ch).length=was.length:=zK ch 0 was
theorem C7{ch:List Nat}(h:u ∉ ch):((dE es was done gen ch)[u]?).map (·.r)=(was[u]?).map (·.r):=acE h 0 was
theorem IQ(h:(aP es was)[i]? = IT u):(dE es was done gen (aP es was))[u]? = (was[u]?).map λx=>⟨h9 (done+i),h9 (gen+1),x.g⟩:=by have:=U2 (es:=es) (was:=was) (done:=done) (gen:=gen) (i:=i) (u:=u) (jy es was) (λv a=>sY a (cx h)) 0 was h;rw[j0]at this;exact this
end
def ny(vs:List bZ)(i:Nat):Bool:=match vs[i]? with
 |some x=>x.r != 4294967295
 |none=>J0
structure rQ(N:Nat)(es:List aJ)(vs:List bZ)(done:Nat):Prop where
 len:vs.length=N
 top:N<=1000
 ends:∀x∈es,∃a b,vs[x.t.toNat]? = IT a/\vs[x.h.toNat]? = IT b/\a.r=4294967295/\b.r=4294967295
 low:∀(i:Nat)(x:bZ),vs[i]? = IT x->x.r≠4294967295->x.r.toNat<done
 one:∀(i j:Nat)(x y:bZ),vs[i]? = IT x->vs[j]? = IT y->x.r≠4294967295->x.r=y.r->i=j
 count:((kk N).filter (ny vs)).length=done
theorem Cg{l:List Nat}{p q r:Nat->Bool}(d:∀x∈l,r x=(p x || q x))(b:∀x∈l,p x=Jd->q x=Jd->False):(l.filter r).length=(l.filter p).length+(l.filter q).length:=by
 induction l with
 |nil=>rfl
 |cons a l c=>grind
theorem Q6{ch:List Nat}{N:Nat}(a:ch.Pairwise (· < ·))(b:∀v∈ch,v<N):(kk N).filter (λv=>decide (v∈ch))=ch:=
 DI (f:=id) (List.pairwise_lt_range.filter _) a (λx=>M2)
section
variable {N done gen:Nat}{es:List aJ}{vs:List bZ}
theorem rQ.vA(h:rQ N es vs done):done<=N:=by have:=kq (ny vs) (kk N);grind [count]
theorem Oe{es:List aJ}{ch:List Nat}{x:aJ}:x∈fe es ch↔x∈aH J0 es/\x.t.toNat ∉ ch/\x.h.toNat ∉ ch:=by grind [fe]
theorem acF{E:Nat->List aJ}{A:Nat->Bool}{c:List aJ}{v:UInt32}{y:aJ}(h:y∈ju E A c v):∃a∈c,∃b∈E v.toNat,y=⟨a.t,b.h,nM (a.x.toNat+b.x.toNat),v⟩/\a.t≠b.h/\A a.t.toNat=J0/\A b.h.toNat=J0/\a.x.toNat+b.x.toNat<9223372036854775808/\∀x∈E a.t.toNat,x.h.toNat=b.h.toNat->a.x.toNat+b.x.toNat<x.x.toNat:=by grind [ju,ky]
theorem Og{ch:List Nat}{x:aJ}(h:x∈gB es ch):x.t.toNat ∉ ch/\x.h.toNat ∉ ch/\(∃y∈aH J0 es,y.t=x.t)/\∃y∈aH J0 es,y.h=x.h:=by grind [gB,Oe,eK,acF,Bh,vz]
theorem mA{i:Nat}:ny vs i=Jd ↔ ∃x,vs[i]? = IT x/\x.r≠4294967295:=by grind [ny]
theorem rQ.next(h:rQ N es vs done)(K:done+(aP es vs).length<=1000):rQ N (aH J0 (gB es (aP es vs))) (dE es vs done gen (aP es vs)) (done+(aP es vs).length):=by
 have g:∀u,u ∉ aP es vs->∀y,(dE es vs done gen (aP es vs))[u]? = IT y->∃x,vs[u]? = IT x/\x.r=y.r:=λu A y d=>by grind [C7]
 have o:∀u,u∈aP es vs->∀y,(dE es vs done gen (aP es vs))[u]? = IT y->∃i,(aP es vs)[i]? = IT u/\y.r=h9 (done+i)/\i<(aP es vs).length:=λu A y d=>by
  obtain⟨i,hi,e⟩:=p6 A;have G:(aP es vs)[i]? = IT u:=M2;grind [IQ]
 have J:∀i,i<(aP es vs).length->(h9 (done+i)).toNat=done+i:=λi hi=>by grind [n9]
 refine⟨by rw[zL,h.len],h.top,λx c=>?_,λi y d E=>?_,λi j x y hi s E e=>?_,?_⟩
 .obtain⟨B,t,⟨y,d,I⟩,⟨z,f,H⟩⟩:=Og (iN.1 c).1;grind [ends,iN,C7]
 .by_cases a:i∈aP es vs
  .grind
  .obtain⟨x,c,e⟩:=g i a y d;have:=h.low i x c M2;grind
 .by_cases a:i∈aP es vs<;>by_cases b:j∈aP es vs
  .grind
  .obtain⟨k,w,F,m⟩:=o i a x hi;obtain⟨z,f,C⟩:=g j b y s;have:=h.low j z f M2;grind
  .obtain⟨k,w,F,m⟩:=o j b y s;obtain⟨z,f,C⟩:=g i a x hi;have:=h.low i z f M2;grind
  grind [one]
 .have n:=Cg (l:=kk N) (p:=ny vs) (q:=λv=>decide (v∈aP es vs)) (r:=ny (dE es vs done gen (aP es vs))) (λi hi=>?_) (λi hi B t=>?_)
  .rw[n,h.count,Q6 (jy es vs) (λv D=>by rw[<- h.len];exact kN D)]
  .by_cases a:i∈aP es vs
   .obtain⟨k,w,e⟩:=p6 a;have m:(aP es vs)[k]? = IT i:=M2;have:=IQ (done:=done) (gen:=gen) m;obtain⟨x,c,-⟩:=mV a;rw[c]at this;have t:ny (dE es vs done gen (aP es vs)) i=true:=by rw[mA];refine⟨_,this,λe=>?_⟩;have e:h9 (done+k)=4294967295:=e;have:=congrArg UInt32.toNat e;grind
    grind
   grind [mA,C7]
  grind [mA,mV]
end
open Go.ChangeMaps (setBlock)
section
variable {w0 w W:KX}{pb db n gb gen N ob ib vb rb done base:Nat}{o o':ay}{d d':Dsk}{L:aL}{es:List aJ}{vs:List bZ}{lv B q x5:J3}{cs:List gQ}
def x9(n a db:Nat)(w:KX)(o:ay)(d:Dsk)(L:aL)(c g gen done:Nat)(f:J3)(ch:List Nat)(e:Lp)(w':KX):Prop:=
 ∃mb ov S d' o',e=Mk (Kx Mm 0)/\Moved (·=c) n a db w o d w' o' d' L/\dV w' c a g gen done (.map (IT mb)) ov f/\aT w' w.heap.size ov ch/\(∀b,ov.ownBlock=IT b->o' b=KK)/\ir w' mb S/\w.heap.size<=mb/\o' mb=KK/\∀z,z∈S↔z∈ch
theorem eY{w:KX}{base g cap i:Nat}{l:List bZ}{x:bZ}(h:dr w base (.slice g l.length cap) l)(hi:l[i]? = IT x) :
 w.cell? ⟨g,i*3,KK⟩=x.r/\w.cell? ⟨g,i*3+1,KK⟩=x.l/\w.cell? ⟨g,i*3+2,KK⟩=x.g:=by
 have a:∀(j:Nat)(u:J3),(cz l)[j]? = IT u->w.cell? ⟨g,j,KK⟩=IT u:=λj u b=>by have:=World.ownsRow.cells h (g:=g) rfl j u b;grind [br]
 refine⟨a _ _ ?_,a _ _ ?_,a _ _ ?_⟩
 .have:=kx hi (j:=0) ag;grind
 .rw[kx hi ag];rfl
 .rw[kx hi ag];rfl
theorem SH(i o s:Nat)(x:bZ):Qr (i:Int) (o:Int) (s:Int) (x.l.toNat:Int) (x.g.toNat:Int)=(Qy i o s x:Int):=by grind [Qy,Qr]
theorem CK(HW:aV)(h:iM w0 w pb db n o d L gb gen vs.length ob ib vb es)(hr:dV w rb pb gb gen done r x5 q)(ci:uE w0 w o rb gb ob ib vb)(al:dr w base q vs)(pD:∀b,q.ownBlock=IT b->o b=KK)(sU:∀v,v<vs.length->(eD es v).length*(aY es v).length<=100000)(X:(dy es vs).length<=24):K1 prog 24 #[ptrTo rb] w (x9 n pb db w o d L rb gb gen done q (aP es vs)):=by
 obtain⟨va,vk,rfl⟩:=aw al;have H:=ae h;have HR:=ae hr;have FN:=ae ci;have dl:=ae al;have Ay:=ae pD;have HD:=ae sU;have Z:=ae X;have tX:∀(t:TypeId)(W:KX),(Instr.makeMap t KK).run prog W=.ok (.map (IT W.heap.size)) (W.alloc (.map #[] 0)):=λ_ _=>rfl;obtain⟨R,hR⟩:=ac (x9 n pb db w o d L rb gb gen done (.slice va vs.length vk) (aP es vs));have Zc:=ae hR;rw[<- hR];obtain⟨M,hM⟩:=ac vs.length;have HM:Lk (M=vs.length/\M<=1000):=ae ⟨hM,by rw[hM];exact h.top⟩;have FT:Lk (Bg n pb db w o d L (.slice KK 0 0) [] w o d):=ae ⟨Moved.refl _ h.held.bh,gp _ _ _ _,(λb e=>by cases e),λp hp=>by cases hp⟩;obtain⟨c0,c1,c2,c3,c4,c5,c6,f6⟩:=hr.cells;have FH:=hr.lt;rw[<- hM]at c6;clear h hr ci al pD sU X hR hM c0 c2 c3 c4 c5;unfold ptrTo at *;go_enter func24,ntmps24;go_wp2_with fail;clear c1 c6 f6;go_loopw [3,18] (λlv vi wr=>∃(j:Nat)(cs:List gQ)(o':ay)(d':Dsk),vi=j/\j<=M/\Lk (cs.map (·.1)=fX es vs j)/\Lk (Bg n pb db w o d L lv cs wr o' d')) (λ_ vi _=>M-(Lo vi).toNat)
 case atStart=>exact⟨0,[],o,d,rfl,em _,ae rfl,FT⟩
 case round=>
  generalize u3=lv at *;obtain⟨j,cs,s,F,rfl,hj,J,C⟩:=hrel;clear FT;generalize wr=Y at *;by_cases io:j<M
  .have CV:(j:Int)<M:=af;have wj:cf Mm ((j:Int)+1)=(j+1:Nat):=by grind [Hid.out,ax]
   have wu:cf Mo (j:Int)=j:=by grind [Hid.out,cM]
   obtain⟨x,hx⟩:∃x,vs[j]? = IT x:=⟨_,bk Xy⟩;have HX:=ae hx;obtain⟨g,rfl⟩:∃g,va=IT ⟨g,0,KK⟩:=by
    obtain⟨-,⟨h1,h2⟩|⟨g,_,_,h1,_⟩⟩:=dl.out
    .grind
    grind
   have T:dr Y base (.slice (IT ⟨g,0,KK⟩) vs.length vk) vs:=C.out.mv.ownsRow dl.out (λb u=>⟨Ay.out b u,λe=>e⟩);obtain⟨q0,q1,q2⟩:=eY T hx;clear T hx;have fP:=ae (C.out.below (aq.alloc (cg _) (Mi #[Kx Mo (x.r.toNat:Int),Kx Mo (x.l.toNat:Int),Kx Mo (x.g.toNat:Int)] 110)));by_cases ce:(x.r.toNat:Int)=4294967295
   .have fI:((x.r.toNat:Int) == 4294967295)=true:=M2;have HK:=ae (show x.r=4294967295 from Cx.1 M2);clear ce;obtain⟨V,hV⟩:=ac (h9 j);have el:V.toNat=j:=by grind [n9,Hid.out]
    have HV:=ae (show V=h9 j/\V.toNat=j from⟨hV,el⟩);have Q:Lk (dV (Y.alloc (Mi #[Kx Mo (x.r.toNat:Int),Kx Mo (x.l.toNat:Int),Kx Mo (x.g.toNat:Int)] 110)) rb pb gb gen done r x5 (.slice (IT ⟨g,0,KK⟩) vs.length vk)):=ae (HR.out.moved FN.out.free fP.out.mv);have cA:Lk ((Y.alloc (Mi #[Kx Mo (x.r.toNat:Int),Kx Mo (x.l.toNat:Int),Kx Mo (x.g.toNat:Int)] 110)).heap[Y.heap.size]? = IT (Mi #[Kx Mo (x.r.toNat:Int),Kx Mo (x.l.toNat:Int),Kx Mo (x.g.toNat:Int)] 110)/\s Y.heap.size=KK):=ae ⟨Lw _ _,C.out.mv.bh.fresh (cg _)⟩;have Lb:Lk (s rb=KK):=ae (C.out.mv.free FN.out.lt FN.out.free);clear hV C;go_wp2_with fail;obtain⟨xb,FW⟩:=ac Y.heap.size;rw[<- FW]at cA;rw[<- FW];generalize Y.alloc (Mi #[Kx Mo (x.r.toNat:Int),Kx Mo (x.l.toNat:Int),Kx Mo (x.g.toNat:Int)] 110)=W2 at *;clear FW q0 q1 q2;have HC:Lk (∀P,(∃o' d',Moved (λ_=>False) n pb db W2 s F P o' d' L)->K1 prog 57 #[zG gb,Kt gb,Kx Mo j] P λe de=>e=Mk (Ly #[(eD es j).length,(aY es j).length,Kx Mm ((ju (aY es) (λ_=>J0) (eD es j) V).length:Int),Kx Mm 0])/\∃o' d',Moved (λ_=>False) n pb db W2 s F de o' d' L):=ae (by rintro P⟨o',d',hm⟩;have:=N4 HW ((H.out.moved fP.out.mv).moved hm) V (by rw[HV.out.2];have:=HM.out;omega) (by rw[HV.out.2];exact HD.out j (Nm HM.out));rw[HV.out.2]at this;go_call this as e de⟨A,z,rfl,hm'⟩;exact⟨rfl,z,A,hm.trans hm' (λ_ _ e=>e)⟩)
    have bd:Lk (∀P,(∃o' d',Moved (λ_=>False) n pb db W2 s F P o' d' L)->P.cell? ⟨rb,1,KK⟩=IT (ptrTo gb)):=ae (by rintro P⟨o',d',hm⟩;exact(Q.out.moved Lb.out hm).cells.2.1)
    unfold zG Kt ptrTo at *;refine dx (λP=>∃o' d',Moved (λ_=>False) n pb db W2 s F P o' d' L) (by rfl) ah ⟨s,F,(Moved.refl _ fP.out.mv.bh).drew⟩ ?_;iterate 3 (refine qz ?_)
    refine qz ?_ (λw' D=>by have hc:=bd.out _ D;go_simp<;>rfl);iterate 4 (refine qz ?_)
    refine qz ?_ (λw' D=>by have hc:=bd.out _ D;go_simp<;>rfl);iterate 2 (refine qz ?_)
    refine qz ?_ (λw' D=>by have hx:=wu;go_simp<;>rfl);refine qw (λw' D=>HC.out _ D) ?_;iterate 9 (refine qz ?_)
    refine wpQuiet_nil ?_;rintro W3⟨o3,d3,fD⟩;have gV:=ae (fP.out.moved fD);have uT:Lk (dV W3 rb pb gb gen done r x5 (.slice (IT ⟨g,0,KK⟩) vs.length vk)/\o3 rb=KK):=ae ⟨Q.out.moved Lb.out fD,fD.free Q.out.lt Lb.out⟩;have gU:Lk (W3.heap[xb]? = IT (Mi #[Kx Mo (x.r.toNat:Int),Kx Mo (x.l.toNat:Int),Kx Mo (x.g.toNat:Int)] 110)/\o3 xb=KK):=ae ⟨fD.heap cA.out.1 cA.out.2 (λe=>e),fD.free (ds.1 cA.out.1).1 cA.out.2⟩;have dq:=ae (N5 HW ((H.out.moved fP.out.mv).moved fD) j (Nm HM.out) uT.out.1 rfl uT.out.2);clear HC bd fP Q cA Lb fD;have SI:Lk (nL es j x=⟨j,Qy (eD es j).length (aY es j).length (ju (aY es) (λ_=>J0) (eD es j) V).length x,dD es j⟩):=ae (by unfold nL;rw[<- HV.out.1]);generalize (eD es j).length=n1 at *;generalize (aY es j).length=n2 at *;generalize (ju (aY es) (λ_=>J0) (eD es j) V).length=n3 at *;unfold ptrTo at *;go_wp2_with fail;go_call dq.out as e w4⟨nv,d4,o4,rfl,fZ,hr4,I7⟩;obtain⟨na,nk,rfl⟩:=aw hr4;have jh:=ae (gV.out.moved fZ);have am:Lk (aT w4 w.heap.size (.slice na (dD es j).length nk) (dD es j)/\∀b,(fz na (dD es j).length nk).ownBlock=IT b->o4 b=KK):=ae ⟨aQ hr4 gV.out.mv.size,I7⟩;have O:=fZ.heap gU.out.1 gU.out.2 (λe=>e);have k0:w4.cell? xb=IT (Kx Mo (x.r.toNat:Int)):=by rw[au O];rfl
    have k1:w4.cell? ⟨xb,1,KK⟩=IT (Kx Mo (x.l.toNat:Int)):=by rw[au O];rfl
    have k2:w4.cell? ⟨xb,2,KK⟩=IT (Kx Mo (x.g.toNat:Int)):=by rw[au O];rfl
    have G:=ae (λW=>Ny (n1:Int) (n2:Int) (n3:Int) (x.r.toNat:Int) (x.l.toNat:Int) (x.g.toNat:Int) W af (Nm x.l.toNat_lt) af (Nm x.g.toNat_lt));rw[SH]at G;clear dq fZ hr4 I7 O gV uT gU;generalize Qy n1 n2 n3 x=K at *;have gE:Lk ((cs++[((⟨j,K,dD es j⟩:sO),(na,nk))]).map (·.1)=fX es vs (j+1)):=ae (by rw[sX es vs HX.out,if_pos HK.out,SI.out,k8,J.out];rfl)
    have RZ:Lk (cs.length<=100000):=ae (by have h1:=Fe es vs j;rw[<- J.out,dj]at h1;have:=Z.out;omega)
    go_wp2_with fail;go_call(G.out _) as e w5⟨rfl,kR⟩;have cE:=ae (jh.out.below kR);have z8:Lk (aT w5 w.heap.size (.slice na (dD es j).length nk) (dD es j)/\∀b,(fz na (dD es j).length nk).ownBlock=IT b->o4 b=KK):=ae ⟨aB am.out.1 kR,am.out.2⟩;obtain⟨la,lk,rfl⟩:=aw cE.out.row;clear kR jh am SI J k0 k1 k2 G;go_wp2_with (at_builtin;go_loud (refine kB rfl _ _ rfl w.heap.size _ cs rfl cE.out.row ((⟨j,K,dD es j⟩:sO),(na,nk)) 1 (by rfl) RZ.out cE.out.mv.size ?_);intro v6 w6 h6 ha;have iF:=ae (cE.out.CG h6 ha z8.out.1 z8.out.2);clear h6 ha);grind [Lo]
   .have du:Lk (cs.map (·.1)=fX es vs (j+1)):=ae (by rw[sX es vs HX.out,if_neg (λe=>ce Nc),nw];assumption)
    clear C J HX;go_wp2_with fail;go_roundw
    case rel=>exact⟨j+1,cs,s,F,by go_num,af,du,fP⟩
    case measure=>simp[Lo];omega
  .have CV:¬(j:Int)<M:=af;have aE:Lk (cs.map (·.1)=dy es vs):=ae (by grind [Hid.out,uG]);have SJ:=ae (Zp (C.out.pick aE.out H.out.ends Xy Z.out));rw[aE.out]at SJ;obtain⟨B,SK⟩:=ac (aP es vs);rw[show jc (dy es vs)=B from SK.symm]at SJ;obtain⟨a,GK⟩:=ac B.length;have I:Lk (a=B.length/\a<=24/\∀y∈B,y<4294967296):=ae (by
    refine⟨GK,?_,λy U=>?_⟩
    .grind [aP,jc,Hid.out]
    .rw[SK]at U;unfold aP jc at U;obtain⟨c,hc,rfl⟩:=gl.1 (List.mem_filter.1 U).1;have:=(C6 _ hc).2;grind [Hid.out])
   have Q7:=ae SK;have Xp:Lk (s rb=KK):=ae (C.out.mv.free FN.out.lt FN.out.free);have kS:Lk (dV Y rb pb gb gen done r x5 (.slice va vs.length vk)/\s rb=KK):=ae ⟨HR.out.moved FN.out.free C.out.mv,C.out.mv.free FN.out.lt FN.out.free⟩;have VO:=ae C.out.mv;obtain⟨la,lk,rfl⟩:=aw C.out.row;clear J aE C SK;go_wp2_with fail;go_call SJ.out as e w2⟨ov,rfl,hb2,hr2⟩;have Q:=ae (kS.out.1.below hb2);have S:=ae (VO.out.below hb2);obtain⟨i,ok,rfl⟩:=aw hr2;rw[<- GK];have tq:Lk (aT w2 w.heap.size (.slice i a ok) B/\∀b,(fz i a ok).ownBlock=IT b->s b=KK/\b<w2.heap.size/\w.heap.size<=b):=ae (by rw[GK];exact⟨aQ hr2 VO.out.size,λb u=>⟨VO.out.bh.fresh (aA hr2 b u).2,(aA hr2 b u).1,cp VO.out.size (aA hr2 b u).2⟩⟩)
   obtain⟨c0,c1,c2,c3,c4,c5,c6,f6⟩:=Q.out.cells;have f5:=f6 5;have f4:=f6 4;have eS:=Q.out.lt;clear GK hb2 hr2 kS VO SJ c0 c1 c2 c3 c6 f6;have iG:s rb=none:=Xp.out;have E:Lk (dV (((w2.setCell ⟨rb,5,KK⟩ (.slice i a ok)).setCell ⟨rb,4,KK⟩ (.map (IT w2.heap.size))).alloc (.map #[] 0)) rb pb gb gen done (.map (IT w2.heap.size)) (.slice i a ok) (.slice va vs.length vk)/\Moved (·=rb) n pb db w o d (((w2.setCell ⟨rb,5,KK⟩ (.slice i a ok)).setCell ⟨rb,4,KK⟩ (.map (IT w2.heap.size))).alloc (.map #[] 0)) s F L/\aT (((w2.setCell ⟨rb,5,KK⟩ (.slice i a ok)).setCell ⟨rb,4,KK⟩ (.map (IT w2.heap.size))).alloc (.map #[] 0)) w.heap.size (.slice i a ok) B/\ir (((w2.setCell ⟨rb,5,KK⟩ (.slice i a ok)).setCell ⟨rb,4,KK⟩ (.map (IT w2.heap.size))).alloc (.map #[] 0)) w2.heap.size []/\rb≠w2.heap.size/\s w2.heap.size=KK/\w.heap.size<=w2.heap.size/\∀b,(fz i a ok).ownBlock=IT b->b≠w2.heap.size/\s b=KK):=ae (by
    have h4:=(Q.out.arS (.slice i a ok)).arR (.map (IT w2.heap.size));have en:rb≠w2.heap.size:=af;have Le:∀b,(fz i a ok).ownBlock=IT b->b≠rb:=λb u e=>Nm ((tq.out.2 b u).2.2)
    have co:((w2.setCell ⟨rb,5,KK⟩ (.slice i a ok)).setCell ⟨rb,4,KK⟩ (.map (IT w2.heap.size))).heap.size=w2.heap.size:=ai;have nB:=MapKept.heap_alloc ((w2.setCell ⟨rb,5,KK⟩ (.slice i a ok)).setCell ⟨rb,4,KK⟩ (.map (IT w2.heap.size))) (.map #[] 0);have eO:Moved (·=rb) n pb db w o d (w2.setCell ⟨rb,5,KK⟩ (.slice i a ok)) s F L:=(S.out.mono (λ_ _ e=>e.elim)).setCell ⟨rb,5,KK⟩ (.slice i a ok) iG (.inl rfl);have dA:=(eO.setCell ⟨rb,4,KK⟩ (.map (IT w2.heap.size)) iG (.inl rfl)).alloc (.map #[] 0);refine⟨(nB.2 rb af).trans h4,dA,?_,?_,en,S.out.bh.fresh (cg _),S.out.size,λb u=>⟨Nm ((tq.out.2 b u).2.1),(tq.out.2 b u).1⟩⟩
    .refine bg tq.out.1 (λb u=>?_);rw[nB.2 b (by rw[co];exact(tq.out.2 b u).2.1),e8 _ _ _ _ (Le b u),e8 _ _ _ _ (Le b u)]
    .have:=cj.made ((w2.setCell ⟨rb,5,KK⟩ (.slice i a ok)).setCell ⟨rb,4,KK⟩ (.map (IT w2.heap.size))) prog 33 jf (λ_:Unit=>ID Jd);rw[co]at this;exact this)
   have ff:Lk (B.Pairwise (· < ·)):=ae (by rw[Q7.out];exact jy es vs);clear Q S tq Xp iG;go_wp2_with fail;generalize ee:w2.heap.size=mb at *;generalize ((w2.setCell ⟨rb,5,KK⟩ (.slice i a ok)).setCell ⟨rb,4,KK⟩ (.map (IT mb))).alloc (.map #[] 0)=W3 at *;clear ee c4 c5 f4 f5 eS;go_loopw [84] (λvi wr=>∃k:Nat,vi=Kx Mm (k:Int)/\k<=a/\Lk (dV wr rb pb gb gen done (.map (IT mb)) (.slice i a ok) (.slice va vs.length vk)/\Moved (·=rb) n pb db w o d wr s F L/\aT wr w.heap.size (.slice i a ok) B/\ir wr mb (B.take k).reverse)) (λvi _=>a-(Lo vi).toNat)
   case atStart=>exact⟨0,rfl,em _,ae ⟨E.out.1,E.out.2.1,E.out.2.2.1,E.out.2.2.2.1⟩⟩
   case round=>
    obtain⟨k,rfl,hk,m⟩:=hrel;generalize wr=W4 at *;by_cases gt:k<a
    .have CX:(k:Int)<a:=af;have wk:cf Mm ((k:Int)+1)=(k+1:Nat):=by have:=I.out.2.1;rw[ax]<;>omega
     obtain⟨y,U⟩:∃y,B[k]? = IT y:=⟨_,bk (Nm I.out.1)⟩;obtain⟨g,rfl⟩:∃g,i=IT ⟨g,0,KK⟩:=by
      obtain⟨-,⟨h1,h2⟩|⟨g,_,_,h1,_⟩⟩:=m.out.2.2.1
      .simp_all
      simp_all
     have q0:=iT (l:=B) (by have:=m.out.2.2.1;rwa [I.out.1]at this) U;obtain⟨-,-,-,-,c4,-⟩:=m.out.1.cells;have HG:=ae (iK (I.out.2.2 y (cx U)));have qH:Lk (aX ((B.take k).reverse.map λx=>(x,())) y ()=((B.take (k+1)).reverse.map λx=>(x,()))):=ae (by
      obtain⟨hl,he⟩:=e7.1 U;have gx:y ∉ B.take k:=λhm=>by obtain⟨j,hj,fm⟩:=p6 hm;rw[et]at hj;rw[List.getElem_take]at fm;have:=qa.1 ff.out j k af hl af;omega
      rw[Kp Nc,fh hl,he];simp)
     clear U;go_wp2_with (at_mapUpdate;refine fL _ rfl _ _ _ _ rfl 4 cF dP Tryz.underlying73 mb _ rfl m.out.2.2.2 y () rfl rfl HG.out ?_;intro N f dA;rw[qH.out]at dA;have fV:=ae dA;clear dA);have qK:Lk (dV (setBlock W4 mb (.map N f)) rb pb gb gen done (.map (IT mb)) (.slice (IT ⟨g,0,KK⟩) a ok) (.slice va vs.length vk)/\Moved (·=rb) n pb db w o d (setBlock W4 mb (.map N f)) s F L/\aT (setBlock W4 mb (.map N f)) w.heap.size (.slice (IT ⟨g,0,KK⟩) a ok) B/\ir (setBlock W4 mb (.map N f)) mb (B.take (k+1)).reverse):=ae ⟨(bm (w:=W4) (b:=mb) (.map N f) E.out.2.2.2.2.1).trans m.out.1,m.out.2.1.turned E.out.2.2.2.2.2.1 (.inr E.out.2.2.2.2.2.2.1) ((aN.refl _ W4).setBlock _ _ (.inl rfl)),bg m.out.2.2.1 (λb u=>bm _ (E.out.2.2.2.2.2.2.2 b u).1),fV.out⟩;clear fV m q0 c4;go_roundw
     case rel=>exact⟨k+1,by go_num,af,qK⟩
     case measure=>simp[Lo];omega
    .have CX:¬(k:Int)<a:=af;have HQ:Lk (R (Mk (Kx Mm 0)) W4):=ae (by rw[Zc.out,<- Q7.out];obtain⟨h1,h2,h3,h4⟩:=m.out;rw[ey (Nm I.out.1)]at h4;exact⟨mb,.slice i a ok,B.reverse,F,s,rfl,h2,h1,h3,λb u=>(E.out.2.2.2.2.2.2.2 b u).2,h4,E.out.2.2.2.2.2.2.1,E.out.2.2.2.2.2.1,λiS=>ai⟩)
     clear m Zc;go_wp2;exact HQ.out
end
section
variable {S:Nat->Prop}{w0 w W:KX}{pb db n gb gen N ob ib vb rb done:Nat}{o o':ay}{d d':Dsk}{L L':aL}{es l:List aJ}{vs:List bZ}{q x5 y v:J3}
theorem Moved.self(h:Moved S n pb db w o d w' o' d' L){f:jV}(a:aI L name=IT f):Moved S n pb db w o d w' o' d' (aX L name f):=
 h.congr (cK h.bh.keys) (λx=>by
  rw[aC];by_cases e:x=name
  .rw[if_pos e,e,a]
  .rw[if_neg e])
def mW(n b db:Nat)(w:KX)(o:ay)(d:Dsk)(L:aL)(name:Name)(e:Lp)(w':KX):Prop:=
 ∃a d' o',e=Mk (Ly #[ptrTo a,Kx Mm 0])/\Moved (λ_=>False) n b db w o d w' o' d' (aX L name (az [] Jd))/\aM w' a b name 20/\w.heap.size<=a/\o' a=KK
theorem nA(h:Held w0 w pb db n o d L)(m:dV w rb pb gb gen done r x5 y)(g:o rb=KK)(k:b6 name=Jd)(j:aI L name=KK):K1 prog 63 #[ptrTo rb,.string name] w (mW n pb db w o d L name):=by
 have c:dK d L name=0:=by unfold dK;rw[h.tick,k,j];rfl
 have f:=ae (mP h.bh name (bO k));unfold iC at f;rw[c]at f;simp only[if_true]at f;have a:Lk (∀W o' d',aU W pb db n o' d' (aX L name (az [] Jd))->d'.dead=J0->K1 prog 37 #[ptrTo pb,.string name,Kx Mm 20] W (eT W pb name 20 0)):=ae (λW o' d' t z=>by have q:=eU (sz:=20) t name (bO k) ag ag;rw[jH t (by rw[aC,if_pos rfl];rfl),z]at q;exact q)
 obtain⟨x,-⟩:=m.cells;have v:=ae m;have A:=ae g;have H:=ae h;clear h m g k j c;unfold ptrTo at *;go_enter func63,ntmps63;go_wp2_with fail;go_call f.out as e w1⟨d1,o1,rfl,eO,hx1,-⟩;have b:=ae (a.out w1 o1 d1 eO.bh (hx1 trivial));have l:=ae eO;have c1:=(v.out.moved A.out eO).cells.1;clear eO hx1 f x a;unfold ptrTo at *;go_wp2_with fail;go_call b.out as e w2⟨v2,rfl,hb2,hs2,-⟩;obtain⟨s,rfl,i,p⟩:=hs2 rfl;have u:Lk (mW n pb db w o d L name (Mk (Ly #[ptrTo s,Kx Mm 0])) w2):=ae ⟨s,d1,o1,rfl,l.out.below hb2,i,cp l.out.size p,l.out.bh.fresh p⟩;clear hb2 hs2 i p b c1;unfold ptrTo at *;go_wp2;go_returns;exact u.out
def lH(S:Nat->Prop)(n a db:Nat)(w:KX)(o:ay)(d:Dsk)(L:aL)(name:Name)(es:List aJ)(e:Lp)(w':KX):Prop:=
 ∃fl d' o',e=Mk (Kx Mm 0)/\Moved S n a db w o d w' o' d' (aX L name (az es fl))
theorem Oh(HW:aV)(h:Held w0 w pb db n o d L)(i:aM w m pb name 20)(C:o m=KK)(X:aI L name=IT (az es fl))(N:gR w v l)(O:∀b,v.ownBlock=IT b->o b=KK)(Sq:need L+4*(es.length+l.length)<=131072)(s:es.length+l.length<65535):K1 prog 120 #[ptrTo m,v] w (lH (λ_=>False) n pb db w o d L name (es++l)):=by
 have PH:Lk (∀W o' d' f u(x:aJ)(k:Nat),Moved (λ_=>False) n pb db w o d W o' d' (aX L name (az (es++l.take k) f))->l[k]? = IT x->Rd W u x.bytes->(∀y,u.ownBlock=IT y->o' y=KK) ->
  Calls prog 38 #[ptrTo m,u] W λe w'=>∃B A,e=Mk (Kx Mm 0)/\Moved (λ_=>False) n pb db w o d w' A B (aX L name (az (es++l.take (k+1)) J0))):=ae (λW o' d' f u x k g q vP D=>by
  obtain⟨T,E⟩:=e7.1 q;refine(mH HW g.bh (i.moved g C (λe=>e)) (g.free i.lt C) ag ag (by rw[aC,if_pos rfl];rfl) (dN _) (by rw[dj,eh,et];omega) vP x.fE D).mono ?_;rintro e w'⟨c,B,A,rfl,H,vX⟩;have he:(es++l.take k).map aJ.bytes++[x.bytes]=(es++l.take (k+1)).map aJ.bytes:=by rw[fh T,E];simp
  have hh:=h.moved g (λ_ e=>e.elim);have h0:c=0:=hh.wX H vX (by have h1:=dm L name (az (es++l.take k) f);have h2:=dz (es++l.take k) f;rw[eh,et]at h2;omega)
  subst h0;rw[if_pos rfl,kI,he]at H;exact⟨B,A,rfl,g.trans H (λ_ _ e=>e)⟩)
 have P:Lk (∀W o' d' L',Moved (λ_=>False) n pb db w o d W o' d' L'->gR W v l):=ae (λW o' d' L' g=>N.moved g O);have t:Lk (Moved (λ_=>False) n pb db w o d w o d (aX L name (az (es++l.take 0) fl))):=ae (by rw[j2,nw];exact(Moved.refl _ h.bh).self X)
 obtain⟨a,cap,rfl,-⟩:=N;obtain⟨M,G⟩:=ac l.length;have z:Lk (M=l.length/\M<65535):=ae ⟨G,af⟩;obtain⟨R,J⟩:∃R,R=lH (λ_=>False) n pb db w o d L name (es++l):=⟨_,rfl⟩;have Z:=ae J;rw[<- J];rw[<- G]at P ⊢;clear h i C X O Sq s G J;unfold ptrTo at *;go_enter func120,ntmps120;go_wp2_with fail;go_loopw [10] (λI wr=>∃(k:Nat)(f:Bool)(o':ay)(d':Dsk),I=k/\k<=M/\Lk (Moved (λ_=>False) n pb db w o d wr o' d' (aX L name (az (es++l.take k) f)))) (λI _=>M-(Lo I).toNat)
 case atStart=>exact⟨0,fl,o,d,rfl,em _,t⟩
 case round=>
  obtain⟨k,f,Y,Q,rfl,T,j⟩:=hrel;clear t;generalize wr=W1 at *;by_cases am:k<M
  .have CX:(k:Int)<M:=af;have wk:cf Mm ((k:Int)+1)=(k+1:Nat):=by have:=z.out;rw[ax]<;>omega
   obtain⟨x,q⟩:∃x,l[k]? = IT x:=⟨_,bk (Nm z.out)⟩;have HX:=ae q;obtain⟨a',r,S,p⟩:=P.out _ _ _ _ j.out;obtain⟨rfl,-,rfl⟩:a=a'/\M=l.length/\cap=r:=by simpa using S
   obtain⟨b,al,rfl,K⟩:=p.resolve_left (Nm z.out);obtain⟨q0,q1,q2,q3⟩:=K k _ q;clear p K S q;have F:=ae (j.out.alloc (Mi #[Kx Mo (x.t.toNat:Int),Kx Mo (x.h.toNat:Int),Kx MJ (x.x.toNat:Int),Kx Mo (x.m.toNat:Int)] 63));have V:=ae (λW=>zb x W);go_wp2_with fail;go_call(V.out _) as e w3⟨v3,rfl,kF,hb3⟩;have U:=ae (PH.out w3 Y Q f v3 x k (F.out.below hb3) HX.out (fp kF) (λy hy=>F.out.bh.fresh (aD kF y hy)));clear kF hb3 V q0 q1 q2 q3;go_wp2_with fail;go_call U.out as e w4⟨d4,o4,rfl,fZ⟩;have jg:=ae fZ;clear fZ U j F;go_wp2;go_roundw
   case rel=>exact⟨k+1,J0,o4,d4,by go_num,af,jg⟩
   case measure=>simp[Lo];omega
  .have CX:¬(k:Int)<M:=af;have HQ:Lk (R (Mk (Kx Mm 0)) W1):=ae (by have:=j.out;rw[ey (Nm z.out)]at this;rw[Z.out];exact⟨f,Q,Y,rfl,this⟩)
   clear j Z;go_wp2;exact HQ.out
end
section
variable {w0 w W:KX}{pb db n gb gen N ob ib vb rb mb f done:Nat}{o o':ay}{d d':Dsk}{L L':aL}{es l:List aJ}{S:List Nat}{x5 y v:J3}
theorem ir.look(h:ir w mb S){x:Nat}(a:x<4294967296)(b:Bool)(d:decide (x∈S)=b):∀w',Lg w w w'->Sem.run prog (Instr.lookup 73 (.map (IT mb)) (Kx Mo x) J0) w'=.ok (.bool b) w':=λw' c=>by
 have:=(h.kept (c.block _ h.lt)).lookup cF dP Tryz.underlying73 (Tryz.zeroValue4 w') x (iK a) J0;rw[Ku]at this;rw[<- d];by_cases e:x∈S
 .rw[if_pos e]at this;rw[decide_eq_true e];exact this
 .rw[if_neg e]at this;rw[decide_eq_false e];exact this
theorem Oi(args:Array J3)(w:KX):Sem.run prog (callFunc 121 args) w=.ok (.enter 121 args) w:=by go_simp
theorem Oj{t:TypeId}(g:w.heap[f]? = IT (Mi #[ptrTo rb] t))(c:dV w rb pb gb gen done (.map (IT mb)) x5 y)(a:ir w mb S){x:Nat}(d:x<4294967296):K1 prog 121 #[Kx Mo x,.pointer f] w λe w'=>e=Mk (.bool (decide (x∈S)))/\Lg w w w':=by
 have h:=a.look d _ rfl w aq;generalize decide (x∈S)=b at *;have i:w.cell? f=IT (ptrTo rb):=by rw[au g];rfl
 obtain⟨-,-,-,-,c4,-⟩:=c.cells;clear g c a d;unfold ptrTo at *;go_enter func121,ntmps121;go_wp2;go_ret;exact⟨rfl,kp _ _⟩
theorem Zv{t:TypeId}(e:w.heap[f]? = IT (Mi #[ptrTo rb] t))(d:dV w rb pb gb gen done (.map (IT mb)) x5 y)(a:ir w mb S)(h:o f=KK)(i:o rb=KK)(g:o mb=KK) :
 N1 w o (.func (.func 121) #[] #[.pointer f]) (λx=>decide (x∈S)) (λb=>b=f\/b=rb\/b=mb):=
 ⟨⟨_,_,rfl,Oi,λW x c _ j=>Oj ((c f (.inl rfl)).trans e) ((c rb (.inr (.inl rfl))).trans d) (a.kept (c mb (.inr (.inr rfl)))) j⟩,λb k=>by
   rcases k with rfl | rfl | rfl
   .exact⟨(ds.1 e).1,h⟩
   .exact⟨d.lt,i⟩
   .exact⟨a.lt,g⟩⟩
theorem ye(h:iM w0 w pb db n o d L gb gen N ob ib vb es)(a:Moved (λ_=>False) n pb db w o d w' o' d' L')(c:aI L' (aF 101 gen)=aI L (aF 101 gen))(b:aI L' (aF 114 gen)=aI L (aF 114 gen))(f:need L'<=131072):iM w0 w' pb db n o' d' L' gb gen N ob ib vb es:=
 ⟨h.held.moved a (λ_ e=>e.elim),f,h.gr.moved a,c.trans h.file,b.trans h.N0,h.len,h.top,h.ends⟩
theorem acJ{x:aJ}{t:TypeId}:gR (w.alloc (Mi #[x.t,x.h,x.x,x.m] t)) (.slice w.heap.size 1 1) [x]:=
 ⟨_,1,rfl,.inr ⟨w.heap.size,0,rfl,λj y a=>by
  match j,a with
  |0,a=>cases a;simp
  |j+1,a=>cases a⟩⟩
def lQ(S:List Nat)(x:aJ):Bool:=decide (x.t.toNat ∉ S/\x.h.toNat ∉ S)
theorem Zw(es:List aJ)(S:List Nat):fe es S=(aH J0 es).filter (lQ S):=rfl
theorem G8(HW:aV)(h:iM w0 w pb db n o d L gb gen N ob ib vb es)(hr:dV w rb pb gb gen done (.map (IT mb)) x5 y)(T:o rb=KK)(D:ir w mb S)(Z:o mb=KK)(H:aM w m pb name 20)(Tf:o m=KK)(hL:aI L name=IT (az [] fl))(h1:name≠aF 101 gen)(h2:name≠aF 114 gen)(Sq:need L+8*es.length+8<=131072):K1 prog 64 #[ptrTo rb,ptrTo m] w (lH (λ_=>False) n pb db w o d L name (fe es S)):=by
 have al:=cq J0 es;have Q8:Lk (∀W o' d' c f,Moved (λ_=>False) n pb db w o d W o' d' (aX L name (az c f))->c.length<=es.length->iM w0 W pb db n o' d' (aX L name (az c f)) gb gen N ob ib vb es):=ae (λW o' d' c f j k=>ye h j (by rw[aC,if_neg h1.symm]) (by rw[aC,if_neg h2.symm]) (by have g1:=dm L name (az c f);have g2:=dz c f;omega))
 have Y:Lk (Moved (λ_=>False) n pb db w o d w o d (aX L name (az [] fl))):=ae ((Moved.refl _ h.held.bh).self hL);have ce:=ae hL;have KF:=ae (QD HW h.held h.need h.gr h.file);have SL:Lk (∀W o' d' L',Moved (λ_=>False) n pb db w o d W o' d' L'->dV W rb pb gb gen done (.map (IT mb)) x5 y/\ir W mb S/\aM W m pb name 20/\o' m=KK):=ae (λW o' d' L' j=>⟨hr.moved T j,D.kept (j.block D.lt Z (λe=>e)),H.moved j Tf (λe=>e),j.free H.lt Tf⟩);have qH:Lk (∀W o' d' c f v(x:aJ),Moved (λ_=>False) n pb db w o d W o' d' (aX L name (az c f))->c.length<=es.length->gR W v [x]->(∀b,v.ownBlock=IT b->o' b=KK) ->
  Calls prog 120 #[ptrTo m,v] W λe w'=>∃z E I,e=Mk (Kx Mm 0)/\Moved (λ_=>False) n pb db w o d w' E z (aX L name (az (c++[x]) I))):=ae (λW o' d' c f v x j k hv pD=>by
  have Q:=Q8.out _ _ _ _ _ j k;have g1:=dm L name (az c f);have g2:=dz c f;have co:=h.len;obtain⟨-,-,k3,k4⟩:=SL.out _ _ _ _ j;refine(Oh HW Q.held k3 k4 (by rw[aC,if_pos rfl]) hv pD (by rw[lr];omega) (by rw[lr];omega)).mono ?_;rintro e w'⟨I,z,E,rfl,dA⟩;rw[kI]at dA;exact⟨z,E,I,rfl,j.trans dA (λ_ _ e=>e)⟩)
 obtain⟨-,c1,-⟩:=hr.cells;obtain⟨B,V⟩:=ac (aH J0 es);have HB:Lk (B.length<=es.length/\es.length<=1000):=ae ⟨by rw[V];exact al,h.len⟩;have ci:Lk (∀W o' d' c f,Moved (λ_=>False) n pb db w o d W o' d' (aX L name (az c f))->c.length<=es.length->∀(i:Nat)(x:aJ),B[i]? = IT x->K1 prog 119 #[ptrTo gb,i] W λe w'=>∃z E,e=Mk (Ly #[QB x,Kx Mm 0])/\Moved (λ_=>False) n pb db w o d w' E z (aX L name (az c f))):=ae (λW o' d' c f j k i x K=>by have Q:=Q8.out _ _ _ _ _ j k;rw[V]at K;go_call(UD HW Q.held Q.need Q.gr Q.file K) as e w'⟨z,E,rfl,dA⟩;exact⟨z,E,rfl,j.trans dA (λ_ _ e=>e)⟩)
 rw[<- V]at KF;rw[Zw,<- V];obtain⟨M,hM⟩:=ac B.length;have HM:Lk (M=B.length/\M<=1000):=ae ⟨hM,Nm HB.out⟩;obtain⟨R,hR⟩:∃R,R=lH (λ_=>False) n pb db w o d L name (B.filter (lQ S)):=⟨_,rfl⟩;have Zc:=ae hR;rw[<- hR];rw[<- hM]at KF;clear h hr T D Z H Tf hL h1 h2 Sq al V hM hR Q8;unfold ptrTo at *;go_enter func64,ntmps64;go_wp2_with fail;go_call KF.out as e w1⟨d1,o1,rfl,eO⟩;have gy:Lk (Moved (λ_=>False) n pb db w o d w1 o1 d1 (aX L name (az (((B.take 0)).filter (lQ S)) fl))):=ae (by
  refine eO.congr Y.out.bh.keys (λx=>?_);rw[aC];split
  .rename_i e;rw[e,ce.out];rfl
  .rfl)
 clear eO KF c1 Y;go_wp2_with fail;go_loopw [23] (λvi wr=>∃(i:Nat)(f:Bool)(o':ay)(d':Dsk),vi=i/\i<=M/\Lk (Moved (λ_=>False) n pb db w o d wr o' d' (aX L name (az ((B.take i).filter (lQ S)) f)))) (λvi _=>M-(Lo vi).toNat)
 case atStart=>exact⟨0,fl,o1,d1,rfl,em _,gy⟩
 case round=>
  obtain⟨i,f,o2,d2,rfl,hi,fV⟩:=hrel;clear gy;generalize wr=W2 at *;by_cases de:i<M
  .have bd:(i:Int)<M:=af;have wi:cf Mm ((i:Int)+1)=(i+1:Nat):=by have:=HM.out;rw[ax]<;>omega
   obtain⟨x,K⟩:∃x,B[i]? = IT x:=⟨_,bk (Nm HM.out)⟩;have nT:Lk ((B.take (i+1)).filter (lQ S)=(B.take i).filter (lQ S)++if lQ S x=Jd then [x] else []):=ae (by obtain⟨k,he⟩:=e7.1 K;rw[fh k,he,yk,List.filter_cons,List.filter_nil])
   have t:Lk (((B.take i).filter (lQ S)).length<=es.length):=ae (cp (kq _ _) (by rw[et];have:=HB.out;omega));have am:=ae (ci.out _ _ _ _ _ fV.out t.out i x K);obtain⟨-,c1,-⟩:=(SL.out _ _ _ _ fV.out).1.cells;clear K;generalize (B.take i).filter (lQ S)=aE at *;unfold QB ptrTo at *;go_wp2_with fail;go_call am.out as e w3⟨d3,o3,rfl,fD⟩;have O:=ae (fD.alloc (Mi #[Kx Mo (x.t.toNat:Int),Kx Mo (x.h.toNat:Int),Kx MJ (x.x.toNat:Int),Kx Mo (x.m.toNat:Int)] 63));have eM:Lk ((w3.alloc (Mi #[Kx Mo (x.t.toNat:Int),Kx Mo (x.h.toNat:Int),Kx MJ (x.x.toNat:Int),Kx Mo (x.m.toNat:Int)] 63)).heap[w3.heap.size]? = IT (Mi #[Kx Mo (x.t.toNat:Int),Kx Mo (x.h.toNat:Int),Kx MJ (x.x.toNat:Int),Kx Mo (x.m.toNat:Int)] 63)):=ae (Lw _ _);clear fD am fV c1;go_wp2_with fail;generalize FW:w3.heap.size=xb at *;clear FW;generalize w3.alloc (Mi #[Kx Mo (x.t.toNat:Int),Kx Mo (x.h.toNat:Int),Kx MJ (x.x.toNat:Int),Kx Mo (x.m.toNat:Int)] 63)=U at *;have F:Lk (∀w',Lg U U w'->w'.cell? ⟨rb,4,KK⟩=IT (.map (IT mb))/\w'.cell? xb=IT (Kx Mo (x.t.toNat:Int))/\w'.cell? ⟨xb,1,KK⟩=IT (Kx Mo (x.h.toNat:Int))):=ae (λw' a=>by have hc:w'.heap[xb]? = IT (Mi #[Kx Mo (x.t.toNat:Int),Kx Mo (x.h.toNat:Int),Kx MJ (x.x.toNat:Int),Kx Mo (x.m.toNat:Int)] 63):=(a.block _ (ds.1 eM.out).1).trans eM.out;exact⟨((SL.out _ _ _ _ O.out).1.below a).cells.2.2.2.2.1,by rw[au hc];rfl,by rw[au hc];rfl⟩)
   have C:=(SL.out _ _ _ _ O.out).2.1;by_cases G:x.t.toNat∈S
   .have A:=ae (C.look x.t.toNat_lt Jd (decide_eq_true G));have X:Lk (lQ S x=J0):=ae (by unfold lQ;simp[G]);clear G C;refine wq U ?_;iterate 3 (refine qz ?_)
    refine qz ?_ (λw' a=>by obtain⟨s,q,r⟩:=F.out w' a;go_simp<;>rfl);refine qz ?_;refine qz ?_ (λw' a=>by obtain⟨s,q,r⟩:=F.out w' a;go_simp<;>rfl);refine qz ?_ (λw' a=>by have k:=A.out w' a;go_simp<;>rfl);refine qz ?_;iterate 7 go_big_quiet_skip
    refine qz ?_;refine wpQuiet_nil ?_;intro l g;have J:Lk (Moved (λ_=>False) n pb db w o d l o3 d3 (aX L name (az ((B.take (i+1)).filter (lQ S)) f))):=ae (by rw[nT.out,X.out,if_neg ai,nw];exact O.out.below g);clear g F A;go_wp2;go_roundw
    case rel=>exact⟨i+1,f,o3,d3,by go_num,af,J⟩
    case measure=>simp[Lo];omega
   .have A:=ae (C.look x.t.toNat_lt J0 (decide_eq_false G));by_cases P:x.h.toNat∈S
    .have OU:=ae (C.look x.h.toNat_lt Jd (decide_eq_true P));have X:Lk (lQ S x=J0):=ae (by unfold lQ;simp[P]);clear G P C;refine wq U ?_;iterate 3 (refine qz ?_)
     refine qz ?_ (λw' a=>by obtain⟨s,q,r⟩:=F.out w' a;go_simp<;>rfl);refine qz ?_;refine qz ?_ (λw' a=>by obtain⟨s,q,r⟩:=F.out w' a;go_simp<;>rfl);refine qz ?_ (λw' a=>by have k:=A.out w' a;go_simp<;>rfl);refine qz ?_;iterate 3 (refine qz ?_)
     refine qz ?_ (λw' a=>by obtain⟨s,q,r⟩:=F.out w' a;go_simp<;>rfl);refine qz ?_;refine qz ?_ (λw' a=>by obtain⟨s,q,r⟩:=F.out w' a;go_simp<;>rfl);refine qz ?_ (λw' a=>by have k:=OU.out w' a;go_simp<;>rfl);refine qz ?_;refine wpQuiet_nil ?_;intro l g;have J:Lk (Moved (λ_=>False) n pb db w o d l o3 d3 (aX L name (az ((B.take (i+1)).filter (lQ S)) f))):=ae (by rw[nT.out,X.out,if_neg ai,nw];exact O.out.below g);clear g F A OU;go_wp2;go_roundw
     case rel=>exact⟨i+1,f,o3,d3,by go_num,af,J⟩
     case measure=>simp[Lo];omega
    .have OU:=ae (C.look x.h.toNat_lt J0 (decide_eq_false P));have X:Lk (lQ S x=Jd):=ae (by unfold lQ;simp[G,P]);clear G P C;refine wq U ?_;iterate 3 (refine qz ?_)
     refine qz ?_ (λw' a=>by obtain⟨s,q,r⟩:=F.out w' a;go_simp<;>rfl);refine qz ?_;refine qz ?_ (λw' a=>by obtain⟨s,q,r⟩:=F.out w' a;go_simp<;>rfl);refine qz ?_ (λw' a=>by have k:=A.out w' a;go_simp<;>rfl);refine qz ?_;iterate 3 (refine qz ?_)
     refine qz ?_ (λw' a=>by obtain⟨s,q,r⟩:=F.out w' a;go_simp<;>rfl);refine qz ?_;refine qz ?_ (λw' a=>by obtain⟨s,q,r⟩:=F.out w' a;go_simp<;>rfl);refine qz ?_ (λw' a=>by have k:=OU.out w' a;go_simp<;>rfl);refine qz ?_;refine wpQuiet_nil ?_;intro l g;have J:=ae (O.out.below g);have p:l.heap[xb]? = IT (Mi #[Kx Mo (x.t.toNat:Int),Kx Mo (x.h.toNat:Int),Kx MJ (x.x.toNat:Int),Kx Mo (x.m.toNat:Int)] 63):=(g.block _ (ds.1 eM.out).1).trans eM.out;have q0:l.cell? xb=IT (Kx Mo (x.t.toNat:Int)):=by rw[au p];rfl
     have q1:l.cell? ⟨xb,1,KK⟩=IT (Kx Mo (x.h.toNat:Int)):=by rw[au p];rfl
     have q2:l.cell? ⟨xb,2,KK⟩=IT (Kx MJ (x.x.toNat:Int)):=by rw[au p];rfl
     have q3:l.cell? ⟨xb,3,KK⟩=IT (Kx Mo (x.m.toNat:Int)):=by rw[au p];rfl
     have u:=ae (qH.out (l.alloc (Mi #[Kx Mo (x.t.toNat:Int),Kx Mo (x.h.toNat:Int),Kx MJ (x.x.toNat:Int),Kx Mo (x.m.toNat:Int)] 63)) o3 d3 aE f (.slice l.heap.size 1 1) x (J.out.alloc _) t.out acJ (λb hb=>by cases hb;exact J.out.bh.fresh (cg _)));clear g F A OU eM O p;go_wp2_with fail;go_call u.out as e w5⟨d5,o5,fl5,rfl,oq⟩;have oy:Lk (Moved (λ_=>False) n pb db w o d w5 o5 d5 (aX L name (az ((B.take (i+1)).filter (lQ S)) fl5))):=ae (by rw[nT.out,X.out,if_pos rfl];exact oq);clear oq u J q0 q1 q2 q3;go_wp2;go_roundw
     case rel=>exact⟨i+1,fl5,o5,d5,by go_num,af,oy⟩
     case measure=>simp[Lo];omega
  .have bd:¬(i:Int)<M:=af;have HQ:Lk (R (Mk (Kx Mm 0)) W2):=ae (by have:=fV.out;rw[ey (Nm HM.out)]at this;rw[Zc.out];exact⟨f,d2,o2,rfl,this⟩)
   clear fV Zc;go_wp2;exact HQ.out
end
theorem uJ(a:UInt32):cf Mo ((a.toNat:Int)+1)=((a+1).toNat:Int):=by rfl
theorem Ch{l:List bZ}{i:Nat}{y:bZ}(r:UInt32)(h:l[i]? = IT y):(cz l).set (i*3) r=cz (l.set i ⟨r,y.l,y.g⟩):=by
 induction l generalizing i with
 |nil=>cases h
 |cons a l b=>
   cases i with
   |zero=>cases h;rfl
   |succ i=>grind [cz]
theorem qy{l:List bZ}{i:Nat}{y:bZ}(r:UInt32)(h:l[i]? = IT y):(cz l).set (i*3+1) r=cz (l.set i ⟨y.r,r,y.g⟩):=by
 induction l generalizing i with
 |nil=>cases h
 |cons a l b=>
   cases i with
   |zero=>cases h;rfl
   |succ i=>grind [cz]
theorem qA{l:List bZ}{i:Nat}{y:bZ}(r:UInt32)(h:l[i]? = IT y):(cz l).set (i*3+2) r=cz (l.set i ⟨y.r,y.l,r⟩):=by
 induction l generalizing i with
 |nil=>cases h
 |cons a l b=>
   cases i with
   |zero=>cases h;rfl
   |succ i=>grind [cz]
theorem oC{L:aL}{k:Name}{f:jV}(a:(L.map (·.1)).Nodup)(h:aI L k=IT f)(b:jV):need (aX L k b)+f.need=b.need+need L:=by
 have e:need (aX L k f)=need L:=DZ a (cK a) λx=>by grind [aC]
 grind [aX,mn]
def eN(es:List aJ):Nat:=(az es Jd).need
theorem SM(es:List aJ)(fl:Bool):(az es fl).need=eN es:=rfl
theorem jd(es:List aJ):eN es<=4*es.length:=dz es Jd
structure RL(L0 L:aL)(nX nU nD:Name)(R U D:List aJ):Prop where
 x:∃f,aI L nX=IT (az R f)
 u:∃f,aI L nU=IT (az U f)
 d:∃f,aI L nD=IT (az D f)
 vB:∀y,y≠nX->y≠nU->y≠nD->aI L y=aI L0 y
 need:need L<=need L0+eN R+eN U+eN D
section
variable {S:Nat->Prop}{w0 w W:KX}{pb db n gb gen N ob ib vb rb mb f done g vk base:Nat}{o o':ay}{d d':Dsk}{L0 L L':aL}{es l R U D:List aJ}{vs k:List bZ}{x5 y v:J3}{nX nU nD:Name}
theorem SN(h:RL L0 L nX nU nD R U D)(c:(L.map (·.1)).Nodup)(i:nX≠nU)(j:nX≠nD)(a:List aJ)(fl:Bool):RL L0 (aX L nX (az a fl)) nX nU nD a U D:=by
 obtain⟨f,b⟩:=h.x;refine⟨⟨fl,by grind [aC]⟩,?_,?_,λy d e g=>by grind [aC,RL.vB],?_⟩
 .grind [aC,RL.u]
 .grind [aC,RL.d]
 .have:=oC c b (az a fl);have:=h.need;grind [SM]
theorem acK(h:RL L0 L nX nU nD R U D)(c:(L.map (·.1)).Nodup)(i:nX≠nU)(j:nU≠nD)(a:List aJ)(fl:Bool):RL L0 (aX L nU (az a fl)) nX nU nD R a D:=by
 obtain⟨f,b⟩:=h.u;refine⟨?_,⟨fl,by grind [aC]⟩,?_,λy d e g=>by grind [aC,RL.vB],?_⟩
 .grind [aC,RL.x]
 .grind [aC,RL.d]
 .have:=oC c b (az a fl);have:=h.need;grind [SM]
theorem acL(h:RL L0 L nX nU nD R U D)(c:(L.map (·.1)).Nodup)(i:nX≠nD)(j:nU≠nD)(a:List aJ)(fl:Bool):RL L0 (aX L nD (az a fl)) nX nU nD R U a:=by
 obtain⟨f,b⟩:=h.d;refine⟨?_,?_,⟨fl,by grind [aC]⟩,λy d e g=>by grind [aC,RL.vB],?_⟩
 .grind [aC,RL.x]
 .grind [aC,RL.u]
 .have:=oC c b (az a fl);have:=h.need;grind [SM]
structure RNm(gen:Nat)(nX nU nD:Name):Prop where
 xu:nX≠nU
 xd:nX≠nD
 ud:nU≠nD
 x1:nX≠aF 101 gen
 x2:nX≠aF 114 gen
 u1:nU≠aF 101 gen
 u2:nU≠aF 114 gen
 d1:nD≠aF 101 gen
 d2:nD≠aF 114 gen
theorem gW.SP{w:KX}{v:J3}{vs:List bZ}(h:gW w v vs)(k:∀b,v.ownBlock=IT b->w'.heap[b]? = w.heap[b]?):gW w' v vs:=by obtain⟨a,cap,rfl,f,g,d⟩:=h;refine⟨a,cap,rfl,f,g,d.imp id ?_⟩;rintro⟨b,c,rfl,j⟩;refine⟨b,c,rfl,λi hi=>?_⟩;obtain⟨m,l,n⟩:=j i hi;have e:=k b rfl;grind [World.cell?_of_block]
structure fB(w0 W:KX)(pb db n:Nat)(o:ay)(d:Dsk)(L0 L:aL)(gb gen N ob ib vb:Nat)(es:List aJ)(rb mb g vk done:Nat)(x5:J3)(S:List Nat)(nX nU nD:Name)(xb ub eb:Nat)(wv:J3)(was:List bZ)(R U D:List aJ)(vs:List bZ)(base:Nat):Prop where
 mX:iM w0 W pb db n o d L gb gen N ob ib vb es
 Ol:dV W rb pb gb gen done (.map (IT mb)) x5 (.slice g N vk)
 of:uE w0 W o rb gb ob ib vb
 ch:ir W mb S
 rC:o mb=KK
 rl:RL L0 L nX nU nD R U D
 nm:RNm gen nX nU nD
 sx:aM W xb pb nX 20
 su:aM W ub pb nU 20
 sd:aM W eb pb nD 20
 ox:o xb=KK
 ou:o ub=KK
 od:o eb=KK
 Ra:gW W wv was
 own:∀b,wv.ownBlock=IT b->b<W.heap.size/\o b=KK
 U3:was.length=N
 row:dr W base (.slice g N vk) vs
 len:vs.length=N
 og:o g=KK
 g0:w0.heap.size<=g
 gne:g≠rb/\g≠mb/\g≠gb/\g≠ob/\g≠ib/\g≠vb/\g≠xb/\g≠ub/\g≠eb/\wv.ownBlock≠IT g
section
variable {xb ub eb:Nat}{wv:J3}{was:List bZ}{S:List Nat}
theorem fB.moved(h:fB w0 W pb db n o d L0 L gb gen N ob ib vb es rb mb g vk done x5 S nX nU nD xb ub eb wv was R U D vs base)(a:Moved (λ_=>False) n pb db W o d j o' d' L'){k i l:List aJ}(f:RL L0 L' nX nU nD k i l)(m:need L0+eN k+eN i+eN l<=131072) :
 fB w0 j pb db n o' d' L0 L' gb gen N ob ib vb es rb mb g vk done x5 S nX nU nD xb ub eb wv was k i l vs base where
 mX:=ye h.mX a (by rw[f.vB _ h.nm.x1.symm h.nm.u1.symm h.nm.d1.symm,h.rl.vB _ h.nm.x1.symm h.nm.u1.symm h.nm.d1.symm]) (by rw[f.vB _ h.nm.x2.symm h.nm.u2.symm h.nm.d2.symm,h.rl.vB _ h.nm.x2.symm h.nm.u2.symm h.nm.d2.symm]) (Nm f.need)
 Ol:=h.Ol.moved h.of.free a
 of:=h.of.moved a
 ch:=h.ch.kept (a.block h.ch.lt h.rC (λe=>e))
 rC:=a.free h.ch.lt h.rC
 rl:=f
 nm:=h.nm
 sx:=h.sx.moved a h.ox (λe=>e)
 su:=h.su.moved a h.ou (λe=>e)
 sd:=h.sd.moved a h.od (λe=>e)
 ox:=a.free h.sx.lt h.ox
 ou:=a.free h.su.lt h.ou
 od:=a.free h.sd.lt h.od
 Ra:=h.Ra.SP (λb c=>a.block (h.own b c).1 (h.own b c).2 (λe=>e))
 own:=λb c=>⟨eg (h.own b c).1 a.size,a.free (h.own b c).1 (h.own b c).2⟩
 U3:=h.U3
 row:=a.ownsRow h.row (λb c=>by cases c;grind [og])
 len:=h.len
 og:=a.free (aA h.row g rfl).1 h.og
 g0:=h.g0
 gne:=h.gne
theorem fB.below(h:fB w0 W pb db n o d L0 L gb gen N ob ib vb es rb mb g vk done x5 S nX nU nD xb ub eb wv was R U D vs base)(a:Lg W W j)(b:need L0+eN R+eN U+eN D<=131072) :
 fB w0 j pb db n o d L0 L gb gen N ob ib vb es rb mb g vk done x5 S nX nU nD xb ub eb wv was R U D vs base:=h.moved (Moved.aZ h.mX.held.bh a) h.rl b
theorem fB.set(h:fB w0 W pb db n o d L0 L gb gen N ob ib vb es rb mb g vk done x5 S nX nU nD xb ub eb wv was R U D vs base)(j:Nat)(u:J3)(A:(cz vs).set j u=cz k)(s:k.length=vs.length) :
 fB w0 (W.setCell ⟨g,j,KK⟩ u) pb db n o d L0 L gb gen N ob ib vb es rb mb g vk done x5 S nX nU nD xb ub eb wv was R U D k base:=by
 obtain⟨v,w,r,q,z,p,t,y,x,m⟩:=h.gne;have i:Moved (·=g) n pb db W o d (W.setCell ⟨g,j,KK⟩ u) o d L:=(Moved.refl _ h.mX.held.bh).setCell _ _ h.og (.inl rfl);have c:∀b,b≠g->(W.setCell ⟨g,j,KK⟩ u).heap[b]? = W.heap[b]? := λb f=>e8 _ _ _ _ f;have a:=h.mX.gr;have l:(W.setCell ⟨g,j,KK⟩ u).heap.size=W.heap.size:=ai;exact {
  mX:=⟨h.mX.held.moved i (λ_ e=>e▸h.g0),h.mX.need,⟨a.raw.moved i a.ogb r.symm,a.out.moved i a.Yr q.symm,a.vH.moved i a.oib z.symm,a.wR.moved i a.P9 p.symm,a.ogb,a.Yr,a.oib,a.P9⟩,h.mX.file,h.mX.N0,h.mX.len,h.mX.top,h.mX.ends⟩
  Ol:=(c rb v.symm).trans h.Ol
  of:=⟨h.of.new,by rw[l];exact h.of.lt,h.of.free,h.of.graph⟩
  ch:=h.ch.kept (c mb w.symm)
  rC:=h.rC
  rl:=h.rl
  nm:=h.nm
  sx:=h.sx.kept (c _ t.symm)
  su:=h.su.kept (c _ y.symm)
  sd:=h.sd.kept (c _ x.symm)
  ox:=h.ox
  ou:=h.ou
  od:=h.od
  Ra:=h.Ra.SP (λb f=>c b (λe=>m (e▸f)))
  own:=λb f=>⟨by rw[l];exact(h.own b f).1,(h.own b f).2⟩
  U3:=h.U3
  row:=by grind [World.ownsRow.stored,row,len]
  len:=s.trans h.len
  og:=h.og
  g0:=h.g0
  gne:=h.gne }
end
end
section
variable {w0 w W:KX}{pb db n gb gen N ob ib vb rb mb done g vk base xb ub eb:Nat}{o o':ay}{d d':Dsk}{L0 L L':aL}{es R U D:List aJ}{vs k was:List bZ}{x5 wv:J3}{S:List Nat}{nX nU nD:Name}
def KG(w0 w:KX)(a db n:Nat)(o:ay)(d:Dsk)(q:aL)(h gen N k b s:Nat)(es:List aJ)(u p g f done:Nat)(v:J3)(S:List Nat)(t i m:Name)(c r l:Nat)(j:J3)(was:List bZ)(R U D:List aJ)(vs:List bZ)(base:Nat)(e:Lp)(w':KX):Prop:=
 ∃d' o' L',e=Mk (Kx Mm 0)/\Moved (·=g) n a db w o d w' o' d' L'/\fB w0 w' a db n o' d' q L' h gen N k b s es u p g f done v S t i m c r l j was R U D vs base
theorem fB.put(f:aV)(h:fB w0 W pb db n o d L0 L gb gen N ob ib vb es rb mb g vk done x5 S nX nU nD xb ub eb wv was R U D vs base){A l:List aJ}{v:J3}(a:aM W m pb name 20)(c:o m=KK)(e:aI L name=IT (az A fl))(i:gR W v l)(j:∀b,v.ownBlock=IT b->o b=KK)(k:A.length<=R.length+U.length+D.length)(p:need L0+8*(l.length+R.length+U.length+D.length)<=131072):K1 prog 120 #[ptrTo m,v] W (lH (λ_=>False) n pb db W o d L name (A++l)):=by have:=h.rl.need;have:=jd R;have:=jd U;have:=jd D;exact Oh f h.mX.held a c e i j af af
theorem U4{l:List bZ}{i:Nat}{y:bZ}(h:l[i]? = IT y):l.set i y=l:=by refine p5 λj=>?_;grind
theorem Fh{l:List bZ}{i:Nat}{y:bZ}{f:bZ->bZ}(h:l[i]? = IT y):l.modify i f=l.set i (f y):=by refine p5 λj=>?_;grind
def RdF(w:KX)(o:ay)(v:J3)(l:List aJ):Prop:=gR w v l/\∀b,v.ownBlock=IT b->b<w.heap.size/\o b=KK
theorem RdF.moved{v:J3}{l:List aJ}(h:RdF w o v l)(c:Moved (λ_=>False) n pb db w o d w' o' d' L'):RdF w' o' v l:=
 ⟨h.1.moved c (λb a=>(h.2 b a).2),λb a=>⟨eg (h.2 b a).1 c.size,c.free (h.2 b a).1 (h.2 b a).2⟩⟩
theorem RdF.of{v:J3}{l:List aJ}(h:aG w base v l)(c:∀b,v.ownBlock=IT b->o b=KK):RdF w o v l:=⟨fG h,λb a=>⟨(aA h b a).1,c b a⟩⟩
section
variable {f:Nat}{t:ay}{p:Dsk}{b:Obj}
theorem jA(h:fB w0 W pb db n o d L0 L gb gen N ob ib vb es rb mb g vk done x5 S nX nU nD xb ub eb wv was R U D vs base/\W.heap[f]? = IT b/\o f=KK/\Moved (·=g) n pb db w t p W o d L)(a:Moved (λ_=>False) n pb db W o d j o' d' L'){i c k:List aJ}(l:RL L0 L' nX nU nD i c k)(m:need L0+eN i+eN c+eN k<=131072) :
 fB w0 j pb db n o' d' L0 L' gb gen N ob ib vb es rb mb g vk done x5 S nX nU nD xb ub eb wv was i c k vs base/\j.heap[f]? = IT b/\o' f=KK/\Moved (·=g) n pb db w t p j o' d' L':=
 ⟨h.1.moved a l m,a.heap h.2.1 h.2.2.1 (λe=>e),a.free (ds.1 h.2.1).1 h.2.2.1,h.2.2.2.trans a (λ_ _ e=>e.elim)⟩
theorem C8(h:fB w0 W pb db n o d L0 L gb gen N ob ib vb es rb mb g vk done x5 S nX nU nD xb ub eb wv was R U D vs base/\W.heap[f]? = IT b/\o f=KK/\Moved (·=g) n pb db w t p W o d L)(a:f≠g)(j:Nat)(u:J3)(c:(cz vs).set j u=cz k)(e:k.length=vs.length) :
 fB w0 (W.setCell ⟨g,j,KK⟩ u) pb db n o d L0 L gb gen N ob ib vb es rb mb g vk done x5 S nX nU nD xb ub eb wv was R U D k base/\(W.setCell ⟨g,j,KK⟩ u).heap[f]? = IT b/\o f=KK/\Moved (·=g) n pb db w t p (W.setCell ⟨g,j,KK⟩ u) o d L:=
 ⟨h.1.set j u c e,by grind [e8],h.2.2.1,h.2.2.2.setCell _ _ h.1.og (.inl rfl)⟩
theorem Zx(h:fB w0 W pb db n o d L0 L gb gen N ob ib vb es rb mb g vk done x5 S nX nU nD xb ub eb wv was R U D vs base/\W.heap[f]? = IT b/\o f=KK/\Moved (·=g) n pb db w t p W o d L)(a:f≠g)(j:Nat)(u:J3)(e:(cz vs).set j u=cz k)(i:k.length=vs.length)(l:need L0+eN R+eN U+eN D<=131072) :
 fB w0 (W.setCell ⟨g,j,KK⟩ u).drew pb db n o d L0 L gb gen N ob ib vb es rb mb g vk done x5 S nX nU nD xb ub eb wv was R U D k base/\(W.setCell ⟨g,j,KK⟩ u).drew.heap[f]? = IT b/\o f=KK/\Moved (·=g) n pb db w t p (W.setCell ⟨g,j,KK⟩ u).drew o d L:=
 have c:=C8 h a j u e i;jA c (Moved.aZ c.1.mX.held.bh aq.drew) c.1.rl l
end
end
def vN(vs:List bZ):Nat:=(cH vs Jd).need
structure kg(L L':aL)(gen:Nat)(R U D:List aJ)(vs:List bZ):Prop where
 e:aI L' (aF 101 (gen+1))=IT (az (aH J0 R) Jd)
 r:aI L' (aF 114 (gen+1))=IT (az (aH Jd R) Jd)
 v:aI L' (aF 118 (gen+1))=IT (cH vs Jd)
 u:aI L' (aF 117 (gen+1))=IT (az U Jd)
 d:aI L' (aF 100 (gen+1))=IT (az D Jd)
 vB:∀y,y≠aF 101 (gen+1)->y≠aF 114 (gen+1)->y≠aF 118 (gen+1)->y≠aF 117 (gen+1)->y≠aF 100 (gen+1)->aI L' y=aI L y
 need:need L'<=need L+eN (aH J0 R)+eN (aH Jd R)+vN vs+eN U+eN D
theorem KH(L:aL)(k:Name):need (b9 L k)<=need L:=by have a:=dm L k (.inl (([]:List Pg),Jd));grind [aX,mn]
theorem Zy{L:aL}{k:Name}{f:jV}(a:(L.map (·.1)).Nodup)(h:aI L k=IT f):need (b9 L k)+f.need=need L:=by have:=oC a h (.inl (([]:List Pg),Jd));grind [aX,mn]
theorem vC{L:aL}{gen:Nat}{R:List aJ}{vs:List bZ}{y:Name}(c:y≠aF 101 gen)(b:y≠aF 114 gen)(a:y≠aF 118 gen):aI (iJ L gen R vs) y=aI L y:=by grind [iJ,aC]
theorem Rb{L a:aL}{gen:Nat}{R U D:List aJ}{vs:List bZ}(B:(a.map (·.1)).Nodup)(h:RL L a (aF 120 (gen+1)) (aF 117 (gen+1)) (aF 100 (gen+1)) R U D)(C:aI L (aF 120 (gen+1))=KK) :
 kg L (b9 (aX (aX (iJ a (gen+1) R vs) (aF 117 (gen+1)) (az U Jd)) (aF 100 (gen+1)) (az D Jd)) (aF 120 (gen+1))) gen R U D vs:=by
 have t:∀{c e:UInt8},c≠e->aF c (gen+1)≠aF e (gen+1):=λh=>iI h _ _;obtain⟨G,s,u⟩:=B7 a (gen+1) R vs;have m:∀y,y≠aF 101 (gen+1)->y≠aF 114 (gen+1)->y≠aF 118 (gen+1)->aI (iJ a (gen+1) R vs) y=aI a y:=λy d i g=>vC d i g;have b:((iJ a (gen+1) R vs).map (·.1)).Nodup:=by grind [iJ,cK]
 obtain⟨n,q⟩:=h.x;obtain⟨l,p⟩:=h.u;obtain⟨j,o⟩:=h.d;refine⟨?_,?_,?_,?_,?_,λy d i g r x=>?_,?_⟩
 .grind [cV,aC]
 .grind [cV,aC]
 .grind [cV,aC]
 .grind [cV,aC]
 .grind [cV,aC]
 .grind [cV,aC,RL.vB]
 .have w:=Zy (L:=aX (aX (iJ a (gen+1) R vs) (aF 117 (gen+1)) (az U Jd)) (aF 100 (gen+1)) (az D Jd)) (k:=aF 120 (gen+1)) (f:=az R n) (cK (cK b)) (by grind [aC]);have A:=oC (L:=aX (iJ a (gen+1) R vs) (aF 117 (gen+1)) (az U Jd)) (k:=aF 100 (gen+1)) (f:=az D j) (cK b) (by grind [aC]) (az D Jd);have z:=oC (L:=iJ a (gen+1) R vs) (k:=aF 117 (gen+1)) (f:=az U l) b M2 (az U Jd);have F:=dm (aX (aX a (aF 101 (gen+1)) (az (aH J0 R) Jd)) (aF 114 (gen+1)) (az (aH Jd R) Jd)) (aF 118 (gen+1)) (cH vs Jd);have E:=dm (aX a (aF 101 (gen+1)) (az (aH J0 R) Jd)) (aF 114 (gen+1)) (az (aH Jd R) Jd);have v:=dm a (aF 101 (gen+1)) (az (aH J0 R) Jd);have H:=h.need;grind [vN,SM,iJ]
section
variable {P:Program}{C:KX->Prop}{val:Nat->J3}{Dn:Nat->KX->Prop}{l:List Oper}{a0:Act}
structure uK(C:KX->Prop)(val:Nat->J3)(Dn:Nat->KX->Prop)(l:List Oper)(a0:Act)(listed:Array Bool)(a:Act)(w:KX):Prop where
 size:listed.size=l.length
 cls:C w
 Sj:a.tmps.size=a0.tmps.size
 dfr:a.defers=a0.defers
 out:∀k,(∀o∈l,o.dst≠IT k)->a.tmps[k]? = a0.tmps[k]?
 slot:∀(i:Nat)(o:Oper)(k:Nat),l[i]? = IT o->o.dst=IT k->listed.getD i Jd=Jd->a.tmps[k]? = IT (val i)
 dn:∀i,i<l.length->listed.getD i Jd=Jd->Dn i w
def vD(val:Nat->J3)(l:List Oper)(a0:Act)(o:Oper)(a:Act):Prop:=
 (∀k,(∀o∈l,o.dst≠IT k)->a.tmps[k]? = a0.tmps[k]?)/\∀e∈o.after,Region.binds .any e=Jd->∀(b:Oper)(k:Nat),l[e.on]? = IT b->b.dst=IT k->a.tmps[k]? = IT (val e.on)
theorem vD.get{o:Oper}{a:Act}(h:vD val l a0 o a)(j:Nat){b:Oper}{k:Nat}(c:(o.after.toList.any λe=>decide (e.on=j) && Region.binds .any e)=Jd)(i:l[j]? = IT b)(g:b.dst=IT k):a.tmps[k]? = IT (val j):=by rw[List.any_eq_true]at c;obtain⟨e,m,d⟩:=c;rw[j4,decide_eq_true_eq]at d;obtain⟨rfl,f⟩:=d;exact h.2 e M2 f b k i g
theorem vD.old{o:Oper}{a:Act}(h:vD val l a0 o a)(k:Nat){v:J3}(c:(l.all λo=>decide (o.dst≠IT k))=Jd)(b:a0.tmps[k]? = IT v):a.tmps[k]? = IT v:=by refine(h.1 k λo d=>?_).trans b;grind
def KI(P:Program)(C:KX->Prop)(val:Nat->J3)(b:Nat->KX->Prop)(i:Nat)(o:Oper)(a:Act)(w:KX):Prop:=
 ∃w',((execOp a.eval o).run P w=.ok (.value (val i)) w'\/o.dst=KK/\(execOp a.eval o).run P w=.ok .skip w')/\C w'/\b i w'/\∀j,b j w->b j w'
theorem U5(x:M7 l a0.tmps.size=Jd)(m:∀(i:Nat)(o:Oper),l[i]? = IT o->∀a w,C w->vD val l a0 o a->KI P C val Dn i o a w)(g:∀b a w,uK C val Dn l a0 b a w->Region.ready .any l.toArray b=[]->Q .normal a w)(f:Nat) :
 ∀(b:Array Bool)(a:Act)(w:KX),uK C val Dn l a0 b a w->b.toList.count J0<=f->wpAny P .any l.toArray Q f b a w:=by
 simp only[M7,j4,ms]at x;obtain⟨⟨M,U⟩,H⟩:=x;induction f with
 |zero=>
   intro b a w c B;have y:Region.ready .any l.toArray b=[]:=by
    unfold Region.ready;rw[List.filter_eq_nil_iff];intro i _;have:b.getD i Jd=true:=by rw[iD];grind [List.count_pos_iff]
    grind
   exact⟨y,g _ _ _ c y⟩
 |succ f G=>
   intro b a w c B;refine⟨g _ _ _ c,λi hi=>?_⟩;obtain⟨D,o,E,v⟩:=mem_ready.1 hi;have t:l[i]? = IT o:=M2;have u:o∈l:=cx t;have J:i<l.length:=(e7.1 t).1;have F:Region.wanted o (yielded l.toArray a.tmps)=true:=by grind [Region.wanted]
   obtain⟨w',d,K,O,hK⟩:=m i o t a w c.cls ⟨c.out,λe T S s k r p=>c.slot _ s k r p M2⟩
   have I:∀j,i≠j->(b.setIfInBounds i Jd).getD j Jd=Jd->b.getD j Jd=true:=λj z h=>Nc
   unfold wpOp;rw[E];simp only[F,if_true];refine .inl ?_;have n:wpAny P .any l.toArray Q f (b.setIfInBounds i Jd) (a.put o.dst (val i)) w':=by
    refine G _ _ _ ⟨by grind [uK.size],K,by rw[uy];exact c.Sj,by rw[wG];exact c.dfr,λk p=>(sK _ _ _ _ (p o u)).trans (c.out k p),λj s k r p q=>?_,λj R q=>?_⟩ ?_
    .by_cases z:i=j
     .grind [Act.put,uK.Sj]
     .refine(sK _ _ _ _ (λe=>?_)).trans (c.slot j s k r p (I j z q));have L:=H i (j3.2 J) j (j3.2 (e7.1 r).1);grind
    .grind [uK.dn]
    .have N:b[i]? = IT false:=by rw[iD]at D;grind
     grind
   unfold Oper.wp;rcases d with d |⟨A,d⟩
   .rw[d];exact n
   .rw[d];rw[A]at n;show wpAny P .any l.toArray Q f _ (a.put o.dst undef) w';rw[A];exact n
def alx(l:List Oper):Bool:=(kk l.length).all λi=>match l[i]? with | some o=>o.after.toList.all (λe=>!Region.binds .any e || decide (e.on<i)) | none=>Jd
def Fi(val:Nat->J3):Act->Nat->List Oper->Act
 |a,_,[]=>a
 |a,k,o::l=>Fi val (a.put o.dst (val k)) (k+1) l
theorem U6(l:List Oper):∀(a:Act)(k:Nat),Fi val a k l=jt a l ((List.range' k l.length).map val):=by
 induction l with
 |nil=>intro a k;rfl
 |cons o l b=>grind [Fi,List.range'_succ,jt]
theorem G9{y:Nat}{w:KX}(C:KX->Prop)(val:Nat->J3)(t:Nat->KX->Prop)(q:P.follows .mixedOrders=Jd)(m:M7 l a0.tmps.size=Jd)(g:alx l=Jd)(F:C w.drew)(d:∀(i:Nat)(o:Oper),l[i]? = IT o->∀a w,C w->vD val l a0 o a->KI P C val t i o a w)(r:∀w',C w'->(∀i,i<l.length->t i w')->Q .normal (Fi val a0 0 l) w'):(Code.region y l.toArray Jd).wp P Q a0 w:=by
 refine wp_region_any q ?_;refine U5 m d (λb a w c K=>?_) _ _ _ _ ⟨ai,F,rfl,rfl,λ_ _=>rfl,λi o k h _ x=>?_,λi hi x=>?_⟩ (cp List.count_le_length ai)
 .have f:∀i,i<l.length->b.getD i Jd=true:=by
   intro i;induction i using IF with
   |_ i N=>
     intro hi;by_cases D:b.getD i Jd=Jd
     .exact D
     .exfalso
      have q:i∈Region.ready .any l.toArray b:=by refine mem_ready.2 ⟨M2,l[i],ai,λe v L=>?_⟩;unfold alx at g;rw[ms]at g;have I:=g i (j3.2 hi);grind
      grind
  have M:a=jt a0 l ((kk l.length).map val):=by
   simp only[M7,j4,ms]at m;obtain⟨⟨_,J⟩,z⟩:=m;obtain⟨s,E,O⟩:=qi l a0 ((kk l.length).map val);refine ux (by rw[s,c.Sj]) (by rw[E,c.dfr]) (λk u=>?_);rw[s]at u;by_cases v:∃o∈l,o.dst=IT k
   .obtain⟨o,h,p⟩:=v;obtain⟨i,hi⟩:=hY.1 h;have n:=(e7.1 hi).1;rw[c.slot i o k hi p (f i n)];refine(AX l a0 _ i o k _ hi p M2 u (λj H A B=>?_)).symm;have G:=z j (j3.2 (e7.1 A).1) i (j3.2 n);grind
   grind [uK.out]
  grind [List.range_eq_range',U6,uK.cls,uK.dn]
 .have n:i<l.length:=(e7.1 h).1;simp_all
 simp_all
theorem cO{i:Nat}{o:Oper}{a:Act}{w:KX}(b:C w)(c:Dn i w)(h:(execOp a.eval o).run P w=.ok (.value (val i)) w):KI P C val Dn i o a w:=⟨w,.inl h,b,c,λ_ h=>h⟩
end
section
variable {w0 w W:KX}{pb db n gb gen N ob ib vb rb mb done g vk base xb ub eb:Nat}{o o':ay}{d d':Dsk}{L0 L L':aL}{es R U D:List aJ}{vs k was:List bZ}{x5 wv:J3}{S:List Nat}{nX nU nD:Name}
theorem KJ(HW:aV)(h:fB w0 w pb db n o d L0 L gb gen N ob ib vb es rb mb g vk done x5 S nX nU nD xb ub eb wv was R U D vs base)(i v:Nat)(hv:v<N)(hi:done+i<4294967296)(ZA:gen<1048576)(_hbase:base<=w.heap.size)(sU:(eD es v).length*(aY es v).length<=100000)(hq:need L0+8*(R.length+U.length+D.length+(aY es v).length+(eD es v).length+(eK es S v).length)<=131072):K1 prog 65 #[ptrTo rb,i,Kx Mo v,wv,ptrTo xb,ptrTo ub,ptrTo eb] w
  (KG w0 w pb db n o d L0 gb gen N ob ib vb es rb mb g vk done x5 S nX nU nD xb ub eb wv was (R++eK es S v) (U++aY es v) (D++eD es v) (gq es was done gen vs i v) base):=by
 obtain⟨wa,wk,rfl,-⟩:=h.Ra;have hN:N<=1000:=h.mX.top;obtain⟨V,hV⟩:=ac (h9 v);have ke:V.toNat=v:=by grind [n9]
 have HV:=ae (show V=h9 v/\V.toNat=v from⟨hV,ke⟩);obtain⟨H,pe⟩:∃x:UInt32,x=h9 (done+i):=⟨_,rfl⟩;obtain⟨A,nF⟩:∃x:UInt32,x=h9 (gen+1):=⟨_,rfl⟩;have qr:H.toNat=done+i:=Nc;have pm:A.toNat=gen+1:=by grind [n9]
 have sc:=ae (show H=h9 (done+i)/\A=h9 (gen+1) from⟨pe,nF⟩);have pr:Lk (cf Mo (i:Int)=i/\cf Mo ((done:Int)+i)=H.toNat/\cf Mm ((gen:Int)+1)=(gen+1:Nat)/\((gen:Int)+1)%4294967296=(A.toNat:Int)/\cf Mo ((gen:Int)+1)=A.toNat):=ae ⟨cM _ af af,by grind [cM],by grind [ax],af,by grind [Hz]⟩;have HQ:=ae hq;have sl:=ae sU;have Z:Lk (need L0+eN R+eN U+eN D<=131072):=ae (by grind [jd]);have ZB:=ae hv;obtain⟨pt,pz⟩:=ac (KG w0 w pb db n o d L0 gb gen N ob ib vb es rb mb g vk done x5 S nX nU nD xb ub eb (.slice wa was.length wk) was (R++eK es S v) (U++aY es v) (D++eD es v) (gq es was done gen vs i v) base);have Bj:=ae pz;rw[<- pz];have H1:Lk (fB w0 (w.alloc (Mi #[ptrTo rb] 72)) pb db n o d L0 L gb gen N ob ib vb es rb mb g vk done x5 S nX nU nD xb ub eb (.slice wa was.length wk) was R U D vs base/\(w.alloc (Mi #[ptrTo rb] 72)).heap[w.heap.size]? = IT (Mi #[ptrTo rb] 72)/\o w.heap.size=KK/\w.heap.size≠g):=ae ⟨h.below aj Nd,Lw _ _,h.mX.held.bh.fresh (cg _),λe=>Nm ((aA h.row g rfl).1)⟩;have gy:Lk (Moved (·=g) n pb db w o d (w.alloc (Mi #[ptrTo rb] 72)) o d L):=ae ((Moved.refl _ h.mX.held.bh).alloc _);have c1:=h.Ol.cells.2.1;have FH:=h.Ol.lt;clear h hq sU hN _hbase hv pz hV ke pe nF qr pm hi ZA;unfold ptrTo at *;go_enter func65,ntmps65;go_wp2_with fail;clear c1 FH;have ko:Lk (fB w0 (w.alloc (Mi #[.pointer rb] 72)) pb db n o d L0 L gb gen N ob ib vb es rb mb g vk done x5 S nX nU nD xb ub eb (.slice wa was.length wk) was R U D vs base/\(w.alloc (Mi #[.pointer rb] 72)).heap[w.heap.size]? = IT (Mi #[.pointer rb] 72)/\o w.heap.size=KK/\Moved (·=g) n pb db w o d (w.alloc (Mi #[.pointer rb] 72)) o d L):=ae ⟨H1.out.1,H1.out.2.1,H1.out.2.2.1,gy.out⟩;have Q:Lk (w.heap.size≠g):=ae H1.out.2.2.2;clear H1 gy;generalize w.alloc (Mi #[.pointer rb] 72)=W1 at *;obtain⟨f,i8⟩:=ac w.heap.size;rw[<- i8]at ko Q ⊢;clear i8;have X:=ae (ko.out.1.mX.out HW ZB.out);unfold lB ptrTo at X;go_call X.out as e w2⟨ov,d2,o2,rfl,dA,mK,hf2⟩;obtain⟨oa,oc,rfl⟩:=aw mK;have fP:=ae (jA ko.out dA ko.out.1.rl Z.out);have li:=ae (RdF.of mK hf2);have kh:=ae (fP.out.1.mX.vH HW ZB.out);have c0:w2.cell? f=IT (.pointer rb):=by rw[au fP.out.2.1];rfl
 have c1:w2.cell? ⟨rb,1,KK⟩=IT (.pointer gb):=fP.out.1.Ol.cells.2.1;unfold lB ptrTo at kh;clear dA mK hf2 X ko;go_wp2_with fail;go_call kh.out as e w3⟨iv,d3,o3,rfl,fD,hi3,hf3⟩;obtain⟨ia,ic,rfl⟩:=aw hi3;have gV:=ae (jA fP.out fD fP.out.1.rl Z.out);have m8:=ae (li.out.moved fD);have i6:=ae (RdF.of hi3 hf3);clear fD hi3 hf3 kh fP li c0 c1;have F:Lk (∀w',Lg w3 w3 w'->w'.cell? f=IT (.pointer rb)/\w'.cell? ⟨rb,1,KK⟩=IT (.pointer gb)):=ae (λw' B=>by have T:=jA gV.out (Moved.aZ gV.out.1.mX.held.bh B) gV.out.1.rl Z.out;exact⟨by rw[au T.2.1];rfl,T.1.Ol.cells.2.1⟩)
 go_wp2_with fail;refine cW (Lg w3 w3) 12 rfl ah ah (aq.drew) ?_;simp only[ii,j2];refine qz ?_ (λw' B=>by obtain⟨f0,f1⟩:=F.out w' B;go_simp<;>rfl);iterate 2 (refine qz ?_)
 refine qz ?_ (λw' B=>by obtain⟨f0,f1⟩:=F.out w' B;go_simp<;>rfl);refine qz ?_;refine qz ?_ (λw' B=>by obtain⟨f0,f1⟩:=F.out w' B;go_simp<;>rfl);iterate 2 (refine qz ?_)
 refine qz ?_ (λw' B=>by obtain⟨f0,f1⟩:=F.out w' B;go_simp<;>rfl);iterate 3 (refine qz ?_)
 refine wpQuiet_nil ?_;intro w4 aE;refine⟨_,_,rfl,(by go_simp<;>exact⟨rfl,rfl⟩),?_⟩;have jh:=ae (jA gV.out (Moved.aZ gV.out.1.mX.held.bh aE) gV.out.1.rl Z.out);have ks:=ae (m8.out.moved (Moved.aZ (n:=n) gV.out.1.mX.held.bh aE));have i7:=ae (i6.out.moved (Moved.aZ (n:=n) gV.out.1.mX.held.bh aE));have tX:=ae (wZ HW jh.out.1.mX (Zv jh.out.2.1 jh.out.1.Ol jh.out.1.ch jh.out.2.2.1 jh.out.1.of.free jh.out.1.rC) V Xy Xy);have lw:ju (aY es) (λx=>decide (x∈S)) (eD es v) V=eK es S v:=by grind [eK,Hid.out]
 rw[HV.out.2,lw]at tX;unfold zH zG Kt ptrTo at tX;clear aE F gV m8 i6 lw;go_call tX.out as e w5⟨cv,d5,o5,rfl,oq,tK,VT⟩;have cE:=ae (jA jh.out oq jh.out.1.rl Z.out);have du:=ae (ks.out.moved oq);have io:=ae (i7.out.moved oq);have mm:Lk (RdF w5 o5 cv (eK es S v)):=ae ⟨tK,λb O=>⟨(VT b O).2.2,(VT b O).1⟩⟩;obtain⟨ca,cc,rfl,-⟩:=tK;clear oq VT tX jh ks i7;refine⟨_,rfl,?_⟩;go_simp;iterate 5 (refine qz ?_)
 refine wpQuiet_nil ?_;obtain⟨fu,oE⟩:=cE.out.1.rl.u;have en:=ae (cE.out.1.put HW cE.out.1.su cE.out.1.ou oE du.out.1 (λb O=>(du.out.2 b O).2) af Xy);unfold lH ptrTo at en;clear oE;go_wp2_with fail;go_call en.out as e w6⟨f6,d6,o6,rfl,q9⟩;have iF:=ae (jA cE.out q9 (acK cE.out.1.rl cE.out.1.mX.held.bh.keys cE.out.1.nm.xu cE.out.1.nm.ud (U++aY es v) f6) (by grind [Hid.out,jd]));have dq:=ae (io.out.moved q9);have kl:=ae (mm.out.moved q9);clear q9 en cE du io mm;obtain⟨fd,gx⟩:=iF.out.1.rl.d;have ff:=ae (iF.out.1.put HW iF.out.1.sd iF.out.1.od gx dq.out.1 (λb O=>(dq.out.2 b O).2) af Xy);unfold lH ptrTo at ff;clear gx;go_wp2_with fail;go_call ff.out as e w7⟨f7,d7,o7,rfl,yC⟩;have lL:=ae (jA iF.out yC (acL iF.out.1.rl iF.out.1.mX.held.bh.keys iF.out.1.nm.xd iF.out.1.nm.ud (D++eD es v) f7) (by grind [Hid.out,jd]));have el:=ae (kl.out.moved yC);clear yC ff iF dq kl;obtain⟨fx,mT⟩:=lL.out.1.rl.x;have fI:=ae (lL.out.1.put HW lL.out.1.sx lL.out.1.ox mT el.out.1 (λb O=>(el.out.2 b O).2) af Xy);unfold lH ptrTo at fI;clear mT;go_wp2_with fail;go_call fI.out as e w8⟨f8,d8,o8,rfl,Sc⟩;have de:Lk (need L0+eN (R++eK es S v)+eN (U++aY es v)+eN (D++eD es v)<=131072):=ae (by grind [Hid.out,jd]);have lJ:=ae (jA lL.out Sc (SN lL.out.1.rl lL.out.1.mX.held.bh.keys lL.out.1.nm.xu lL.out.1.nm.xd (R++eK es S v) f8) de.out);clear Sc fI lL el;generalize aX (aX (aX L nU (az (U++aY es v) f6)) nD (az (D++eD es v) f7)) nX (az (R++eK es S v) f8)=M at *;generalize R++eK es S v=R8 at *;generalize U++aY es v=U8 at *;generalize D++eD es v=D8 at *;obtain⟨y,hy⟩:∃y,vs[v]? = IT y:=⟨_,bk (No ZB.out lJ.out.1.len)⟩;have HY:=ae hy;obtain⟨E,pE⟩:=ac (v*3);have QZ:=ae pE;obtain⟨n1,-⟩:=lJ.out.1.gne;have n2:=Q.out;have ph:=ZB.out;clear hy pE;obtain⟨C,hC⟩:∃C:KX->Prop,C=λW=>∃r l,(fB w0 W pb db n o8 d8 L0 M gb gen N ob ib vb es rb mb g vk done x5 S nX nU nD xb ub eb (.slice wa was.length wk) was R8 U8 D8 (vs.set v ⟨r,l,y.g⟩) base/\W.heap[f]? = IT (Mi #[.pointer rb] 72)/\o8 f=KK/\Moved (·=g) n pb db w o d W o8 d8 M):=⟨_,rfl⟩;have HC:=ae hC;have F:Lk (∀W,C W->W.cell? f=IT (.pointer rb)/\W.cell? ⟨rb,2,KK⟩=gen/\W.cell? ⟨rb,3,KK⟩=IT (Kx Mo done)/\W.cell? ⟨rb,6,KK⟩=IT (.slice (IT ⟨g,0,KK⟩) N vk)):=ae (λW hw=>by rw[HC.out]at hw;obtain⟨r,l,T⟩:=hw;obtain⟨-,-,h2,h3,-,-,h6,-⟩:=T.1.Ol.cells;exact⟨by rw[au T.2.1];rfl,h2,h3,h6⟩)
 have gt:Lk (v<vs.length):=ae (aK HY.out);have G:Lk (∀W,C W->(∃r l,W.cell? ⟨g,E,KK⟩=IT (Kx Mo ((r:UInt32).toNat:Int))/\W.cell? ⟨g,E+1,KK⟩=IT (Kx Mo ((l:UInt32).toNat:Int))/\fB w0 W pb db n o8 d8 L0 M gb gen N ob ib vb es rb mb g vk done x5 S nX nU nD xb ub eb (.slice wa was.length wk) was R8 U8 D8 (vs.set v ⟨r,l,y.g⟩) base/\W.heap[f]? = IT (Mi #[.pointer rb] 72)/\o8 f=KK/\Moved (·=g) n pb db w o d W o8 d8 M)/\W.frozen? ⟨g,E,KK⟩=J0/\W.frozen? ⟨g,E+1,KK⟩=J0):=ae (λW hw=>by rw[HC.out]at hw;obtain⟨r,l,T⟩:=hw;have m:=T.1.row;rw[<- T.1.len]at m;obtain⟨q0,q1,-⟩:=eY m (F4 gt.out);grind [Hid.out,World.ownsRow.frozenAt])
 have ST:Lk (∀W,C W->C (W.setCell ⟨g,E,KK⟩ H)/\C (W.setCell ⟨g,E+1,KK⟩ A)):=ae (λW hw=>by rw[HC.out]at hw ⊢;obtain⟨r,l,T⟩:=hw;have hg:=F4 (a:=⟨r,l,y.g⟩) gt.out;have Y:=C8 T Q.out E H (by rw[QZ.out];exact Ch H hg) ai;have h2:=C8 T Q.out (E+1) A (by rw[QZ.out];exact qy A hg) ai;grind [List.set_set])
 have nl:Lk (C w8.drew):=ae (by have Y:=jA lJ.out (Moved.aZ lJ.out.1.mX.held.bh aq.drew) lJ.out.1.rl de.out;rw[HC.out];refine⟨y.r,y.l,?_⟩;rw[show vs.set v ⟨y.r,y.l,y.g⟩=vs from U4 HY.out];exact Y)
 have QE:Lk (∀W,C W->W.cell? ⟨g,E,KK⟩=H->W.cell? ⟨g,E+1,KK⟩=A->(fB w0 W pb db n o8 d8 L0 M gb gen N ob ib vb es rb mb g vk done x5 S nX nU nD xb ub eb (.slice wa was.length wk) was R8 U8 D8 (vs.modify v λx=>⟨H,A,x.g⟩) base/\W.heap[f]? = IT (Mi #[.pointer rb] 72)/\o8 f=KK/\Moved (·=g) n pb db w o d W o8 d8 M)):=ae (λW hw Y h2=>by obtain⟨⟨r,l,q0,q1,T⟩,-⟩:=G.out W hw;rw[Y]at q0;rw[h2]at q1;have e1:r=H:=Cx.1 M2;have e2:l=A:=Cx.1 M2;grind [Fh,Hid.out])
 obtain⟨z1,z2,z3,z4,z5⟩:=pr.out;clear hC lJ HY;go_wp2_with fail;refine G9 C (λq=>match q with
  |0=>.pointer rb | 1=>.pointer rb | 2=>.pointer (IT ⟨rb,6,KK⟩) | 3=>.slice (IT ⟨g,0,KK⟩) N vk | 4=>Kx Mo v
  |5=>.pointer rb | 6=>.pointer rb | 7=>.pointer (IT ⟨rb,6,KK⟩) | 8=>.slice (IT ⟨g,0,KK⟩) N vk | 9=>Kx Mo v
  |10=>.pointer rb | 11=>.pointer rb | 12=>.pointer (IT ⟨rb,3,KK⟩) | 13=>Kx Mo done | 14=>i | 15=>Kx Mo i | 16=>H
  |17=>.pointer rb | 18=>.pointer rb | 19=>.pointer (IT ⟨rb,2,KK⟩) | 20=>gen | 21=>Kx Mm ((gen:Int)+1) | 22=>A
  |23=>.pointer (IT ⟨g,E,KK⟩) | 24=>.pointer (IT ⟨g,E,KK⟩) | 26=>.pointer (IT ⟨g,E,KK⟩) | 27=>.pointer (IT ⟨g,E+1,KK⟩) | _=>undef)
  (λq W=>match q with | 25=>W.cell? ⟨g,E,KK⟩=H | 28=>W.cell? ⟨g,E+1,KK⟩=A | _=>True) (by rfl) (by rfl) (by rfl) nl.out ?_ ?_
 .intro j t c a W u s;obtain⟨f0,f2,f3,f6⟩:=F.out W u;obtain⟨⟨r,l,g0,g1,-⟩,tg,jj⟩:=G.out W u;match j,c with
  |0,c=>cases c;have h7:=s.old 7 rfl rfl;exact cO u trivial (by go_simp)
  |1,c=>cases c;have d0:=s.get 0 rfl rfl rfl;exact cO u trivial (by go_simp)
  |2,c=>cases c;have d1:=s.get 1 rfl rfl rfl;exact cO u trivial (by go_simp)
  |3,c=>cases c;have d2:=s.get 2 rfl rfl rfl;exact cO u trivial (by go_simp)
  |4,c=>cases c;have h2:=s.old 2 rfl rfl;exact cO u trivial (by go_simp)
  |5,c=>cases c;have h7:=s.old 7 rfl rfl;exact cO u trivial (by go_simp)
  |6,c=>cases c;have d5:=s.get 5 rfl rfl rfl;exact cO u trivial (by go_simp)
  |7,c=>cases c;have d6:=s.get 6 rfl rfl rfl;exact cO u trivial (by go_simp)
  |8,c=>cases c;have d7:=s.get 7 rfl rfl rfl;exact cO u trivial (by go_simp)
  |9,c=>cases c;have h2:=s.old 2 rfl rfl;exact cO u trivial (by go_simp)
  |10,c=>cases c;have h7:=s.old 7 rfl rfl;exact cO u trivial (by go_simp)
  |11,c=>cases c;have tm:=s.get 10 rfl rfl rfl;exact cO u trivial (by go_simp)
  |12,c=>cases c;have tz:=s.get 11 rfl rfl rfl;exact cO u trivial (by go_simp)
  |13,c=>cases c;have I:=s.get 12 rfl rfl rfl;exact cO u trivial (by go_simp)
  |14,c=>cases c;have Y:=s.old 1 rfl rfl;exact cO u trivial (by go_simp)
  |15,c=>cases c;have tr:=s.get 14 rfl rfl rfl;exact cO u trivial (by go_simp)
  |16,c=>cases c;have rx:=s.get 13 rfl rfl rfl;have ul:=s.get 15 rfl rfl rfl;exact cO u trivial (by go_simp)
  |17,c=>cases c;have h7:=s.old 7 rfl rfl;exact cO u trivial (by go_simp)
  |18,c=>cases c;have ut:=s.get 17 rfl rfl rfl;exact cO u trivial (by go_simp)
  |19,c=>cases c;have sn:=s.get 18 rfl rfl rfl;exact cO u trivial (by go_simp)
  |20,c=>cases c;have te:=s.get 19 rfl rfl rfl;exact cO u trivial (by go_simp)
  |21,c=>cases c;have vm:=s.get 20 rfl rfl rfl;exact cO u trivial (by go_simp)
  |22,c=>cases c;have tp:=s.get 21 rfl rfl rfl;exact cO u trivial (by go_simp)
  |23,c=>cases c;have e:=QZ.out.symm;have d3:=s.get 3 rfl rfl rfl;have d4:=s.get 4 rfl rfl rfl;exact cO u trivial (by go_simp)
  |24,c=>cases c;have th:=s.get 23 rfl rfl rfl;exact cO u trivial (by go_simp)
  |25,c=>
    cases c;have wd:=s.get 24 rfl rfl rfl;have tw:=s.get 16 rfl rfl rfl;refine⟨W.setCell ⟨g,E,KK⟩ H,.inr ⟨rfl,by go_simp⟩,(ST.out W u).1,(by dsimp only;go_simp),λj hj=>?_⟩
    dsimp only at hj ⊢;split
    .go_simp
    .clear g0 g1;go_simp;exact hj
    simp
  |26,c=>cases c;have e:=QZ.out.symm;have d8:=s.get 8 rfl rfl rfl;have d9:=s.get 9 rfl rfl rfl;exact cO u trivial (by go_simp)
  |27,c=>cases c;have tf:=s.get 26 rfl rfl rfl;exact cO u trivial (by go_simp)
  |28,c=>
    cases c;have ti:=s.get 27 rfl rfl rfl;have tc:=s.get 22 rfl rfl rfl;refine⟨W.setCell ⟨g,E+1,KK⟩ A,.inr ⟨rfl,by go_simp⟩,(ST.out W u).2,(by dsimp only;go_simp),λj hj=>?_⟩
    dsimp only at hj ⊢;split
    .clear g0 g1;go_simp;exact hj
    .go_simp
    simp
  |_+29,c=>cases c
 .intro W9 lE hD;have EY:=ae (QE.out W9 lE (hD 25 ag) (hD 28 ag));clear lE hD QE nl ST G F HC gt n1 n2 ph z1 z2 z3 z4 z5;simp only[Fi];go_simp;have c0:W9.cell? f=IT (.pointer rb):=by rw[au EY.out.2.1];rfl
  have U7:=ae (N5 HW EY.out.1.mX v ZB.out EY.out.1.Ol rfl EY.out.1.of.free);unfold E0 ptrTo at U7;go_wp2_with fail;go_call U7.out as e w12⟨nv,I,VZ,rfl,ZC,ahd,ar4⟩;obtain⟨na,nk,rfl⟩:=aw ahd;have Bb:=ae (jA EY.out ZC EY.out.1.rl de.out);obtain⟨K,hK⟩:=ac ((dD es v).length);have JV:Lk (K=(dD es v).length/\K<2147483648):=ae ⟨hK,by grind [zI,qx,Hid.out]⟩;have fm:Lk (aT w12 W9.heap.size (.slice na K nk) (dD es v)/\∀b,(fz na K nk).ownBlock=IT b->b≠g):=ae ⟨M2,λb O e=>by have Y:=aD ahd b M2;have h2:=(aA EY.out.1.row g rfl).1;omega⟩
  rw[<- hK];clear ZC ahd ar4 U7 EY c0 hK;obtain⟨zv,mw⟩:∃z,was[v]? = IT z:=⟨_,bk (No ZB.out Bb.out.1.U3)⟩;have gE:=ae mw;clear mw;obtain⟨lv,mu⟩:=ac (zv.l+1);have pu:=ae mu;clear mu;have CJ:Lk ((fB w0 w12 pb db n VZ I L0 M gb gen N ob ib vb es rb mb g vk done x5 S nX nU nD xb ub eb (.slice wa was.length wk) was R8 U8 D8 (((dD es v).take 0).foldl (eX lv) (vs.modify v λx=>⟨H,A,x.g⟩)) base/\w12.heap[f]? = IT (Mi #[.pointer rb] 72)/\VZ f=KK/\Moved (·=g) n pb db w o d w12 VZ I M)/\aT w12 W9.heap.size (.slice na K nk) (dD es v)):=ae ⟨Bb.out,fm.out.1⟩;clear Bb;generalize W9.heap.size=bn at *;go_wp2_with fail;go_loopw [125] (λvi wr=>∃k:Nat,vi=k/\k<=K/\Lk ((fB w0 wr pb db n VZ I L0 M gb gen N ob ib vb es rb mb g vk done x5 S nX nU nD xb ub eb (.slice wa was.length wk) was R8 U8 D8 (((dD es v).take k).foldl (eX lv) (vs.modify v λx=>⟨H,A,x.g⟩)) base/\wr.heap[f]? = IT (Mi #[.pointer rb] 72)/\VZ f=KK/\Moved (·=g) n pb db w o d wr VZ I M)/\aT wr bn (.slice na K nk) (dD es v))) (λvi _=>K-(Lo vi).toNat)
  case atStart=>grind
  case round=>
   obtain⟨k,rfl,hk,P⟩:=hrel;clear CJ;generalize wr=bd at *;by_cases wn:k<K
   .have CX:(k:Int)<K:=af;have mh:cf Mm ((k:Int)+1)=(k+1:Nat):=by grind [Hid.out,ax]
    obtain⟨y0,dl⟩:∃y,(dD es v)[k]? = IT y:=⟨_,bk Xy⟩;have rt:y0<N:=KD P.out.1.1.mX.ends y0 (cx dl);have nT:Lk (((dD es v).take (k+1)).foldl (eX lv) (vs.modify v λx=>⟨H,A,x.g⟩)=eX lv (((dD es v).take k).foldl (eX lv) (vs.modify v λx=>⟨H,A,x.g⟩)) y0):=ae (by grind [fh])
    generalize ((dD es v).take k).foldl (eX lv) (vs.modify v λx=>⟨H,A,x.g⟩)=al at *;obtain⟨J,ci⟩:∃x,al[y0]? = IT x:=⟨_,bk (Nm P.out.1.1.len)⟩;have CZ:=ae ci;obtain⟨ng,rfl⟩:∃g,na=IT ⟨g,0,KK⟩:=by
     obtain⟨-,⟨Y,h2⟩|⟨g,_,_,Y,_⟩⟩:=P.out.2
     .grind
     grind
    have U7:=P.out.2;rw[JV.out.1]at U7;have q0:=iT (l:=dD es v) U7 dl;have m:=P.out.1.1.row;rw[<- P.out.1.1.len]at m;obtain⟨r0,r1,r2⟩:=eY m ci;obtain⟨yy,am⟩:∃p,y0*3=p:=⟨_,rfl⟩;have rm:=World.ownsRow.frozenAt m (yy+2);rw[am]at r0 r1 r2;have c0:bd.cell? f=IT (.pointer rb):=by rw[au P.out.1.2.1];rfl
    obtain⟨-,-,-,-,-,-,c6,-⟩:=P.out.1.1.Ol.cells;obtain⟨gg,mx⟩:=ac (J.g+1);have zg:((J.g.toNat:Int)+1)%4294967296=(gg.toNat:Int):=Nc;have lP:=ae mx;clear mx;have ZE:=ae (C8 P.out.1 Q.out (yy+2) gg (by rw[<- am];exact qA gg ci) ai);have ld:Lk (aT (bd.setCell ⟨g,yy+2,KK⟩ gg) bn (.slice ng K nk) (dD es v)):=ae (bg P.out.2 (λb O=>e8 _ _ _ _ (fm.out.2 b O)));clear U7 m dl ci P;go_wp2_with fail;clear q0 r0 r1 r2 rm c0 c6 zg;generalize bd.setCell ⟨g,yy+2,KK⟩ gg=eS at *;have ee:(al.set y0 ⟨J.r,J.l,gg⟩)[y0]? = IT ⟨J.r,J.l,gg⟩:=F4 (aK CZ.out);have m:=ZE.out.1.row;rw[<- ZE.out.1.len]at m;obtain⟨-,r1,-⟩:=eY m ee;rw[am]at r1;have jj:=World.ownsRow.frozenAt m (yy+1);obtain⟨qS,mh,qe,-,-,nn⟩:=ZE.out.1.Ra;obtain⟨rfl,-,rfl⟩:wa=qS/\was.length=was.length/\wk=mh:=Nc
    have me:v<was.length:=aK gE.out;obtain⟨wb,wo,rfl,ol⟩:=nn.resolve_left af;obtain⟨-,s1,-⟩:=ol v me;have ez:was[v]=zv:=(e7.1 gE.out).2;rw[ez]at s1;obtain⟨lm,iS⟩:=ac (if J.l<lv then lv else J.l);have zl:((zv.l.toNat:Int)+1)%4294967296=(lv.toNat:Int):=by have:=uJ zv.l;rw[pu.out];rfl
    have qt:=ae (Zx ZE.out Q.out (yy+1) lm (by rw[<- am];exact qy lm ee) ai de.out);have oR:Lk (aT (eS.setCell ⟨g,yy+1,KK⟩ lm).drew bn (.slice ng K nk) (dD es v)):=ae (bg ld.out (λb O=>by show(eS.setCell ⟨g,yy+1,KK⟩ lm).heap[b]? = _;exact e8 _ _ _ _ (fm.out.2 b O)))
    have co:=ae iS;clear m ee qe nn ol ez iS ZE ld;have oS:Lk (eX lv al y0=(al.set y0 ⟨J.r,J.l,gg⟩).set y0 ⟨J.r,lm,gg⟩):=ae (by unfold eX;rw[Fh CZ.out,List.set_set,co.out,lP.out])
    by_cases Px:J.l<lv;case' pos=>
     have kw:(J.l.toNat:Int)<lv.toNat:=Nm (F2.1 Px);have kd:max (J.l.toNat:Int) (lv.toNat:Int)=lm.toNat:=by rw[co.out,if_pos Px];omega
    case' neg=>
     have kw:¬(J.l.toNat:Int)<lv.toNat:=Nm (mt F2.2 Px);have kd:max (J.l.toNat:Int) (lv.toNat:Int)=lm.toNat:=by rw[co.out,if_neg Px];omega
    all_goals
     clear Px;go_wp2_with fail;go_big_region
     clear r1 jj s1 zl kw kd me;generalize (eS.setCell ⟨g,yy+1,KK⟩ lm).drew=ce at *;have ue:Lk ((fB w0 ce pb db n VZ I L0 M gb gen N ob ib vb es rb mb g vk done x5 S nX nU nD xb ub eb (.slice (IT ⟨wb,wo,KK⟩) was.length wk) was R8 U8 D8 (((dD es v).take (k+1)).foldl (eX lv) (vs.modify v λx=>⟨H,A,x.g⟩)) base/\ce.heap[f]? = IT (Mi #[.pointer rb] 72)/\VZ f=KK/\Moved (·=g) n pb db w o d ce VZ I M)/\aT ce bn (.slice ng K nk) (dD es v)):=ae ⟨by rw[nT.out,oS.out];assumption,oR.out⟩;clear qt oR nT oS co lP;go_wp2;grind [Lo]
   .have CX:¬(k:Int)<K:=af;have sC:Lk (pt (Mk (Kx Mm 0)) bd):=ae (by have Y:=P.out.1;rw[ey Xy]at Y;rw[Bj.out];refine⟨I,VZ,M,rfl,Y.2.2.2,?_⟩;grind [gq,Hid.out])
    clear P;go_wp2;assumption
end
section
variable {w0 w W:KX}{pb db n gb gen N ob ib vb rb mb done g vk base SQ:Nat}{o o':ay}{d d':Dsk}{L L':aL}{es:List aJ}{was:List bZ}{ov:J3}{S ch:List Nat}
def Bk(w:KX)(a db n:Nat)(o:ay)(d:Dsk)(L:aL)(g gen:Nat)(R U D:List aJ)(vs:List bZ)(e:Lp)(w':KX):Prop:=
 ∃d' o' L',e=Mk (Kx Mm 0)/\Moved (·=g) n a db w o d w' o' d' L'/\kg L L' gen R U D vs
theorem Fj(es:List aJ)(h:∀z,z∈S↔z∈ch):fe es S=fe es ch:=by grind [fe]
theorem IU(es:List aJ)(v:Nat)(h:∀z,z∈S↔z∈ch):eK es S v=eK es ch v:=by grind [eK]
structure SR(w0 w:KX)(pb db n:Nat)(o:ay)(d:Dsk)(L:aL)(gb gen N ob ib vb:Nat)(es:List aJ)(rb mb g vk done:Nat)(ov:J3)(S ch:List Nat)(was:List bZ)(base SQ:Nat):Prop where
 mX:iM w0 w pb db n o d L gb gen N ob ib vb es
 Ol:dV w rb pb gb gen done (.map (IT mb)) ov (.slice g N vk)
 of:uE w0 w o rb gb ob ib vb
 cho:ir w mb S
 rC:o mb=KK
 ord:aT w SQ ov ch
 ar9:∀b,ov.ownBlock=IT b->o b=KK
 row:dr w base (.slice g N vk) was
 len:was.length=N
 og:o g=KK
 rg:rb<g
 gm:g<mb
 go:∀b,ov.ownBlock=IT b->g<b
 same:∀z,z∈S↔z∈ch
 low:∀v∈ch,v<N
 ne:ch≠[]
theorem ZF{c a b:Name}(i:c≠a)(h:c≠b)(f:a≠b):RL L (aX (aX (aX L c (az [] Jd)) a (az [] Jd)) b (az [] Jd)) c a b [] [] []:=by
 refine⟨⟨Jd,?_⟩,⟨Jd,?_⟩,⟨Jd,?_⟩,λy j g d=>?_,?_⟩
 .grind [aC]
 .grind [aC]
 .grind [aC]
 .grind [aC]
 .have e:(az [] Jd).need=0:=rfl;grind [dm]
theorem KL{a b:Type}(l:List a)(f:a->List b)(k:Nat):((l.take k).flatMap f).length<=(l.flatMap f).length:=by grind [Do]
theorem ZG{l:List Nat}{k y:Nat}(h:l[k]? = IT y):(l.take (k+1)).zipIdx=(l.take k).zipIdx++[(y,k)]:=by grind [fh]
theorem gW.lt{v:J3}{vs:List bZ}(h:gW w v vs)(f:vs.length≠0):∀b,v.ownBlock=IT b->b<w.heap.size:=by
 obtain⟨a,cap,rfl,-,-,h |⟨b,e,rfl,d⟩⟩:=h
 .omega
 .intro x c;cases c;exact jK _ _ (d 0 af).1
theorem Fk(HW:aV){m:Nat}(CB:eW m)(hn:8<=n)(h:SR w0 w pb db n o d L gb gen N ob ib vb es rb mb g vk done ov S ch was base SQ)(ZA:gen+1<100)(iG:∀c,aI L (aF c (gen+1))=KK)(F9:∀k,aI L (eu k)=KK)(hm:(gB es ch).length<=m)(hq:need L+24*((gB es ch).length+(rh es ch).length+(dU es ch).length)+8*es.length+4*N+8<=131072)(I:done+ch.length<4294967296)(sU:∀v,v<N->(eD es v).length*(aY es v).length<=100000):K1 prog 25 #[ptrTo rb] w (Bk w pb db n o d L g gen (gB es ch) (rh es ch) (dU es ch) (dE es was done gen ch)):=by
 have H:=ae h;have FK:Lk (gen+1<100):=ae ZA;have HF:=ae iG;have gE:=ae F9;have fI:=ae hm;have HQ:=ae hq;have UH:=ae I;have el:=ae sU;have ne:∀{c c':UInt8},c≠c'->aF c (gen+1)≠aF c' (gen+1):=λh=>iI h _ _;have ng:∀(c c':UInt8),aF c (gen+1)≠aF c' gen:=λc c'=>bG af;have j:Lk (RNm gen (aF 120 (gen+1)) (aF 117 (gen+1)) (aF 100 (gen+1))):=ae ⟨ne ag,ne ag,ne ag,ng _ _,ng _ _,ng _ _,ng _ _,ng _ _,ng _ _⟩;have T:Lk (∀c:UInt8,kX c=Jd->b6 (aF c (gen+1))=Jd):=ae (λc hc=>ly c hc af);have Me:Lk (∀(c:UInt8)W,K1 prog 43 #[Kx MM (c.toNat:Int),(gen+1:Nat)] W λe w'=>e=Mk (.string (aF c (gen+1)))/\Lg W W w'):=ae (λc W=>eP c (gen+1) (o:=λ_=>GT) (.inl ZA));have wg:cf Mm ((gen:Int)+1)=(gen+1:Nat):=by grind [ax]
 have t:Lk (∀W o' d' L',Moved (λ_=>False) n pb db w o d W o' d' L'->Held w0 W pb db n o' d' L'/\dV W rb pb gb gen done (.map (IT mb)) ov (.slice (IT ⟨g,0,KK⟩) N vk)/\o' rb=KK):=ae (λW o' d' L' i=>⟨h.mX.held.moved i (λ_ e=>e.elim),h.Ol.moved h.of.free i,i.free h.of.lt h.of.free⟩);obtain⟨ke,pz⟩:=ac (Bk w pb db n o d L g gen (gB es ch) (rh es ch) (dU es ch) (dE es was done gen ch));have Bj:=ae pz;rw[<- pz];obtain⟨c0,-,c2,-⟩:=h.Ol.cells;clear h ZA iG F9 hm hq I sU pz ne ng;obtain⟨nX,hX⟩:=ac (aF 120 (gen+1));obtain⟨nU,hU⟩:=ac (aF 117 (gen+1));obtain⟨nD,hD⟩:=ac (aF 100 (gen+1));have q:=ae (show nX=aF 120 (gen+1)/\nU=aF 117 (gen+1)/\nD=aF 100 (gen+1) from⟨hX,hU,hD⟩);rw[<- hX,<- hU,<- hD]at j;have OZ:Lk (b6 nX=Jd/\b6 nU=Jd/\b6 nD=Jd):=ae ⟨by rw[hX];exact T.out 120 ag,by rw[hU];exact T.out 117 ag,by rw[hD];exact T.out 100 ag⟩;have K:Lk (aI L nX=KK/\aI L nU=KK/\aI L nD=KK):=ae ⟨Xy,Xy,Xy⟩;have tQ:=ae (Me.out 120);have VM:=ae (Me.out 117);have dl:=ae (Me.out 100);rw[<- hX]at tQ;rw[<- hU]at VM;rw[<- hD]at dl;clear hX hU hD Me T;unfold ptrTo at *;go_enter func25,ntmps25;go_wp2_with fail;go_call(tQ.out _) as e w1⟨rfl,hb1⟩;have gy:Lk (Moved (λ_=>False) n pb db w o d w1 o d L):=ae (Moved.aZ H.out.mX.held.bh hb1);clear hb1 tQ c0 c2;have G:=ae (nA (t.out _ _ _ _ gy.out).1 (t.out _ _ _ _ gy.out).2.1 (t.out _ _ _ _ gy.out).2.2 OZ.out.1 K.out.1);unfold mW ptrTo at G;go_wp2_with fail;go_call G.out as e w2⟨xb,d2,o2,rfl,dA,hsx,hxg,hox⟩;have kT:Lk (aM w2 xb pb nX 20/\o2 xb=KK/\w.heap.size<=xb):=ae ⟨hsx,hox,cp gy.out.size hxg⟩;have fV:=ae (gy.out.trans dA (λ_ _ e=>e));obtain⟨-,-,c2,-⟩:=(t.out _ _ _ _ fV.out).2.1.cells;clear dA hsx hxg hox G gy;go_wp2_with fail;go_call(VM.out _) as e w3⟨rfl,hb3⟩;have fH:=ae (fV.out.below hb3);have eM:Lk (aM w3 xb pb nX 20/\o2 xb=KK):=ae ⟨kT.out.1.below hb3,kT.out.2.1⟩;clear hb3 VM c2;have G:=ae (nA (t.out _ _ _ _ fH.out).1 (t.out _ _ _ _ fH.out).2.1 (t.out _ _ _ _ fH.out).2.2 OZ.out.2.1 (by rw[aC,if_neg j.out.xu.symm];exact K.out.2.1));unfold mW ptrTo at G;go_wp2_with fail;go_call G.out as e w4⟨ub,d4,o4,rfl,fZ,hsu,hug,hou⟩;have qZ:Lk ((aM w4 xb pb nX 20/\o4 xb=KK)/\(aM w4 ub pb nU 20/\o4 ub=KK/\w.heap.size<=ub)):=ae ⟨⟨eM.out.1.moved fZ eM.out.2 (λe=>e),fZ.free eM.out.1.lt eM.out.2⟩,hsu,hou,cp fH.out.size hug⟩;have jg:=ae (fH.out.trans fZ (λ_ _ e=>e));obtain⟨-,-,c2,-⟩:=(t.out _ _ _ _ jg.out).2.1.cells;clear fZ hsu hug hou G fH fV eM;go_wp2_with fail;go_call(dl.out _) as e w5⟨rfl,kR⟩;have oy:=ae (jg.out.below kR);have Z:Lk ((aM w5 xb pb nX 20/\o4 xb=KK)/\(aM w5 ub pb nU 20/\o4 ub=KK)):=ae ⟨⟨qZ.out.1.1.below kR,qZ.out.1.2⟩,qZ.out.2.1.below kR,qZ.out.2.2.1⟩;clear kR dl c2;have G:=ae (nA (t.out _ _ _ _ oy.out).1 (t.out _ _ _ _ oy.out).2.1 (t.out _ _ _ _ oy.out).2.2 OZ.out.2.2 (by rw[aC,if_neg j.out.ud.symm,aC,if_neg j.out.xd.symm];exact K.out.2.2));unfold mW ptrTo at G;go_wp2_with fail;go_call G.out as e w6⟨eb,d6,o6,rfl,q9,hse,heg,hoe⟩;have r:Lk ((aM w6 xb pb nX 20/\o6 xb=KK/\w.heap.size<=xb)/\(aM w6 ub pb nU 20/\o6 ub=KK/\w.heap.size<=ub)/\aM w6 eb pb nD 20/\o6 eb=KK/\w.heap.size<=eb):=ae ⟨⟨Z.out.1.1.moved q9 Z.out.1.2 (λe=>e),q9.free Z.out.1.1.lt Z.out.1.2,kT.out.2.2⟩,⟨Z.out.2.1.moved q9 Z.out.2.2 (λe=>e),q9.free Z.out.2.1.lt Z.out.2.2,qZ.out.2.2.2⟩,hse,hoe,cp oy.out.size heg⟩;have BZ:=ae (oy.out.trans q9 (λ_ _ e=>e));have ZH:=ae (ZF (L:=L) j.out.xu j.out.xd j.out.ud);generalize ld:aX (aX (aX L nX (az [] Jd)) nU (az [] Jd)) nD (az [] Jd)=L6 at *;clear q9 hse heg hoe G oy jg Z qZ kT ld;have Q8:Lk (∀W o' d' L' R U D,Moved (λ_=>False) n pb db w o d W o' d' L'->RL L L' nX nU nD R U D->need L'<=131072->iM w0 W pb db n o' d' L' gb gen N ob ib vb es):=ae (λW o' d' L' R U D i hl hq=>ye H.out.mX i (hl.vB _ j.out.x1.symm j.out.u1.symm j.out.d1.symm) (hl.vB _ j.out.x2.symm j.out.u2.symm j.out.d2.symm) hq);have jj:Lk (need L6<=need L):=ae (by have:=ZH.out.need;exact this);obtain⟨fx,O⟩:=ZH.out.x;have P:=ae (G8 HW (Q8.out _ _ _ _ _ _ _ BZ.out ZH.out Xy) (t.out _ _ _ _ BZ.out).2.1 (t.out _ _ _ _ BZ.out).2.2 (H.out.cho.kept (BZ.out.block H.out.cho.lt H.out.rC (λe=>e))) (BZ.out.free H.out.cho.lt H.out.rC) r.out.1.1 r.out.1.2.1 O j.out.x1 j.out.x2 Xy);unfold lH ptrTo at P;clear O;go_wp2_with fail;go_call P.out as e w7⟨f7,d7,o7,rfl,yC⟩;have am:=ae (SN ZH.out BZ.out.bh.keys j.out.xu j.out.xd (fe es S) f7);have nu:Lk ((aM w7 xb pb nX 20/\o7 xb=KK)/\(aM w7 ub pb nU 20/\o7 ub=KK)/\aM w7 eb pb nD 20/\o7 eb=KK):=ae ⟨⟨r.out.1.1.moved yC r.out.1.2.1 (λe=>e),yC.free r.out.1.1.lt r.out.1.2.1⟩,⟨r.out.2.1.1.moved yC r.out.2.1.2.1 (λe=>e),yC.free r.out.2.1.1.lt r.out.2.1.2.1⟩,r.out.2.2.1.moved yC r.out.2.2.2.1 (λe=>e),yC.free r.out.2.2.1.lt r.out.2.2.2.1⟩;have FU:=ae (BZ.out.trans yC (λ_ _ e=>e));generalize aX L6 nX (az (fe es S) f7)=L7 at *;clear yC P BZ ZH jj;obtain⟨oa,ok,rfl⟩:=aw H.out.ord;obtain⟨M,iS⟩:=ac ch.length;have de:=ae iS;clear iS;obtain⟨-,-,-,-,-,-,c6,-⟩:=(t.out _ _ _ _ FU.out).2.1.cells;have ks:=(t.out _ _ _ _ FU.out).2.1.lt;have gx:Lk (dr w7 base (.slice (IT ⟨g,0,KK⟩) N vk) was):=ae (FU.out.ownsRow H.out.row (λb B=>by cases B;exact⟨H.out.og,λe=>e⟩));have i7:Lk (xV w7 (.slice (IT ⟨g,0,KK⟩) N vk) was):=ae (jY gx.out).1.rd;have i8:Lk (was.length<=1000):=ae (by rw[H.out.len];exact H.out.mX.top);go_wp2_with (refine nI (w:=w7) (by rfl) _ _ rfl rfl _ was rfl i7.out Xy (λv8 w8 bd co vI=>?_);have c5:w8.cell? ⟨rb,5,KK⟩=IT (.slice oa M ok):=(by rw[de.out];exact(t.out _ _ _ _ (FU.out.below vI.out)).2.1.cells.2.2.2.2.2.1));have hM:=de.out;obtain⟨wa,wk,rfl,-⟩:=bd.out;have X:=ae (FU.out.below vI.out);have nG:Lk (was.length≠0):=ae (by
  cases e:ch with
  |nil=>exact absurd e H.out.ne
  |cons v l=>have:=H.out.low v M2;rw[H.out.len];omega)
 have Y:Lk (g<w.heap.size/\base<=g):=ae ⟨(aA H.out.row g rfl).1,aD H.out.row g rfl⟩;have lJ:Lk (fB w0 w8 pb db n o7 d7 L L7 gb gen N ob ib vb es rb mb g vk done (.slice oa ch.length ok) S nX nU nD xb ub eb (.slice wa was.length wk) was (fe es S++(ch.take 0).flatMap (eK es S)) ((ch.take 0).flatMap (aY es)) ((ch.take 0).flatMap (eD es)) (((ch.take 0).zipIdx).foldl (λvs p=>gq es was done gen vs p.2 p.1) was) base/\Moved (·=g) n pb db w o d w8 o7 d7 L7):=ae (by
  obtain⟨g1,g2,g3,g4⟩:=H.out.of.graph;have g5:=H.out.rg;have g6:=H.out.gm;have g7:=Y.out.1;have g8:=r.out.1.2.2;have g9:=r.out.2.1.2.2;have mm:=r.out.2.2.2.2;have P:(fe es S++(ch.take 0).flatMap (eK es S))=fe es S:=ai;rw[P];exact⟨{
   mX:=Q8.out _ _ _ _ _ _ _ X.out am.out (by have:=am.out.need;grind [jd,fe,cq,Hid.out])
   Ol:=(t.out _ _ _ _ X.out).2.1
   of:=H.out.of.moved X.out
   ch:=H.out.cho.kept (X.out.block H.out.cho.lt H.out.rC (λe=>e))
   rC:=X.out.free H.out.cho.lt H.out.rC
   rl:=am.out
   nm:=j.out
   sx:=nu.out.1.1.below vI.out
   su:=nu.out.2.1.1.below vI.out
   sd:=nu.out.2.2.1.below vI.out
   ox:=nu.out.1.2
   ou:=nu.out.2.1.2
   od:=nu.out.2.2.2
   Ra:=bd.out
   own:=λb B=>⟨gW.lt bd.out nG.out b B,FU.out.bh.fresh (co.out b B)⟩
   U3:=H.out.len
   row:=X.out.ownsRow H.out.row (λb B=>by cases B;exact⟨H.out.og,λe=>e⟩)
   len:=H.out.len
   og:=X.out.free Y.out.1 H.out.og
   g0:=cp H.out.of.new (yi H.out.rg)
   gne:=⟨af,af,af,af,af,af,af,af,af,λe=>No (co.out g e) FU.out.size⟩ },X.out.mono (λ_ _ e=>e.elim)⟩)
 have HM:Lk (M=ch.length/\M<=9223372036854775807):=ae ⟨hM,Xy⟩
 have gt:Lk (∀W o' d' L',Moved (·=g) n pb db w o d W o' d' L'->aT W SQ (.slice oa M ok) ch):=ae (λW o' d' L' i=>by rw[hM];exact i.ownsRow H.out.ord (λb B=>⟨H.out.ar9 b B,λe=>Nm (H.out.go b B)⟩));rw[<- hM]at lJ;have io:Lk (∀k,(fe es S++(ch.take k).flatMap (eK es S)).length<=(gB es ch).length/\((ch.take k).flatMap (aY es)).length<=(rh es ch).length/\((ch.take k).flatMap (eD es)).length<=(dU es ch).length):=ae (λk=>by refine⟨?_,KL _ _ _,KL _ _ _⟩;have hf:eK es S=eK es ch:=funext λv=>IU es v H.out.same;unfold gB;rw[Fj es H.out.same,hf,eh,eh];grind [KL])
 clear hM de c6 ks bd co vI gx i7 i8 r nu am FU X nG c5;go_loopw [76] (λvi wr=>∃(k:Nat)(o':ay)(d':Dsk)(L':aL),vi=Kx Mm (k:Int)/\k<=M/\Lk (fB w0 wr pb db n o' d' L L' gb gen N ob ib vb es rb mb g vk done (.slice oa M ok) S nX nU nD xb ub eb (.slice wa was.length wk) was (fe es S++(ch.take k).flatMap (eK es S)) ((ch.take k).flatMap (aY es)) ((ch.take k).flatMap (eD es)) (((ch.take k).zipIdx).foldl (λvs p=>gq es was done gen vs p.2 p.1) was) base/\Moved (·=g) n pb db w o d wr o' d' L')) (λvi _=>M-(Lo vi).toNat)
 case atStart=>grind
 case round=>
  obtain⟨k,A,C,L9,rfl,hk,tR⟩:=hrel;clear lJ;generalize wr=z at *;by_cases mw:k<M
  .have CX:(k:Int)<M:=af;have mu:cf Mm ((k:Int)+1)=(k+1:Nat):=by grind [Hid.out,ax]
   obtain⟨v,Q⟩:∃v,ch[k]? = IT v:=⟨_,bk Xy⟩;obtain⟨lP,rfl⟩:∃g,oa=IT ⟨g,0,KK⟩:=by
    obtain⟨-,⟨h1,h2⟩|⟨g,_,_,h1,_⟩⟩:=H.out.ord
    .grind
    grind
   have s:=gt.out _ _ _ _ tR.out.2;rw[HM.out.1]at s;have q0:=iT (l:=ch) s Q;have e1:=vy (f:=eK es S) Q;have e2:=vy (f:=aY es) Q;have e3:=vy (f:=eD es) Q;have e4:=ZG Q;have HE:Lk (fe es S++(ch.take (k+1)).flatMap (eK es S)=(fe es S++(ch.take k).flatMap (eK es S))++eK es S v/\(ch.take (k+1)).flatMap (aY es)=(ch.take k).flatMap (aY es)++aY es v/\(ch.take (k+1)).flatMap (eD es)=(ch.take k).flatMap (eD es)++eD es v/\((ch.take (k+1)).zipIdx).foldl (λvs p=>gq es was done gen vs p.2 p.1) was=gq es was done gen (((ch.take k).zipIdx).foldl (λvs p=>gq es was done gen vs p.2 p.1) was) k v):=ae ⟨M2,e2,e3,M2⟩;have E:=ae (KJ HW tR.out.1 k v (H.out.low v (cx Q)) Xy Xy (No Y.out tR.out.2.size) (el.out v (H.out.low v (cx Q))) Xy)
   unfold KG ptrTo at E;clear s Q e1 e2 e3 e4;go_wp2_with fail;go_call E.out as e VP⟨d10,o10,L10,rfl,Ez,asb⟩;have y:Lk (fB w0 VP pb db n o10 d10 L L10 gb gen N ob ib vb es rb mb g vk done (.slice lP M ok) S nX nU nD xb ub eb (.slice wa was.length wk) was (fe es S++(ch.take (k+1)).flatMap (eK es S)) ((ch.take (k+1)).flatMap (aY es)) ((ch.take (k+1)).flatMap (eD es)) (((ch.take (k+1)).zipIdx).foldl (λvs p=>gq es was done gen vs p.2 p.1) was) base/\Moved (·=g) n pb db w o d VP o10 d10 L10):=ae ⟨by rw[HE.out.1,HE.out.2.1,HE.out.2.2.1,HE.out.2.2.2];omega,tR.out.2.trans Ez (λ_ _ e=>e)⟩;clear Ez asb E tR HE q0;go_wp2;go_roundw
   case rel=>grind
   grind [Lo]
  .have CX:¬(k:Int)<M:=af;have y:Lk (fB w0 z pb db n A C L L9 gb gen N ob ib vb es rb mb g vk done (.slice oa M ok) S nX nU nD xb ub eb (.slice wa was.length wk) was (gB es ch) (rh es ch) (dU es ch) (dE es was done gen ch) base/\Moved (·=g) n pb db w o d z A C L9):=ae (by have h1:=tR.out;rw[ey Xy,Fj es H.out.same,show eK es S=eK es ch from funext λv=>IU es v H.out.same]at h1;exact h1)
   clear tR gt Q8;have du:Lk (∀W o' d',Moved (λ_=>False) n pb db z A C W o' d' L9->K1 prog 19 #[ptrTo pb,.string nX,(gen+1:Nat),.slice (IT ⟨g,0,KK⟩) N vk] W λe w'=>∃u x,e=Mk (Kx Mm 0)/\Moved (λ_=>False) n pb db z A C w' x u (iJ L9 (gen+1) (gB es ch) (dE es was done gen ch))):=ae (λW o' d' i=>by
    have J:=y.out.1;obtain⟨fl,RR⟩:=J.rl.x;have Zz:∀c:UInt8,c≠120->c≠117->c≠100->aI L9 (aF c (gen+1))=none:=λc h1 h2 h3=>by rw[J.rl.vB _ (by grind [Hid.out,iI]) (by grind [Hid.out,iI]) (by grind [Hid.out,iI]),HF.out c]
    have s:=i.ownsRow J.row (λb B=>by cases B;grind [fB.og]);have Q:=(jY s).1;refine(wH HW CB i.bh hn (gen:=gen+1) (.inl FK.out) RR (by grind [Hid.out,vp]) fI.out (Zz 101 ag ag ag) (Zz 114 ag ag ag) (Zz 118 ag ag ag) (λk=>by rw[J.rl.vB _ (by grind [Hid.out,bF]) (by grind [Hid.out,bF]) (by grind [Hid.out,bF]),gE.out k]) Q (λb B=>by cases B;exact i.free (aA J.row g rfl).1 J.og) (by rw[J.len];have:=J.mX.top;omega)).mono ?_
    rintro e w'⟨c,u,x,CS,rfl,dA,-,hc⟩;have hh:=J.mX.held.moved i (λ_ e=>e.elim);have h0:c=0:=hh.fine dA (hc.imp (λh=>h.1) id) (by have g1:=J.rl.need;grind [jd,fB.len,Hid.out])
    subst h0;rcases hc with⟨_,rfl⟩| hc
    .exact⟨u,x,rfl,i.trans dA (λ_ _ e=>e)⟩
    grind [lM.ne])
   have ZI:Lk (∀W o' d' L',Moved (λ_=>False) n pb db z A C W o' d' L'->W.cell? rb=IT (.pointer pb)/\W.cell? ⟨rb,2,KK⟩=gen/\W.cell? ⟨rb,6,KK⟩=IT (.slice (IT ⟨g,0,KK⟩) N vk)):=ae (λW o' d' L' i=>by obtain⟨h0,-,h2,-,-,-,h6,-⟩:=(y.out.1.Ol.moved y.out.1.of.free i).cells;exact⟨h0,h2,h6⟩)
   have pW:Lk (∀c:UInt8,c=120\/c=117\/c=100->aF c (gen+1)≠aF 101 (gen+1)/\aF c (gen+1)≠aF 114 (gen+1)/\aF c (gen+1)≠aF 118 (gen+1)):=ae (by grind [iI])
   obtain⟨F,dq⟩:=ac (iJ L9 (gen+1) (gB es ch) (dE es was done gen ch));rw[<- dq]at du;have kl:Lk (need F<=need L+12*(gB es ch).length+4*(rh es ch).length+4*(dU es ch).length+4*N):=ae (by have g1:=y.out.1.rl.need;have g2:=jd (gB es ch);have g3:=jd (rh es ch);have g4:=jd (dU es ch);have g5:=y.out.1.len;grind [EF])
   have ce:Lk ((∃f,aI F nX=IT (az (gB es ch) f))/\(∃f,aI F nU=IT (az (rh es ch) f))/\∃f,aI F nD=IT (az (dU es ch) f)):=ae (by have J:=y.out.1.rl;grind [RL.x,Hid.out,vC,RL.u,RL.d])
   have en:Lk (∀W o' d',Moved (λ_=>False) n pb db z A C W o' d' F->K1 prog 45 #[ptrTo pb,.string nU] W λe w'=>∃u x,e=Mk (Kx Mm 0)/\Moved (λ_=>False) n pb db z A C w' x u (aX F nU (az (rh es ch) Jd))):=ae (λW o' d' i=>by obtain⟨f,hf⟩:=ce.out.2.1;go_call(sH HW i.bh hf) as e w'⟨c,u,x,rfl,dA,vX⟩;have h0:c=0:=(y.out.1.mX.held.moved i (λ_ e=>e.elim)).wX dA vX Xy;subst h0;exact⟨u,x,rfl,i.trans dA (λ_ _ e=>e)⟩)
   have ee:Lk (∀W o' d',Moved (λ_=>False) n pb db z A C W o' d' (aX F nU (az (rh es ch) Jd))->K1 prog 45 #[ptrTo pb,.string nD] W λe w'=>∃u x,e=Mk (Kx Mm 0)/\Moved (λ_=>False) n pb db z A C w' x u (aX (aX F nU (az (rh es ch) Jd)) nD (az (dU es ch) Jd))):=ae (λW o' d' i=>by
    obtain⟨f,hf⟩:=ce.out.2.2;refine(sH HW i.bh (by rw[aC,if_neg j.out.ud.symm];exact hf)).mono ?_;rintro e w'⟨c,u,x,rfl,dA,vX⟩;have h0:c=0:=(y.out.1.mX.held.moved i (λ_ e=>e.elim)).wX dA vX (by grind [dm,dz,Hid.out])
    subst h0;exact⟨u,x,rfl,i.trans dA (λ_ _ e=>e)⟩)
   have kd:Lk (∀W o' d',Moved (λ_=>False) n pb db z A C W o' d' (aX (aX F nU (az (rh es ch) Jd)) nD (az (dU es ch) Jd))->K1 prog 20 #[ptrTo pb,.string nX] W λe w'=>∃u x,e=Mk (Kx Mm 0)/\Moved (λ_=>False) n pb db z A C w' x u (b9 (aX (aX F nU (az (rh es ch) Jd)) nD (az (dU es ch) Jd)) nX)):=ae (λW o' d' i=>by
    obtain⟨f,hf⟩:=ce.out.1;refine(y6 i.bh (by rw[aC,if_neg j.out.xd,aC,if_neg j.out.xu];exact hf)).mono ?_;rintro e w'⟨c,u,x,CS,rfl,hp,ht,hg,vQ,V⟩;have dA:Moved (λ_=>False) n pb db W o' d' w' x u CS:=lj hp ht hg vQ;have hh:=(y.out.1.mX.held.moved i (λ_ e=>e.elim)).moved dA (λ_ e=>e.elim);rcases V with⟨rfl,rfl⟩|⟨-,h2,-⟩
    .exact⟨u,x,rfl,i.trans dA (λ_ _ e=>e)⟩
    grind [Held.dead])
   have QE:Lk (∀d' o' w',Moved (λ_=>False) n pb db z A C w' o' d' (b9 (aX (aX F nU (az (rh es ch) Jd)) nD (az (dU es ch) Jd)) nX)->ke (Mk (Kx Mm 0)) w'):=ae (λd' o' w' i=>by rw[Bj.out];have FH:=y.out.1.rl;have O:=K.out.1;rw[q.out.1,q.out.2.1,q.out.2.2]at FH;rw[q.out.1]at O;have hr:=Rb y.out.1.mX.held.bh.keys FH O (vs:=dE es was done gen ch);rw[q.out.1,q.out.2.1,q.out.2.2,dq]at i;exact⟨d',o',_,rfl,y.out.2.trans i (λ_ _ e=>e.elim),hr⟩)
   have lE:Lk (∀W,K1 prog 43 #[Kx MM 117,(gen+1:Nat)] W λe w'=>e=Mk (.string nU)/\Lg W W w'):=ae (λW=>by rw[q.out.2.1];exact eP 117 (gen+1) (o:=λ_=>GT) (.inl FK.out));have li:Lk (∀W,K1 prog 43 #[Kx MM 100,(gen+1:Nat)] W λe w'=>e=Mk (.string nD)/\Lg W W w'):=ae (λW=>by rw[q.out.2.2];exact eP 100 (gen+1) (o:=λ_=>GT) (.inl FK.out));have al:=ae (Moved.refl (λ_=>False) y.out.1.mX.held.bh);clear kl ce pW dq HF gE fI HQ UH el K j q Bj io y Y;unfold ptrTo at *;go_wp2_with fail;refine cW (Lg z z) 14 rfl ah ah (aq.drew) ?_;simp only[ii,j2];iterate 3 (refine qz ?_)
   refine qz ?_ (λw' a=>by obtain⟨f0,f2,f6⟩:=ZI.out _ _ _ _ (al.out.below a);go_simp<;>rfl);iterate 4 (refine qz ?_)
   refine qz ?_ (λw' a=>by obtain⟨f0,f2,f6⟩:=ZI.out _ _ _ _ (al.out.below a);go_simp<;>rfl);refine qz ?_ (λw' a=>by have hx:=wg;go_simp<;>rfl);iterate 3 (refine qz ?_)
   refine qz ?_ (λw' a=>by obtain⟨f0,f2,f6⟩:=ZI.out _ _ _ _ (al.out.below a);go_simp<;>rfl);refine wpQuiet_nil ?_;intro kw i6;refine⟨_,_,rfl,(by go_simp<;>exact⟨rfl,rfl⟩),?_⟩;go_call(du.out kw A C (al.out.below i6)) as e w12⟨d12,VZ,rfl,ZC⟩;have ci:=ae ZC;clear ZC i6 du;refine⟨_,rfl,?_⟩;go_simp;refine qz ?_;refine wpQuiet_nil ?_;go_wp2_with fail;refine cW (Lg w12 w12) 10 rfl ah ah (aq.drew) ?_;simp only[ii,j2];iterate 3 (refine qz ?_)
   refine qz ?_ (λw' a=>by obtain⟨f0,f2,f6⟩:=ZI.out _ _ _ _ (ci.out.below a);go_simp<;>rfl);iterate 3 (refine qz ?_)
   refine qz ?_ (λw' a=>by obtain⟨f0,f2,f6⟩:=ZI.out _ _ _ _ (ci.out.below a);go_simp<;>rfl);refine qz ?_ (λw' a=>by have hx:=wg;go_simp<;>rfl);refine qw (λw' a=>(lE.out w').mono (λe lw h=>⟨h.1,a.trans (h.2.mono a.size)⟩)) ?_;refine wpQuiet_nil ?_;intro mh fm;refine⟨_,_,rfl,(by go_simp<;>exact⟨rfl,rfl⟩),?_⟩;go_call(en.out mh VZ d12 (ci.out.below fm)) as e w14⟨d14,o14,rfl,alQ⟩;have aE:=ae alQ;clear alQ fm en ci;refine⟨_,rfl,?_⟩;go_simp;refine qz ?_;refine wpQuiet_nil ?_;go_wp2_with fail;refine cW (Lg w14 w14) 10 rfl ah ah (aq.drew) ?_;simp only[ii,j2];iterate 3 (refine qz ?_)
   refine qz ?_ (λw' a=>by obtain⟨f0,f2,f6⟩:=ZI.out _ _ _ _ (aE.out.below a);go_simp<;>rfl);iterate 3 (refine qz ?_)
   refine qz ?_ (λw' a=>by obtain⟨f0,f2,f6⟩:=ZI.out _ _ _ _ (aE.out.below a);go_simp<;>rfl);refine qz ?_ (λw' a=>by have hx:=wg;go_simp<;>rfl);refine qw (λw' a=>(li.out w').mono (λe lw h=>⟨h.1,a.trans (h.2.mono a.size)⟩)) ?_;refine wpQuiet_nil ?_;intro me eS;refine⟨_,_,rfl,(by go_simp<;>exact⟨rfl,rfl⟩),?_⟩;go_call(ee.out me o14 d14 (aE.out.below eS)) as e w16⟨d16,o16,rfl,alS⟩;have ff:=ae alS;clear alS eS ee aE;refine⟨_,rfl,?_⟩;go_simp;refine qz ?_;refine wpQuiet_nil ?_;have V:=ae (kd.out w16 o16 d16 ff.out);obtain⟨k0,k2,k6⟩:=ZI.out _ _ _ _ ff.out;go_wp2_with fail;go_call V.out as e w17⟨d17,o17,rfl,alU⟩;have WS:=ae (QE.out d17 o17 w17 alU);clear alU V k0 k2 k6;go_wp2;assumption
end
section
variable {w0 w W:KX}{pb db n gen done:Nat}{o o':ay}{d d':Dsk}{L L':aL}{es:List aJ}{vs:List bZ}
structure ZK(w0 w:KX)(pb db n:Nat)(o:ay)(d:Dsk)(L:aL)(gen done m:Nat)(es:List aJ)(vs:List bZ):Prop where
 held:Held w0 w pb db n o d L
 frames:8<=n
 glt:gen+1<100
 e:aI L (aF 101 gen)=IT (az (aH J0 es) Jd)
 r:aI L (aF 114 gen)=IT (az (aH Jd es) Jd)
 v:aI L (aF 118 gen)=IT (cH vs Jd)
 len:es.length<=1000
 top:vs.length<=1000
 ends:∀x∈es,x.t.toNat<vs.length/\x.h.toNat<vs.length
 alV:(dy es vs).length<=24
 free:∀c,aI L (aF c (gen+1))=KK
 nt:∀k,aI L (eu k)=KK
 most:(gB es (aP es vs)).length<=m
 need:need L+24*((gB es (aP es vs)).length+(rh es (aP es vs)).length+(dU es (aP es vs)).length)+8*es.length+4*vs.length+8<=131072
 dlt:done+(aP es vs).length<4294967296
 deg:∀v,v<vs.length->(eD es v).length*(aY es v).length<=100000
def rR(w:KX)(a db n:Nat)(o:ay)(d:Dsk)(L:aL)(gen done:Nat)(es:List aJ)(vs:List bZ)(e:Lp)(w':KX):Prop:=
 ∃d' o' L',e=Mk (Ly #[Kx Mo (aP es vs).length,Kx Mm 0])/\Moved (λ_=>False) n a db w o d w' o' d' L'/\(aP es vs=[]->L'=L)/\(aP es vs≠[]->kg L L' gen (gB es (aP es vs)) (rh es (aP es vs)) (dU es (aP es vs)) (dE es vs done gen (aP es vs)))
theorem vE(P:aV){m:Nat}(CB:eW m)(h:ZK w0 w pb db n o d L gen done m es vs):K1 prog 7 #[ptrTo pb,gen,Kx Mo done] w (rR w pb db n o d L gen done es vs):=by
 have H:=ae h;have hq:need L<=131072:=Nm h.need;have ew:=ae (js h.held.bh);have B:=ae (GR P h.held.bh (gen:=gen) (.inl (Nm h.glt)) h.v h.e h.r);have am:¬(n:Int)<8:=Nm h.frames;have HQ:=ae hq;obtain⟨c,SK⟩:=ac (aP es vs);have G:=ae SK;obtain⟨I,pz⟩:=ac (rR w pb db n o d L gen done es vs);have Bj:=ae pz;rw[<- pz];clear h hq SK pz;unfold ptrTo wU at *;go_enter func7,ntmps7;go_wp2_with fail;go_call ew.out as e w1⟨rfl,rfl⟩;clear ew;go_wp2_with fail;go_call B.out as e w2⟨v2,c2,d2,o2,rfl,dA,vX,lp,-⟩;have W:c2=0:=H.out.held.wX dA vX HQ.out;subst W;obtain⟨gb,ob,ib,vb,rfl,a⟩:=lp rfl;have J:=ae dA;have FK:=ae a;have al:Lk (gb<w2.heap.size/\ob<w2.heap.size/\ib<w2.heap.size/\vb<w2.heap.size):=ae ⟨a.raw.lt,a.out.lt,a.vH.lt,a.wR.lt⟩;clear dA a vX lp B;unfold ptrTo at *;obtain⟨rb,y⟩:=ac w2.heap.size;have r:Lk (dV (w2.alloc (Mi #[.pointer pb,.pointer gb,gen,Kx Mo done,.map KK,.slice KK 0 0,.slice KK 0 0] 75)) w2.heap.size pb gb gen done (.map KK) (.slice KK 0 0) (.slice KK 0 0)/\Moved (λ_=>False) n pb db w o d (w2.alloc (Mi #[.pointer pb,.pointer gb,gen,Kx Mo done,.map KK,.slice KK 0 0,.slice KK 0 0] 75)) o2 d2 L/\eF (w2.alloc (Mi #[.pointer pb,.pointer gb,gen,Kx Mo done,.map KK,.slice KK 0 0,.slice KK 0 0] 75)) o2 gb pb gen vs.length ob ib vb):=ae ⟨Lw _ _,J.out.alloc _,FK.out.moved (Moved.aZ (n:=n) J.out.bh aj)⟩;go_wp2_with fail;rw[<- y]at r ⊢;generalize w2.alloc (Mi #[.pointer pb,.pointer gb,gen,Kx Mo done,.map KK,.slice KK 0 0,.slice KK 0 0] 75)=O at *;have ZI:Lk (rb=w2.heap.size/\w.heap.size<=rb):=ae ⟨y,by rw[y];exact J.out.size⟩;have V:Lk (iM w0 O pb db n o2 d2 L gb gen vs.length ob ib vb es):=ae ⟨H.out.held.moved r.out.2.1 (λ_ e=>e.elim),HQ.out,r.out.2.2,H.out.e,H.out.r,H.out.len,H.out.top,H.out.ends⟩;have f:Lk (uE w0 O o2 rb gb ob ib vb):=ae ⟨by rw[y];exact(H.out.held.moved J.out (λ_ e=>e.elim)).below.size,r.out.1.lt,by rw[y];exact J.out.bh.fresh (cg _),Xy⟩;have T:=ae (G4 P V.out H.out.v r.out.1 f.out);unfold Bd ptrTo at T;clear y FK al;go_call T.out as e w4⟨q,d4,o4,rfl,r8⟩;have A:=ae r8;have ZM:=ae (V.out.Kw f.out r8.mv);have i:=ae (f.out.moved r8.mv);have jg:Lk (Moved (λ_=>False) n pb db w o d w4 o4 d4 L):=ae (r.out.2.1.trans r8.mv (λx hx e=>Xy));have j:=ae (CK P ZM.out r8.at' i.out r8.row r8.own H.out.deg H.out.alV);rw[<- G.out]at j;unfold x9 ptrTo at j;clear r8 T V f;go_wp2_with fail;go_call j.out as e w5⟨mb,ov,S,d5,o5,rfl,oq,Kc,ZN,alW,alX,alY,alZ,Mv⟩;obtain⟨N,ok,rfl⟩:=aw ZN;obtain⟨p,Q⟩:=ac c.length;have oy:Lk (Moved (λ_=>False) n pb db w o d w5 o5 d5 L):=ae (jg.out.trans oq (λx hx e=>Xy));have xU:=ae Kc;have t:Lk (aT w5 w4.heap.size (.slice N c.length ok) c/\(∀b,(fz N c.length ok).ownBlock=IT b->o5 b=KK)/\ir w5 mb S/\w4.heap.size<=mb/\o5 mb=KK/\∀z,z∈S↔z∈c):=ae ⟨ZN,alW,alX,alY,alZ,Mv⟩;have U:=ae (ZM.out.Kw i.out oq);have E:=ae (i.out.moved oq);have F:Lk (dr w5 O.heap.size q vs/\(∀b,q.ownBlock=IT b->o5 b=KK/\b<w4.heap.size)):=ae ⟨oq.ownsRow A.out.row (λb s=>⟨A.out.own b s,λe=>by have R:=aD A.out.row b s;have h2:=r.out.1.lt;omega⟩),λb s=>⟨oq.free (aA A.out.row b s).1 (A.out.own b s),(aA A.out.row b s).1⟩⟩;obtain⟨-,-,-,-,-,c5,-⟩:=Kc.cells;rw[<- Q]at c5;have Y:Lk (p=c.length/\p<4294967296):=ae ⟨Q,by have:=H.out.dlt;grind [Hid.out]⟩;clear oq Kc ZN alW alX alY alZ Mv j Q ZM i jg;by_cases hz:p=0
 .have K:(p:Int)=0:=af;have X:Lk (I (Mk (Ly #[Kx Mo 0,Kx Mm 0])) w5):=ae (by
   have hn:aP es vs=[]:=by grind [Hid.out]
   rw[Bj.out];exact⟨d5,o5,L,M2,oy.out,λ_=>rfl,λh=>absurd hn h⟩)
  clear hz;go_wp2;assumption
 .have K:¬(p:Int)=0:=af;have C:Lk (c≠[]):=ae (λe=>hz Xy);have ZB:Lk (vs.length≠0):=ae (by
   cases e:c with
   |nil=>grind [Hid.out]
   |cons v l=>have:=kN (es:=es) (vs:=vs) (v:=v) Xy;omega)
  obtain⟨g,vk,rfl⟩:∃g k,q=.slice (IT ⟨g,0,KK⟩) vs.length k:=by
   obtain⟨-,⟨R,h2⟩|⟨g,k,_,R,_⟩⟩:=F.out.1
   .grind [Hid.out]
   grind
  have M:Lk (rb<g/\g<w4.heap.size/\w.heap.size<=g/\rb≠g):=ae (by have R:=aD F.out.1 g rfl;have h2:=r.out.1.lt;have h3:=(F.out.2 g rfl).2;grind [Hid.out])
  have D:Lk (SR w0 w5 pb db n o5 d5 L gb gen vs.length ob ib vb es rb mb g vk done (.slice N c.length ok) S c vs O.heap.size w4.heap.size):=ae
   ⟨U.out,xU.out,E.out,t.out.2.2.1,t.out.2.2.2.2.1,t.out.1,t.out.2.1,F.out.1,rfl,(F.out.2 g rfl).1,M.out.1,eg M.out.2.1 t.out.2.2.2.1,λb s=>eg M.out.2.1 (aD t.out.1 b s),t.out.2.2.2.2.2,λv hv=>kN (es:=es) Xy,C.out⟩
  have u:=ae (Fk P CB H.out.frames D.out H.out.glt H.out.free H.out.nt (by rw[G.out];exact H.out.most) (by rw[G.out];exact H.out.need) (by rw[G.out];exact H.out.dlt) H.out.deg);unfold Bk ptrTo at u;clear hz D;go_wp2_with fail;go_call u.out as e w6⟨d6,o6,L6,rfl,q9,vP⟩;have Ca:dV w6 rb pb gb gen done (.map (IT mb)) (.slice N c.length ok) (.slice (IT ⟨g,0,KK⟩) vs.length vk):=q9.heap xU.out E.out.free M.out.2.2.2;obtain⟨-,-,-,-,-,Z,-⟩:=Ca.cells;rw[<- Y.out.1]at Z;have aE:cf Mo (p:Int)=p:=cM _ af Xy;have X:Lk (I (Mk (Ly #[Kx Mo p,Kx Mm 0])) w6):=ae (by rw[Bj.out];refine⟨d6,o6,L6,Xy,oy.out.trans q9 (λx hx e=>Xy),λh=>absurd (G.out.trans h) C.out,λ_=>?_⟩;grind [Hid.out])
  clear q9 vP Ca u c5 K;go_wp2;assumption
end
theorem Bl{w:KX}{o:Oper}{a:Act}{K:Act->KX->Prop}{E:Prop}(e:o.guard=KK)(s x:Operand)(n:o.op=.call { callee:=.builtin .append,args:=#[s,x],argTypes:=#[22,22] })(base:Nat)(v:J3)(l:List aJ)(p:a.eval s=v)(d:aG w base v l)(y:aJ)(f c:Nat)(m:a.eval x=.slice f 1 c)(g:w.heap[f]? = IT (Mi #[y.t,y.h,y.x,y.m] 63))(r:l.length<=100000)(b:base<=w.heap.size)(k:∀v' w',aG w' base v' (l++[y])->gP v w w' v'->K (a.put o.dst v') w'):if Region.wanted o (yielded ops a.tmps)=Jd then Oper.wp prog o a w K Q else E:=by
 refine po e s x 22 n base 63 _ 4 24 Tryz.underlying22 uX rfl ag v l.length (dH l) p d ⟨f,0,KK⟩ 1 c y.cells m rfl (λj u q=>?_) (by simp[qn]) (by grind [maxLen]) af b (λv' w' h i=>k v' w' ?_ i)
 .rw[br,j0,au g];grind
 .unfold aG;rw[qN,eh];exact h
def s6(n:Nat)(x:aJ):aJ:=⟨h9 (x.t.toNat%n),h9 (x.h.toNat%n),nM (x.x.toNat%288230376151711744),4294967295⟩
def iV(n:Nat)(es:List aJ):List aJ:=if n=0 then [] else (es.take 80).map (s6 n)
theorem IV{n:Nat}(x:aJ):(s6 n x).t.toNat=x.t.toNat%n/\(s6 n x).h.toNat=x.h.toNat%n/\(s6 n x).x.toNat=x.x.toNat%288230376151711744/\(s6 n x).m.toNat=4294967295:=by
 have b:=Nat.mod_le x.t.toNat n;have a:=Nat.mod_le x.h.toNat n;have:=x.t.toNat_lt;have:=x.h.toNat_lt;refine⟨?_,?_,?_,rfl⟩
 .show(h9 _).toNat=_;grind [n9]
 .show(h9 _).toNat=_;grind [n9]
 .show(nM _).toNat=_;grind [UInt64.toNat_ofNat']
def Bn(w:KX)(n:Nat)(l:List aJ)(e:Lp)(w':KX):Prop:=
 ∃v,e=Mk (Ly #[n,v])/\Lg w w w'/\aG w' w.heap.size v l
theorem IW{w:KX}{ev:J3}{es:List aJ}(N F:Nat)(hN:N<256)(A:gR w ev es):K1 prog 4 #[.agg #[Kx MM N,ev,Kx MM F]] w (Bn w (N%25) (iV (N%25) es)):=by
 obtain⟨h,i,rfl,-⟩:=id A;have HE:=ae A;obtain⟨V,H⟩:=ac (N%25);have D:wrap64 (N:Int)=N:=by grind [wrap64]
 have P:(N:Int).tmod 25=(V:Int):=M2;have JP:Lk (V=N%25/\V<25):=ae ⟨H,af⟩;rw[<- H];obtain⟨M,z⟩:=ac es.length;have HM:=ae z;have G:Lk (Lg w w (w.alloc (Mi #[Kx MM N,.slice h M i,Kx MM F] 24))):=ae aj;have CZ:Lk ((w.alloc (Mi #[Kx MM N,.slice h M i,Kx MM F] 24)).heap[w.heap.size]? = IT (Mi #[Kx MM N,.slice h M i,Kx MM F] 24)):=ae (Lw _ _);have L:Lk (gR (w.alloc (Mi #[Kx MM N,.slice h M i,Kx MM F] 24)) (.slice h M i) es):=ae (by rw[z];exact A.below aj);obtain⟨l,O⟩:=ac (Bn w V (iV V es));have K:=ae O;rw[<- O];rw[<- z];clear A H z O hN;go_enter func4,ntmps4;go_wp2_with fail;generalize t:w.heap.size=wb at *;generalize w.alloc (Mi #[Kx MM N,.slice h M i,Kx MM F] 24)=e at *;have g:Lk (w.heap.size=wb/\wb<e.heap.size):=ae ⟨t,(ds.1 CZ.out).1⟩;clear t D P;go_loopw [5,6] (λvl S wr=>∃(k:Nat)(a:List aJ),S=k/\k<=M/\k<=80/\(k=0\/0<V)/\Lk (a=(es.take k).map (s6 V)/\Lg e e wr/\aG wr e.heap.size vl a)) (λ_ S _=>80-(Lo S).toNat)
 case atStart=>exact⟨0,[],rfl,em _,af,.inl rfl,ae ⟨rfl,kp _ _,gp _ _ _ _⟩⟩
 case round=>
  generalize u5=lv at *;obtain⟨k,a,rfl,hk,al,K7,c⟩:=hrel;generalize wr=f at *;obtain⟨C,B,rfl⟩:=aw c.out.2.2;have xJ:f.heap[wb]? = IT (Mi #[Kx MM N,.slice h M i,Kx MM F] 24):=(c.out.2.1.block _ g.out.2).trans CZ.out;have b1:f.cell? ⟨wb,1,KK⟩=IT (.slice h M i):=by rw[au xJ];rfl
  clear xJ;by_cases h1:k<M
  .have I:(k:Int)<M:=af;by_cases h2:k<80
   .have R:(k:Int)<80:=af;by_cases h3:0<V
    .have wk:cf Mm ((k:Int)+1)=(k+1:Nat):=by grind [ax]
     have wv:cf Mo (V:Int)=V:=by grind [Hid.out,cM]
     obtain⟨x,J⟩:∃x,es[k]? = IT x:=⟨_,bk Xy⟩;have HX:=ae J;obtain⟨a',r,BM,s⟩:=L.out.below c.out.2.1;obtain⟨rfl,-,rfl⟩:h=a'/\M=es.length/\i=r:=M2
     obtain⟨b,am,rfl,W⟩:=s.resolve_left M2;obtain⟨q0,q1,q2,q3⟩:=W k _ J;clear s W BM J;obtain⟨y,E⟩:=ac (s6 V x);have HY:=ae E;obtain⟨y0,y1,y2,y3⟩:=IV (n:=V) x;rw[<- E]at y0 y1 y2 y3;have cD:Lk (Lg e e (f.alloc (Mi #[Kx Mo (x.t.toNat:Int),Kx Mo (x.h.toNat:Int),Kx MJ (x.x.toNat:Int),Kx Mo (x.m.toNat:Int)] 63))):=ae (c.out.2.1.alloc c.out.2.1.size _);have Q:Lk (aG (f.alloc (Mi #[Kx Mo (x.t.toNat:Int),Kx Mo (x.h.toNat:Int),Kx MJ (x.x.toNat:Int),Kx Mo (x.m.toNat:Int)] 63)) e.heap.size (.slice C a.length B) a):=ae (World.ownsRow.alloc c.out.2.2 _);have p:Lk ((f.alloc (Mi #[Kx Mo (x.t.toNat:Int),Kx Mo (x.h.toNat:Int),Kx MJ (x.x.toNat:Int),Kx Mo (x.m.toNat:Int)] 63)).heap[f.heap.size]? = IT (Mi #[Kx Mo (x.t.toNat:Int),Kx Mo (x.h.toNat:Int),Kx MJ (x.x.toNat:Int),Kx Mo (x.m.toNat:Int)] 63)):=ae (Lw _ _);have HL:Lk (a=(es.take k).map (s6 V)/\a.length<=80):=ae ⟨c.out.1,Xy⟩;clear E c;go_wp2_with fail;clear q0 q1 q2 q3 b1;generalize f.heap.size=xb at *;generalize f.alloc (Mi #[Kx Mo (x.t.toNat:Int),Kx Mo (x.h.toNat:Int),Kx MJ (x.x.toNat:Int),Kx Mo (x.m.toNat:Int)] 63)=j at *;have Z:j.cell? xb=IT (Kx Mo (x.t.toNat:Int)):=by rw[au p.out];rfl
     have x1:j.cell? ⟨xb,1,KK⟩=IT (Kx Mo (x.h.toNat:Int)):=by rw[au p.out];rfl
     have x2:j.cell? ⟨xb,2,KK⟩=IT (Kx MJ (x.x.toNat:Int)):=by rw[au p.out];rfl
     have e0:(x.t.toNat:Int)%V=(y.t.toNat:Int):=af;have e1:(x.h.toNat:Int)%V=(y.h.toNat:Int):=af;have e2:(x.x.toNat:Int)%288230376151711744=(y.x.toNat:Int):=af;have t0:(x.t.toNat:Int).tmod (V:Int)=y.t.toNat:=Nd;have t1:(x.h.toNat:Int).tmod (V:Int)=y.h.toNat:=Nd;have t2:(x.x.toNat:Int).tmod 288230376151711744=(y.x.toNat:Int):=Nd;have e3:(4294967295:Int)=y.m.toNat:=af;have bd:¬V=0:=af;clear y0 y1 y2 y3;have YH:=jK _ _ Z;have o:Lk (∀ob,Lg j j (j.drew.alloc ob)):=ae (λob=>aq.drew.alloc (cg _) ob);have v:Lk (e.heap.size<=j.heap.size):=ae cD.out.size;go_region_law (refine Bl rfl _ _ rfl e.heap.size _ a rfl (World.ownsRow.alloc (World.ownsRow.drew Q.out) _) y _ 1 rfl (Lw _ _) (Nm HL.out) (cp v.out (o.out _).size) ?_;intro v5 w5 Y ha;have X:=ae ha;have m:=ae Y;clear ha Y)
     all_goals
      obtain⟨U,T,JU⟩:=aw m.out;subst JU;have fP:Lk (a++[y]=(es.take (k+1)).map (s6 V)/\Lg e e w5/\aG w5 e.heap.size (.slice U (a++[y]).length T) (a++[y])):=ae ⟨by rw[HL.out.1,HY.out,List.take_add_one,HX.out,k8];rfl,(bH (cD.out.trans ((o.out _).mono v.out)) (λb d=>aD Q.out b d) X.out).1,m.out⟩
      clear X m Q o t0 t1 t2 e0 e1 e2 e3 Z x1 x2 YH;generalize (a++[y]).length=L5 at *;go_wp2_with fail;go_roundw
      case rel=>grind
      grind [Lo]
    .have aE:¬(V:Int)>0:=af;have u:Lk (l (Mk (Ly #[V,.slice C a.length B])) f):=ae (by
      rw[K.out];obtain rfl:k=0:=af
      have d:=G.out;have q:=c.out;rw[g.out.1.symm]at d;refine⟨_,rfl,d.trans (q.2.1.mono d.size),?_⟩;grind [iV,aQ,Below.size])
     clear c;go_wp2;exact u.out
   .have R:¬(k:Int)<80:=af;have u:Lk (l (Mk (Ly #[V,.slice C a.length B])) f):=ae (by
     rw[K.out];obtain rfl:k=80:=af
     have d:=G.out;have q:=c.out;rw[g.out.1.symm]at d;refine⟨_,rfl,d.trans (q.2.1.mono d.size),?_⟩;grind [iV,aQ,Below.size])
    clear c;go_wp2;exact u.out
  .have I:¬(k:Int)<M:=af;have u:Lk (l (Mk (Ly #[V,.slice C a.length B])) f):=ae (by
    rw[K.out];obtain rfl:k=M:=af
    have d:=G.out;have q:=c.out;rw[g.out.1.symm]at d;refine⟨_,rfl,d.trans (q.2.1.mono d.size),?_⟩;have e1:a=iV V es:=by rw[q.1];unfold iV;grind [Hid.out]
    grind [aQ,Below.size])
   clear c;go_wp2;exact u.out
end Go.Proofs.YtofigggbapdfhaaGreatDoor
