/-
  Joined.
-/
import Derived.Test.YtofigggbapdfhaaGreatDoorR06
set_option maxRecDepth 100000
set_option maxHeartbeats 64000000
open Option renaming some->IT,none->KK,map_some->ql
open Bool renaming true->Jd,false->J0,false_eq_true->xv
open List renaming getElem?_eq_getElem->bk,mem_of_getElem?->cx,length_map->dj,length_append->eh,replicate->ei,length_take->et,take_of_length_le->ey,getElem?_eq_some_iff->e7,mem_map->gl,mem_append->hS,mem_iff_getElem?->hY,take_succ_cons->ii,length_cons->it,eq_nil_of_length_eq_zero->jJ,getElem?_map->j1,take_zero->j2,mem_range->j3,mem_singleton->kj,range->kk,length_filter_le->kq,length_filterMap_le->kt,map_append->k8,length_set->k9,length_singleton->lr,append_nil->nw,drop_succ_cons->ot,append_assoc->o0,length_replicate->pn,ext_getElem?->p5,pairwise_iff_getElem->qa,drop_zero->qd,mem_cons->qk,length_eq_zero_iff->sI,mem_filter->sR,not_mem_nil->tl,getElem?_replicate->xr,filter_append->yk,foldl_append->B1,filter_eq_nil_iff->Da,perm_ext_iff_of_nodup->Ft,getElem?_append_left->FD,getElem?_eq_none->GW,length_nil->Hl,length_pos_iff->If,filter_sublist->Is,length_zipIdx->IS
open Nat renaming le_refl->cg,le_trans->cp,lt_of_lt_of_le->eg,zero_le->em,zero_add->j0,le_of_lt->yi,mod_lt->Hc,mul_le_mul->IM,mul_le_mul_right->IR
open UInt32 renaming ofNat->h9,toNat_ofNat'->n9
open UInt64 renaming ofNat->nM
namespace Go.Proofs.YtofigggbapdfhaaGreatDoor
open Go.RowKit Go.Maps Go.MapKept
open Go.Proofs.Tryz
open Go renaming World->KX,Value->J3,Calls->K1,Ending->Lp,heap_alloc_new->Lw
open Go.RowKit renaming Below->Lg,Hid->Lk,wrap64->MY,intOf->Lo
open Go.Value renaming int->Kx,tuple->Ly,agg->LV
open Go.Obj renaming cells->Mi
open Go.Ending renaming returned->Mk
open Go.IntKind renaming i64->Mm,u32->Mo,u64->MJ,u8->MM
open Go.IntKind renaming wrap->cf
open Go.RowKit.Below renaming heap_setCell->e8,refl->kp
open Go.Value renaming slice->fz,oneCell'->qn
open Go.World renaming ownsRow_nil->gp
variable {ops:Array Oper}{f:Oper}{Q:Exit->Act->KX->Prop}{w':KX}{L':aL}{o':ay}{d':Dsk}{α β:Type}{u p:J3}{xs:List J3}{q:Array J3}
def C9(w:KX)(es:List aJ)(vs:List bZ)(e:Lp)(w':KX):Prop:=∃gv hv,e=Mk (LV #[gv,hv])/\gR w' gv es/\gW w' hv vs/\Lg w w w'/\(∀b,gv.ownBlock=IT b->w.heap.size<=b)/\∀b,hv.ownBlock=IT b->w.heap.size<=b
theorem Fm(s C:J3)(es:List aJ)(vs:List bZ)(w:KX)(F:gR w s es)(A:xV w C vs)(I:es.length<=10000)(N:vs.length<=1000):K1 prog 40 #[s,C] w (C9 w (aH J0 es) vs):=by
 have r:Lk (Lg w w (w.alloc (Mi #[.slice KK 0 0,.slice KK 0 0] 39))):=ae aj;have O:Lk ((w.alloc (Mi #[.slice KK 0 0,.slice KK 0 0] 39)).heap[w.heap.size]? = IT (Mi #[.slice KK 0 0,.slice KK 0 0] 39)):=ae (Lw w _);have D:=ae (xZ s es J0 _ (F.below r.out) af);have M:=ae A;have y:w.heap.size<(w.alloc (Mi #[.slice KK 0 0,.slice KK 0 0] 39)).heap.size:=ai;clear F A;go_enter func40,ntmps40;go_wp2_with fail;generalize w.alloc (Mi #[.slice KK 0 0,.slice KK 0 0] 39)=T at *;go_call D.out as e w1⟨gv,rfl,hg1,hb1⟩;obtain⟨d,f,g,rfl⟩:∃a n c,gv=.slice a n c:=by obtain⟨a,c,h,-⟩:=fG hg1;grind
 have t:Lk (∀b,(fz d f g).ownBlock=IT b->w.heap.size<b):=ae (λb l=>Nm (aD hg1 b l));have K:=ae (fG hg1);have m:=ae hb1;have Q:=ae ((M.out.below r.out).below hb1);clear hg1 hb1 D;go_wp2_with
  (refine nI (w:=w1) (by rfl) _ _ rfl rfl _ vs rfl Q.out af (λv2 B o p u=>?_)
   obtain⟨k,j,i,x⟩:∃a n c,v2=.slice a n c:=by obtain⟨a,c,h,-⟩:=o.out;grind
   subst x;have q:Lk (B.heap[w.heap.size]? = IT (Mi #[.slice KK 0 0,.slice KK 0 0] 39)):=ae (by rw[u.out.block _ (eg y m.out.size),m.out.block _ y];assumption)
   have U:B.cell? w.heap.size=IT (.slice KK 0 0):=by rw[au q.out];rfl
   have R:B.cell? ⟨w.heap.size,1,KK⟩=IT (.slice KK 0 0):=by rw[au q.out];rfl
   have z0:=aO q.out 0;have S:=aO q.out 1;have z:Lk (((B.setCell w.heap.size (.slice d f g)).setCell ⟨w.heap.size,1,KK⟩ (.slice k j i)).heap[w.heap.size]? = IT (Mi #[.slice d f g,.slice k j i] 39)):=ae (by rw[aS (aS q.out 0 (.slice d f g)) 1 (.slice k j i)];rfl)
   have L:Lk (Lg w w ((B.setCell w.heap.size (.slice d f g)).setCell ⟨w.heap.size,1,KK⟩ (.slice k j i))):=ae (((r.out.trans ((m.out.trans (u.out.mono m.out.size)).mono r.out.size)).setCell (cg _) _).setCell (cg _) _);have G:Lk (gR ((B.setCell w.heap.size (.slice d f g)).setCell ⟨w.heap.size,1,KK⟩ (.slice k j i)) (.slice d f g) (aH J0 es)):=ae ((K.out.below u.out).other (λb l=>by grind [Hid.out,e8]))
   have P:Lk (gW ((B.setCell w.heap.size (.slice d f g)).setCell ⟨w.heap.size,1,KK⟩ (.slice k j i)) (.slice k j i) vs):=ae (o.out.SP (λb l=>by have I:=p.out b l;have N:=m.out.size;grind [e8]))
   clear O)
 generalize ((B.setCell w.heap.size (.slice d f g)).setCell ⟨w.heap.size,1,KK⟩ (.slice k j i))=E at *;have J:E.cell? w.heap.size=IT (.slice d f g):=by rw[au z.out];rfl
 have H:E.cell? ⟨w.heap.size,1,KK⟩=IT (.slice k j i):=by rw[au z.out];rfl
 exact bodyPost_ret (v:=LV #[.slice d f g,.slice k j i]) (by simp[results,Tryz.results40,go_sem,J,H]) rfl ⟨_,_,rfl,G.out,P.out,L.out,λb l=>yi (t.out b l),λb l=>cp (cp (yi y) m.out.size) (p.out b l)⟩
theorem zM{w:KX}{rest:List Oper}{a:Act}(d:f.guard=KK)(s x:Operand)(m:f.op=.call { callee:=.builtin .append,args:=#[s,x],argTypes:=#[37,37] })(base:Nat)(v:J3)(l:List bZ)(n:a.eval s=v)(b:dr w base v l)(y:bZ)(c:Nat)(i:a.eval x=.slice w.heap.size 1 c)(p:l.length<=100000)(e:base<=w.heap.size)(k:∀v' w',dr w' base v' (l++[y])->gP v (w.alloc (Mi #[y.r,y.l,y.g] 110)) w' v'->wpList prog ops Q rest (a.put f.dst v') w') :
 wpList prog ops Q (f::rest) a (w.alloc (Mi #[y.r,y.l,y.g] 110)):=by
 refine ct d s x 37 m base 110 _ 3 12 Tryz.underlying37 rN rfl ag v l.length (cz l) n (World.ownsRow.alloc b _) ⟨w.heap.size,0,KK⟩ 1 c [y.r,y.l,y.g] i rfl (λj u o=>?_) (by simp[qn]) (by grind [maxLen]) af (by simp;omega) (λv' w' g h=>k v' w' ?_ h)
 .rw[br,j0];simp_all
 .unfold dr;rw[qT,eh];exact g
def iW:bZ:=⟨4294967295,0,0⟩
theorem dF(b:Bool):aH b []=[]:=((bM b []).unique (eG.nil b))
theorem xe{y:J3}{l:List aJ}(n:Nat)(A:n<=100)(w:KX)(u:gR w y l)(q:l.length<=1000):K1 prog 18 #[n,y] w (C9 w (aH J0 l) (ei n iW)):=by
 have HN:=ae A;have p:=ae (show _/\_ from⟨u,q⟩);obtain⟨R,S,rfl,-⟩:=id u;have z:Lk (Lg w w (w.alloc (Mi #[.slice KK 0 0,.slice KK 0 0] 39))):=ae aj;have U:Lk ((w.alloc (Mi #[.slice KK 0 0,.slice KK 0 0] 39)).heap[w.heap.size]? = IT (Mi #[.slice KK 0 0,.slice KK 0 0] 39)):=ae (Lw _ _);have I:w.heap.size<(w.alloc (Mi #[.slice KK 0 0,.slice KK 0 0] 39)).heap.size:=ai;have L:=ae I;clear A I u q;go_enter func18,ntmps18;go_wp2_with fail;generalize w.alloc (Mi #[.slice KK 0 0,.slice KK 0 0] 39)=i at *;go_loopw [5,6] (λT t wr=>∃(k:Nat),t=k/\k<=n/\Lk (Lg i i wr/\dr wr i.heap.size T (ei k iW))) (λ_ t _=>n-(Lo t).toNat)
 case atStart=>exact⟨0,rfl,em _,ae ⟨kp _ _,gp _ _ _ _⟩⟩
 case round=>
  generalize u5=lv at *;obtain⟨k,rfl,hk,d⟩:=hrel;generalize wr=V at *;obtain⟨P,J,D⟩:=aw d.out.2;rw[pn]at D;subst D;by_cases W:k<n
  .have O:(k:Int)<n:=af;have Y:cf Mm ((k:Int)+1)=(k+1:Nat):=by grind [Hid.out,ax]
   have yL:k<=100000:=by grind [Hid.out]
   go_wp2_with (at_builtin;go_loud (refine zM rfl _ _ rfl i.heap.size _ (ei k iW) rfl d.out.2 iW 1 (by rfl) M2 d.out.1.size ?_);intro v2 B Q E;have fP:Lk (Lg i i B/\dr B i.heap.size v2 (ei (k+1) iW)):=ae ⟨(bH (d.out.1.alloc d.out.1.size _) (λb m=>aD d.out.2 b m) E).1,by grind [List.replicate_succ']⟩;clear Q E);grind [Lo]
  .have O:¬(k:Int)<n:=af;obtain rfl:k=n:=af
   have G:=ae (Fm (.slice R l.length S) (.slice P k J) l (ei k iW) V ((p.out.1.below z.out).below d.out.1) (jY d.out.2).1.rd (Nm p.out.2) Xy);go_wp2_with fail;go_call G.out as e B⟨gv,hv,rfl,hg2,hv2,hb2,al2,asi⟩;obtain⟨c,f,rfl,-⟩:=id hg2;obtain⟨g,a,rfl,-⟩:=id hv2;have o:=d.out.1.size;have r:=L.out;have j:Lk (B.heap[w.heap.size]? = IT (Mi #[.slice KK 0 0,.slice KK 0 0] 39)):=ae ((hb2.block _ af).trans ((d.out.1.block _ r).trans U.out));have k0:B.cell? w.heap.size=IT (.slice KK 0 0):=by rw[au j.out];rfl
   have X:B.cell? ⟨w.heap.size,1,KK⟩=IT (.slice KK 0 0):=by rw[au j.out];rfl
   have Z:=aO j.out 0;have f1:=aO j.out 1;have C:Lk (Lg w w ((B.setCell w.heap.size (.slice c (aH J0 l).length f)).setCell ⟨w.heap.size,1,KK⟩ (.slice g (ei k iW).length a))):=ae (((z.out.trans ((d.out.1.trans (hb2.mono o)).mono af)).setCell (cg _) _).setCell (cg _) _);have s:Lk (((B.setCell w.heap.size (.slice c (aH J0 l).length f)).setCell ⟨w.heap.size,1,KK⟩ (.slice g (ei k iW).length a)).heap[w.heap.size]? = IT (Mi #[.slice c (aH J0 l).length f,.slice g (ei k iW).length a] 39)):=ae (by rw[aS (aS j.out 0 (.slice c (aH J0 l).length f)) 1 (.slice g (ei k iW).length a)];rfl)
   have x:Lk (gR ((B.setCell w.heap.size (.slice c (aH J0 l).length f)).setCell ⟨w.heap.size,1,KK⟩ (.slice g (ei k iW).length a)) (.slice c (aH J0 l).length f) (aH J0 l)):=ae (hg2.other (λb m=>by have:=al2 b m;rw[e8 _ _ _ _ (show b≠w.heap.size by omega),e8 _ _ _ _ (show b≠w.heap.size by omega)]))
   have H:Lk (gW ((B.setCell w.heap.size (.slice c (aH J0 l).length f)).setCell ⟨w.heap.size,1,KK⟩ (.slice g (ei k iW).length a)) (.slice g (ei k iW).length a) (ei k iW)):=ae (hv2.SP (λb m=>by grind [e8]))
   have h:Lk ((∀b,(fz c (aH J0 l).length f).ownBlock=IT b->w.heap.size<=b)/\∀b,(fz g (ei k iW).length a).ownBlock=IT b->w.heap.size<=b):=ae ⟨λb m=>M2,λb m=>M2⟩;rw[pn]at C s x H h ⊢;generalize (aH J0 l).length=M at *;clear hg2 hv2 hb2 al2 asi G j o r;go_wp2_with fail;generalize (B.setCell w.heap.size (.slice c M f)).setCell ⟨w.heap.size,1,KK⟩ (.slice g k a)=F at *;have N:F.cell? w.heap.size=IT (.slice c M f):=by rw[au s.out];rfl
   have K:F.cell? ⟨w.heap.size,1,KK⟩=IT (.slice g k a):=by rw[au s.out];rfl
   exact bodyPost_ret (v:=LV #[.slice c M f,.slice g k a]) (by simp[results,Tryz.results18,go_sem,N,K]) rfl ⟨_,_,rfl,x.out,H.out,C.out,h.out.1,h.out.2⟩
theorem KM(n:Nat)(a:n<=100)(w:KX):K1 prog 18 #[n,.slice KK 0 0] w (C9 w [] (ei n iW)):=by have:=xe n a w (YP w) ai;rwa [dF]at this
structure CL(L:aL)(l:List aJ)(n:Nat):Prop where
 e:aI L (aF 101 0)=IT (az (aH J0 l) Jd)
 r:aI L (aF 114 0)=IT (az (aH Jd l) Jd)
 v:aI L (aF 118 0)=IT (cH (ei n iW) Jd)
 vB:∀y,y≠aF 101 0->y≠aF 114 0->y≠aF 118 0->aI L y=KK
 need:need L<=12*l.length+4*n
theorem acV{L:aL}{l:List aJ}{n:Nat}(h:GX l L):CL (b9 (iJ L 0 l (ei n iW)) CF) l n:=by
 obtain⟨g,f,i⟩:=B7 L 0 l (ei n iW);refine⟨by rw[cV,if_neg (sN _ _),g],by rw[cV,if_neg (sN _ _),f],by rw[cV,if_neg (sN _ _),i],λy c d a=>?_,?_⟩
 .rw[cV];by_cases e:y=CF
  .rw[if_pos e]
  .rw[if_neg e,vC c d a,h.2.1 y e]
 .have k:=KH (iJ L 0 l (ei n iW)) CF;have b:=EF L 0 l (ei n iW);have j:=h.2.2;rw[pn]at b;omega
def KO(w:KX)(n:Nat)(l:List aJ)(N:Nat)(e:Lp)(w':KX):Prop:=
 ∃db pb o d L,e=Mk (Ly #[ptrTo db,ptrTo pb])/\Held w w' pb db n o d L/\CL L l N
theorem qW(n:Nat)(es:List aJ):(iV n es).length<=80:=by
 unfold iV;split
 .simp
 .rw[dj,et];omega
theorem Ci(R:aV){m:Nat}(CB:eW m){w:KX}{G:J3}{es:List aJ}(N F:Nat)(E:N<256)(hF:F<256)(y:gR w G es)(I:(iV (N%25) es).length<=m):K1 prog 5 #[LV #[Kx MM N,G,Kx MM F]] w (KO w (8+F%40) (iV (N%25) es) (N%25)):=by
 have M:=ae (λW(hW:Lg w w W)=>IW N F E (y.below hW));have H:=ae (qW (N%25) es);have t:=ae I;obtain⟨f,g,rfl,-⟩:=id y;generalize hV:N%25=V at *;have P:Lk (V<25):=ae af;obtain⟨z,U⟩:=ac (F%40);have r:MY (F:Int)=F:=by unfold MY;omega
 have x:(F:Int)%40=(z:Int):=af;have C:cf Mm (8+(z:Int))=(8+z:Nat):=by rw[ax]<;>omega
 have HZ:Lk (z<40):=ae af;rw[<- U];generalize iV V es=l at *;have L:Lk (Lg w w (w.alloc (Mi #[Kx MM N,.slice f es.length g,Kx MM F] 24))):=ae aj;have T:Lk ((w.alloc (Mi #[Kx MM N,.slice f es.length g,Kx MM F] 24)).heap[w.heap.size]? = IT (Mi #[Kx MM N,.slice f es.length g,Kx MM F] 24)):=ae (Lw _ _);obtain⟨u,A⟩:=ac (KO w (8+z) l V);have Bj:=ae A;rw[<- A];clear y I hV U E hF A;generalize es.length=X at *;go_enter func5,ntmps5;go_wp2_with fail;generalize k:w.heap.size=wb at *;generalize w.alloc (Mi #[Kx MM N,.slice f X g,Kx MM F] 24)=S at *;have d:Lk (w.heap.size=wb/\wb<S.heap.size):=ae ⟨k,(Array.getElem?_eq_some_iff.1 T.out).1⟩;clear k;have a:=ae (M.out S L.out);unfold Bn at a;go_call a.out as e w1⟨v1,rfl,hb1,mJ⟩;obtain⟨a1,c1,rfl⟩:=aw mJ;have O:w1.heap[wb]? = IT (Mi #[Kx MM N,.slice f X g,Kx MM F] 24):=(hb1.block _ d.out.2).trans T.out;have b2:w1.cell? ⟨wb,2,KK⟩=IT (Kx MM F):=by rw[au O];rfl
 have cD:Lk (Lg wb w w1):=ae (L.out.trans (hb1.mono (yi d.out.2)));have v:=ae (ab2 R (8+z) af (Nm HZ.out) _ l w1 (fG mJ) (Nm H.out));unfold Sp ptrTo at v;clear hb1 mJ O a M;go_wp2_with fail;go_call v.out as e B⟨db,pb,o2,d2,L2,rfl,hh2,hr2⟩;have j:=ae hh2;have s:=ae hr2;have i:=ae (KM V (Nm P.out) B);clear hh2 hr2 v b2 r x C;unfold ptrTo C9 at *;go_wp2_with fail;go_call i.out as e w3⟨gv,hv,rfl,-,hv3,hb3,-,kF⟩;have Z:=ae (j.out.later hb3);have q:=ae (Ui R CB Z.out af s.out (gen:=0) (.inl ag) t.out (Nm H.out) hv3 (λb hb=>j.out.bh.fresh (kF b hb)) (by rw[pn];have:=P.out;omega));obtain⟨Y,K,rfl,-⟩:=hv3;rw[pn]at q ⊢;have am:∀w:KX,(Instr.field 39 (LV #[gv,.slice Y V K]) 1).run prog w=.ok (.slice Y V K) w:=λ_=>ah
 unfold Nk CF ptrTo at q;clear hb3 kF i;go_wp2_with fail;go_call q.out as e w4⟨d4,o4,rfl,Vw⟩;have al:=ae Vw;have hdr:Lk (K1 prog 20 #[ptrTo pb,.string CF] w4 λe w'=>∃p o,e=Mk (Kx Mm 0)/\Held w1 w' pb db (8+z) o p (b9 (iJ L2 0 l (ei V iW)) CF)):=ae (by
  obtain⟨fl,RR⟩:=s.out.1;refine(y6 Vw.bh (name:=CF) (by rw[vC (sN _ _).symm (sN _ _).symm (sN _ _).symm];exact RR)).mono ?_;rintro e w'⟨c,p,o,CS,rfl,hp,ht,hg,vQ,hdr⟩;have dA:Moved (λ_=>False) (8+z) pb db w4 o4 d4 w' o p CS:=lj hp ht hg vQ;have J:=Vw.moved dA (λ_ e=>e.elim);rcases hdr with⟨rfl,rfl⟩|⟨-,Q,-⟩
  .exact⟨p,o,rfl,J⟩
  .rw[J.dead]at Q;cases Q)
 unfold CF ptrTo at hdr;clear Vw q;go_wp2_with fail;go_call hdr.out as e w5⟨d5,o5,rfl,S7⟩;have h:Lk (u (Mk (Ly #[ptrTo db,ptrTo pb])) w5):=ae (by rw[Bj.out];have D:=acV (n:=V) s.out;unfold CF at D;exact⟨db,pb,o5,d5,_,rfl,S7.agL (by have:=cD.out;rwa [d.out.1]),D⟩)
 clear S7 hdr;unfold ptrTo at h;go_wp2;exact h.out
def Li:List aJ:=[⟨0,1,1,4294967295⟩,⟨1,2,1,4294967295⟩]
def acW:List bZ:=[iW,iW,iW]
def CM:List bZ:=[⟨0,1,0⟩,⟨4294967295,1,2⟩,⟨1,1,0⟩]
def Rc:List bZ:=[⟨0,1,0⟩,⟨2,2,2⟩,⟨1,1,0⟩]
theorem rS(b:Bool):aH b Li=Li:=by
 refine(eG.eq ⟨?_,λe c=>?_,λx a _=>⟨x,a,rfl,rfl⟩⟩).symm
 .cases b<;>decide
 .refine⟨c,?_,λx a f=>?_⟩
  .revert e;decide
  .have d:∀x∈Li,∀e∈Li,x.t=e.t->x=e:=ag;rw[d x a e c f.1];simp
theorem ZO:iV 3 [⟨0,1,1,0⟩,⟨1,2,1,0⟩]=Li:=ag
theorem zN:aP Li acW=[0,2]:=by unfold aP dy nL dD;unfold aY eD;simp only[rS];rfl
theorem zO:aP [] CM=[1]:=by unfold aP dy nL dD;unfold aY eD;simp only[dF];rfl
theorem zP:aP [] Rc=[]:=by rfl
theorem ZP:gB Li [0,2]=[]:=by unfold gB fe eK;unfold aY eD;simp only[rS];rfl
theorem ZQ:gB [] [1]=[]:=by unfold gB fe eK;unfold aY eD;simp only[dF];rfl
theorem al3:rh Li [0,2]=[⟨0,1,1,4294967295⟩]:=by unfold rh aY;simp only[rS];rfl
theorem ZR:dU Li [0,2]=[⟨1,2,1,4294967295⟩]:=by unfold dU eD;simp only[rS];rfl
theorem al4:rh [] [1]=[]:=by unfold rh aY;simp only[dF];rfl
theorem ZT:dU [] [1]=[]:=by unfold dU eD;simp only[dF];rfl
theorem acX:dE Li acW 0 0 [0,2]=CM:=by unfold dE gq dD;unfold aY eD;simp only[rS];rfl
theorem acY:dE [] CM 2 1 [1]=Rc:=by unfold dE gq dD;unfold aY eD;simp only[dF];rfl
section
variable {w0 w:KX}{pb db:Nat}{o:ay}{d:Dsk}{L:aL}
theorem asj(b:Held w0 w pb db 8 o d L)(a:CL L Li 3)(m:Nat):ZK w0 w pb db 8 o d L 0 0 m Li acW:=by
 have f:=a.need;have e:Li.length=2:=rfl;refine⟨b,ag,ag,a.e,a.r,a.v,ag,ag,ag,?_,λc=>a.vB _ (bG ag) (bG ag) (bG ag),λk=>a.vB _ (bF _ ag _ _).symm (bF _ ag _ _).symm (bF _ ag _ _).symm,?_,?_,?_,?_⟩
 .unfold dy;exact cp (kt _ _) ag
 .grind [zN,ZP]
 .rw[zN,ZP,al3,ZR,e];have:acW.length=3:=rfl;grind
 .grind [zN]
 grind [eD,Li,eJ,rS,aY]
theorem asl(f:Held w0 w pb db 8 o d L')(i:CL L Li 3)(a:kg L L' 0 [] [⟨0,1,1,4294967295⟩] [⟨1,2,1,4294967295⟩] CM)(m:Nat):ZK w0 w pb db 8 o d L' 1 2 m [] CM:=by
 have p:=i.need;have l:Li.length=2:=rfl;have j:=a.need;have e:=jd (aH J0 []);have b:=jd (aH Jd []);have g:=jd [⟨0,1,1,4294967295⟩];have h:=jd [⟨1,2,1,4294967295⟩];have n:vN CM<=4*CM.length:=iR _ _;rw[dF]at e b;rw[dF,dF]at j;simp only[Hl,lr]at e b g h;have q:CM.length=3:=rfl;refine⟨f,ag,ag,a.e,a.r,a.v,ag,ag,ag,?_,λc=>?_,λk=>?_,?_,?_,?_,?_⟩
 .unfold dy;exact cp (kt _ _) ag
 .rw[a.vB _ (bG ag) (bG ag) (bG ag) (bG ag) (bG ag)];grind [CL.vB,bG]
 .rw[a.vB _ (bF _ ag _ _).symm (bF _ ag _ _).symm (bF _ ag _ _).symm (bF _ ag _ _).symm (bF _ ag _ _).symm];grind [CL.vB,bF]
 .grind [zO,ZQ]
 .grind [zO,ZQ,al4,ZT]
 .grind [zO]
 grind [eD,eJ,dF]
theorem asm{f:aL}(h:Held w0 w pb db 8 o d L')(l:CL f Li 3)(b:kg f L 0 [] [⟨0,1,1,4294967295⟩] [⟨1,2,1,4294967295⟩] CM)(a:kg L L' 1 [] [] [] Rc)(m:Nat):ZK w0 w pb db 8 o d L' 2 3 m [] Rc:=by
 have t:=l.need;have q:Li.length=2:=rfl;have n:=a.need;have p:=b.need;have g:=jd (aH J0 []);have e:=jd (aH Jd []);have i:=jd [⟨0,1,1,4294967295⟩];have j:=jd [⟨1,2,1,4294967295⟩];have r:vN CM<=4*CM.length:=iR _ _;have s:vN Rc<=4*Rc.length:=iR _ _;rw[dF]at g e;rw[dF,dF]at n p;simp only[Hl,lr]at g e i j;have v:CM.length=3:=rfl;have u:Rc.length=3:=rfl;refine⟨h,ag,ag,a.e,a.r,a.v,ag,ag,ag,?_,λc=>?_,λk=>?_,?_,?_,?_,?_⟩
 .unfold dy;exact cp (kt _ _) ag
 .rw[a.vB _ (bG ag) (bG ag) (bG ag) (bG ag) (bG ag),b.vB _ (bG ag) (bG ag) (bG ag) (bG ag) (bG ag)];grind [CL.vB,bG]
 .rw[a.vB _ (bF _ ag _ _).symm (bF _ ag _ _).symm (bF _ ag _ _).symm (bF _ ag _ _).symm (bF _ ag _ _).symm,b.vB _ (bF _ ag _ _).symm (bF _ ag _ _).symm (bF _ ag _ _).symm (bF _ ag _ _).symm (bF _ ag _ _).symm];grind [CL.vB,bF]
 .grind [zP,gB,fe,dF]
 .grind [zP,gB,fe,dF,rh,dU]
 .grind [zP]
 grind [eD,eJ,dF]
end
def gN:Nat->Nat
 |0=>0
 |s+1=>gN s+(8*(s*s)+8*s+96)
theorem ahi(r k:Nat):gN r+k*(8*(r*r)+8*r+96)<=gN (r+k):=by
 induction k with
 |zero=>simp
 |succ k a=>have h:=IM (show r<=r+k by omega) (show r<=r+k by omega);rw[Nat.add_mul,Nat.one_mul,show r+(k+1)=(r+k)+1 by omega,gN];omega
section
variable {N done gen n pb db:Nat}{es:List aJ}{vs:List bZ}{w0 w:KX}{o:ay}{d:Dsk}{L:aL}{b:Bool}
def Bo(N:Nat)(vs:List bZ):List Nat:=(kk N).filter λi=>!ny vs i
theorem rQ.rest(h:rQ N es vs done):(Bo N vs).length+done=N:=by have h1:=Cg (l:=kk N) (p:=ny vs) (q:=λi=>!ny vs i) (r:=λ_=>Jd) (λx _=>ai) (λx _ h1 a=>by simp[h1]at a);rw[h.count,List.filter_eq_self.2 (λ_ _=>rfl),List.length_range]at h1;unfold Bo;omega
theorem Om{i:Nat}:i∈Bo N vs↔i<N/\ny vs i=false:=by unfold Bo;simp
theorem yf(b:Bool)(l:List aJ):((aH b l).map λx=>(x.t.toNat,x.h.toNat)).Nodup:=by refine List.pairwise_map.2 ((bM b l).il.imp λ{x y}h e=>?_);rw[Prod.mk.injEq]at e;unfold pk at h;cases b<;>simp only[if_true,if_false,xv]at h<;>omega
theorem pB{l:List α}{f:α->List β}{m:Nat}(h:∀x∈l,(f x).length<=m):(l.flatMap f).length<=l.length*m:=by
 induction l with
 |nil=>simp
 |cons a l c=>have:=h a ai;have:=c λx b=>h x (by simp[b]);rw[List.flatMap_cons,eh,it,Nat.add_mul];omega
theorem SS{l:List aJ}{S:List Nat}(g:l.Sublist (aH b es))(h:∀x∈l,x.t.toNat∈S/\x.h.toNat∈S):l.length<=S.length*S.length:=by
 have f:(l.map λx=>(x.t.toNat,x.h.toNat)).Nodup:=(g.map _).nodup (yf b es);have d:=lz (l₂:=S.flatMap λa=>S.map λc=>(a,c)) f (λp i=>by obtain⟨x,e,rfl⟩:=gl.1 i;exact List.mem_flatMap.2 ⟨_,(h x e).1,gl.2 ⟨_,(h x e).2,rfl⟩⟩)
 rw[dj]at d;exact cp d (pB λa _=>ai)
theorem ZU{v:Nat}{S:List Nat}(h:∀x∈aY es v,x.h.toNat∈S):(aY es v).length<=S.length:=by
 have e:((aY es v).map λx=>(x.t.toNat,x.h.toNat)).Nodup:=((Is).map _).nodup (yf J0 es);have d:=lz (l₂:=S.map λc=>(v,c)) e (λp b=>by obtain⟨x,a,rfl⟩:=gl.1 b;exact gl.2 ⟨_,h x a,by rw[(vz.1 a).2]⟩)
 simpa using d
theorem aeC{v:Nat}{S:List Nat}(h:∀x∈eD es v,x.t.toNat∈S):(eD es v).length<=S.length:=by
 have e:((eD es v).map λx=>(x.t.toNat,x.h.toNat)).Nodup:=((Is).map _).nodup (yf Jd es);have d:=lz (l₂:=S.map λc=>(c,v)) e (λp b=>by obtain⟨x,a,rfl⟩:=gl.1 b;exact gl.2 ⟨_,h x a,by rw[(Bh.1 a).2]⟩)
 simpa using d
theorem rQ.sizes(h:rQ N es vs done)(H:done+(aP es vs).length<=1000){k s:Nat}(p:k=(aP es vs).length)(J:s+done+k=N) :
 (aH J0 (gB es (aP es vs))).length<=s*s/\(aH Jd (gB es (aP es vs))).length<=s*s/\(gB es (aP es vs)).length<=s*s+k*(s*s)/\(rh es (aP es vs)).length<=k*s/\(dU es (aP es vs)).length<=k*s:=by
 have D:=h.next (gen:=0) H;have I:=D.rest;obtain⟨S,q⟩:=ac (Bo N (dE es vs done 0 (aP es vs)));have l:S.length=s:=by rw[q];omega
 have u:∀i x,vs[i]? = IT x->x.r=4294967295->i ∉ aP es vs->i∈S:=λi x e n j=>by rw[q,Om];refine⟨by rw[<- h.len];exact aK e,?_⟩;have d:=C7 (es:=es) (was:=vs) (done:=done) (gen:=0) j;rw[e]at d;obtain⟨y,E,A⟩:=Option.map_eq_some_iff.1 d;unfold ny;rw[E];simp[A,n]
 have f:∀x∈aH J0 es,(x.t.toNat ∉ aP es vs->x.t.toNat∈S)/\(x.h.toNat ∉ aP es vs->x.h.toNat∈S):=λx e=>by obtain⟨a,c,d,g,o,w⟩:=h.ends x (iN.1 e).1;exact⟨u _ _ d o,u _ _ g w⟩
 have r:∀v∈aP es vs,(aY es v).length<=s:=λv hv=>by rw[<- l];refine ZU λx e=>?_;have d:=vz.1 e;exact(f x d.1).2 λj=>sY hv j (uH.2 ⟨x,d.1,.inl ⟨d.2,rfl⟩⟩)
 have hi:∀v∈aP es vs,(eD es v).length<=s:=λv hv=>by rw[<- l];refine aeC λx e=>?_;have d:=Bh.1 e;exact(f x d.1).1 λj=>sY hv j (uH.2 ⟨x,d.1,.inr ⟨d.2,rfl⟩⟩)
 have t:∀b,(aH b (gB es (aP es vs))).length<=s*s:=λb=>by rw[<- l];refine SS (List.Sublist.refl _) λx e=>?_;obtain⟨d,g,⟨y,B,F⟩,⟨z,G,C⟩⟩:=Og (iN.1 e).1;rw[<- F]at d ⊢;rw[<- C]at g ⊢;exact⟨(f y B).1 d,(f z G).2 g⟩
 refine⟨t J0,t Jd,?_,?_,?_⟩
 .unfold gB;rw[eh];refine Nat.add_le_add ?_ ?_
  .rw[<- l];refine SS (b:=J0) (es:=es) Is λx e=>?_;obtain⟨d,g,o⟩:=Oe.1 e;exact⟨(f x d).1 g,(f x d).2 o⟩
  .rw[p];refine pB λv hv=>?_;unfold eK ju;refine cp (pB (m:=s) λa _=>cp (kt _ _) ?_) (IR _ (hi v hv));rw[show(h9 v).toNat=v by rw[n9];have:=kN hv;have:=h.len;have:=h.top;omega];exact r v hv
 .rw[p];exact pB r
 .rw[p];exact pB hi
structure uL(w0 w:KX)(pb db n:Nat)(o:ay)(d:Dsk)(L:aL)(N gen done:Nat)(es:List aJ)(vs:List bZ):Prop where
 held:Held w0 w pb db n o d L
 frames:8<=n
 ok:rQ N es vs done
 top:N<=24
 gd:gen<=done
 e:aI L (aF 101 gen)=IT (az (aH J0 es) Jd)
 r:aI L (aF 114 gen)=IT (az (aH Jd es) Jd)
 v:aI L (aF 118 gen)=IT (cH vs Jd)
 len:es.length<=600
 free:∀c g,gen<g->aI L (aF c g)=KK
 nt:∀k,aI L (eu k)=KK
 need:need L+gN (N-done)<=40200
theorem uL.moved(h:uL w0 w pb db n o d L N gen done es vs)(a:Moved (λ_=>False) n pb db w o d w' o' d' L):uL w0 w' pb db n o' d' L N gen done es vs:={ h with held:=h.held.moved a λ_ e=>e.elim }
theorem zQ:∀s<25,∀k<25,s+k<=24->s*s+k*(s*s)<=2400/\k*s<=144/\s*s<=576:=ag
theorem uL.rn(h:uL w0 w pb db n o d L N gen done es vs):ZK w0 w pb db n o d L gen done 2400 es vs:=by
 have u:done+(aP es vs).length<=N:=by
  have e:=(h.ok.next (gen:=0) (by
   have:=h.ok.vA;have g:(aP es vs).length<=vs.length:=by have:=lz (l₂:=kk vs.length) ((jy es vs).imp λh=>Nat.ne_of_lt h) (λv hv=>j3.2 (kN hv));simpa using this
   have:=h.ok.len;have:=h.top;omega)).vA
  exact e
 have j:=h.top;have y:=h.gd;have z:=h.ok.len;obtain⟨e,g,m,p,s⟩:=h.ok.sizes af rfl (show(N-(done+(aP es vs).length))+done+(aP es vs).length=N by omega);obtain⟨r,t,q⟩:=zQ (N-(done+(aP es vs).length)) af (aP es vs).length af af;have f:∀x∈es,x.t.toNat<vs.length/\x.h.toNat<vs.length:=λx b=>by obtain⟨a,c,e,g,-⟩:=h.ok.ends x b;exact⟨aK e,aK g⟩
 have A:=h.need;have i:=h.len;refine⟨h.held,h.frames,af,h.e,h.r,h.v,af,af,f,?_,λc=>h.free c _ af,h.nt,af,af,af,λv _=>?_⟩
 .unfold dy;refine cp (kt _ _) ?_;rw[IS];omega
 .have l:(aY es v).length<=N:=by have:=ZU (es:=es) (v:=v) (S:=kk N) λx b=>j3.2 (Nm ((f x (iN.1 (vz.1 b).1).1).2));simpa using this
  have k:(eD es v).length<=N:=by have:=aeC (es:=es) (v:=v) (S:=kk N) λx b=>j3.2 (Nm ((f x (iN.1 (Bh.1 b).1).1).1));simpa using this
  have:=IM (cp k j) (cp l j);omega
theorem uL.next(h:uL w0 w pb db n o d L N gen done es vs)(l:aP es vs≠[])(t:Held w0 w' pb db n o' d' L')(b:kg L L' gen (gB es (aP es vs)) (rh es (aP es vs)) (dU es (aP es vs)) (dE es vs done gen (aP es vs))) :
 uL w0 w' pb db n o' d' L' N (gen+1) (done+(aP es vs).length) (aH J0 (gB es (aP es vs))) (dE es vs done gen (aP es vs)):=by
 have R:=h.rn.dlt;have z:0<(aP es vs).length:=If.2 l;have m:done+(aP es vs).length<=1000:=by
  have y:(aP es vs).length<=vs.length:=by have:=lz (l₂:=kk vs.length) ((jy es vs).imp λh=>Nat.ne_of_lt h) (λv hv=>j3.2 (kN hv));simpa using this
  have:=h.ok.vA;have:=h.ok.len;have:=h.top;omega
 have i:=h.ok.next (gen:=gen) m;have u:=i.vA;have x:=h.top;obtain⟨C,y,E,A,K⟩:=h.ok.sizes m rfl (show(N-(done+(aP es vs).length))+done+(aP es vs).length=N by omega);obtain⟨B,O,F⟩:=zQ (N-(done+(aP es vs).length)) af (aP es vs).length af af;have j:=ahi (N-(done+(aP es vs).length)) (aP es vs).length;rw[show N-(done+(aP es vs).length)+(aP es vs).length=N-done by omega]at j;have P:=jd (aH J0 (gB es (aP es vs)));have D:=jd (aH Jd (gB es (aP es vs)));have Q:=jd (rh es (aP es vs));have G:=jd (dU es (aP es vs));have q:vN (dE es vs done gen (aP es vs))<=4*(dE es vs done gen (aP es vs)).length:=iR _ _;rw[i.len]at q;have I:=b.need;have H:=h.need;have e:∀(c p:UInt8)g,gen+1<g->aF c g≠aF p (gen+1):=λc p g a=>bG af;have f:∀k c,c≠116->eu k≠aF c (gen+1):=λk c r=>(bF c r _ _).symm;refine⟨t,h.frames,i,x,Nm h.gd,?_,?_,b.v,af,λc g a=>?_,λk=>?_,?_⟩
 .rw[oB];exact b.e
 .rw[oB];exact b.r
 .rw[b.vB _ (e _ _ _ a) (e _ _ _ a) (e _ _ _ a) (e _ _ _ a) (e _ _ _ a)];exact h.free c g af
 .rw[b.vB _ (f _ _ ag) (f _ _ ag) (f _ _ ag) (f _ _ ag) (f _ _ ag)];exact h.nt k
 .generalize N-(done+(aP es vs).length)=s at *;generalize (aP es vs).length=k at *;have J:s*s<=k*(s*s):=Nat.le_mul_of_pos_left _ z;have M:k*(8*(s*s)+8*s+96)=8*(k*(s*s))+8*(k*s)+96*k:=by rw[Nat.mul_add,Nat.mul_add];simp only[Nat.mul_left_comm k 8];omega
  omega
theorem Re(p:Held w0 w pb db n o d L)(s:8<=n){l:List aJ}(t:l.length<=80)(r:N<=24)(m:∀x∈l,x.t.toNat<N/\x.h.toNat<N)(b:CL L l N):uL w0 w pb db n o d L N 0 0 l (ei N iW):=by
 have e:∀(i:Nat)(x:bZ),(ei N iW)[i]? = IT x->x.r=4294967295:=λi x a=>by
  rw[xr]at a;split at a
  .cases a;rfl
  .cases a
 have q:=b.need;have f:∀N<25,gN N<=39104:=ag;have:=f N af;refine⟨p,s,⟨pn,af,λx a=>?_,λi x a h=>absurd (e i x a) h,λi j x y a _ h=>absurd (e i x a) h,?_⟩,r,cg _,b.e,b.r,b.v,af,λc g h=>b.vB _ (bG af) (bG af) (bG af),λk=>b.vB _ (bF _ ag _ _).symm (bF _ ag _ _).symm (bF _ ag _ _).symm,by simp;omega⟩
 .exact⟨iW,iW,by rw[xr,if_pos (m x a).1],by rw[xr,if_pos (m x a).2],rfl,rfl⟩
 .rw[sI,Da];intro i _;rw[mA];rintro⟨x,a,h⟩;exact h (e i x a)
def Fo(w0 w:KX)(a db n:Nat)(o:ay)(d:Dsk)(L:aL)(N gen done:Nat)(es:List aJ)(vs:List bZ)(e:Lp)(w':KX):Prop:=
 ∃d' o' L',e=Mk (Ly #[Kx Mo (aP es vs).length,Kx Mm 0])/\Moved (λ_=>False) n a db w o d w' o' d' L'/\(aP es vs=[]->L'=L)/\(aP es vs≠[]->kg L L' gen (gB es (aP es vs)) (rh es (aP es vs)) (dU es (aP es vs)) (dE es vs done gen (aP es vs))/\uL w0 w' a db n o' d' L' N (gen+1) (done+(aP es vs).length) (aH J0 (gB es (aP es vs))) (dE es vs done gen (aP es vs)))
theorem Rf(i:aV)(g:eW 2400)(h:uL w0 w pb db n o d L N gen done es vs):K1 prog 7 #[ptrTo pb,gen,Kx Mo done] w (Fo w0 w pb db n o d L N gen done es vs):=by refine(vE i g h.rn).mono ?_;rintro e w'⟨d',o',L',rfl,c,f,b⟩;exact⟨d',o',L',rfl,c,f,λa=>⟨b a,h.next a (h.held.moved c λ_ e=>e.elim) (b a)⟩⟩
end
section
variable {S:Nat->Prop}{N done gen n pb db gb z x h:Nat}{es:List aJ}{vs:List bZ}{w0 w:KX}{o:ay}{d:Dsk}{L:aL}{b:Bool}
theorem Fp{V:Nat}{l:List aJ}{x:aJ}(h:x∈iV V l):x.t.toNat<V/\x.h.toNat<V:=by
 unfold iV at h;split at h
 .cases h
 .obtain⟨y,-,rfl⟩:=gl.1 h;obtain⟨b,a,-⟩:=IV (n:=V) y;rw[b,a];exact⟨Hc _ af,Hc _ af⟩
end
structure Rg where
 done:Nat
 es:List aJ
 vs:List bZ
noncomputable abbrev Rg.ch(r:Rg):List Nat:=aP r.es r.vs
noncomputable abbrev Rg.raw(r:Rg):List aJ:=gB r.es r.ch
noncomputable abbrev Rg.V0(r:Rg)(k:Nat):List bZ:=dE r.es r.vs r.done k r.ch
noncomputable def b8(N:Nat)(l:List aJ):Nat->Rg
 |0=>⟨0,aH J0 l,ei N iW⟩
 |k+1=>⟨(b8 N l k).done+(b8 N l k).ch.length,aH J0 (b8 N l k).raw,(b8 N l k).V0 k⟩
section
variable {N k n pb db gen done:Nat}{l es:List aJ}{vs:List bZ}{w0 w:KX}{o:ay}{d:Dsk}{L:aL}
theorem Bp{r:Rg}(h:rQ N r.es r.vs r.done)(a:N<=24):r.done+r.ch.length<=N:=by
 have b:(aP r.es r.vs).length<=r.vs.length:=by have:=lz (l₂:=kk r.vs.length) ((jy r.es r.vs).imp λh=>Nat.ne_of_lt h) (λv hv=>j3.2 (kN hv));grind
 have:=h.vA;have:=h.len
 exact(h.next (gen:=0) af).vA
theorem yg(b:N<=24)(d:∀x∈l,x.t.toNat<N/\x.h.toNat<N):∀k,rQ N (b8 N l k).es (b8 N l k).vs (b8 N l k).done/\aH J0 (b8 N l k).es=(b8 N l k).es
 |0=>by
   have c:∀(i:Nat)(x:bZ),(ei N iW)[i]? = IT x->x.r=4294967295:=λi x a=>by
    rw[xr]at a;split at a
    .cases a;rfl
    grind
   refine⟨⟨pn,af,λx a=>?_,λi x a h=>absurd (c i x a) h,λi j x y a _ h=>absurd (c i x a) h,?_⟩,oB _ _ _⟩
   .have:=d x (iN.1 a).1;exact⟨iW,iW,by show(ei N iW)[_]? = _;grind,by show(ei N iW)[_]? = _;grind,rfl,rfl⟩
   grind [b8,Da,mA]
 |k+1=>by have h:=(yg b d k).1;exact⟨h.next (gen:=k) (cp (Bp h b) af),oB _ _ _⟩
theorem uL.zo(h:uL w0 w pb db n o d L N gen done es vs):uL w0 w pb db n o d L N gen done (aH J0 es) vs:=by obtain⟨i,k,a,e,f,p,q,m,g,b,c,j⟩:=h;refine⟨i,k,⟨a.len,a.top,λx l=>a.ends x (iN.1 l).1,a.low,a.one,a.count⟩,e,f,by grind [oB],by grind [oB],m,cp (cq _ _) g,b,c,j⟩
theorem SU{L:aL}{y:Name}:y∈L.map (·.1)↔aI L y≠none:=by grind [lT]
theorem SV{L:aL}{ns:List Name}(h:(L.map (·.1)).Nodup)(c:(L'.map (·.1)).Nodup)(d:ns.Nodup)(f:∀y∈ns,aI L y=KK)(k:∀y∈ns,aI L' y≠KK)(g:∀y,y ∉ ns->aI L' y=aI L y):L'.length=L.length+ns.length:=by
 have l:(L'.map (·.1)).Perm (ns++L.map (·.1)):=(Ft c (List.nodup_append.2 ⟨d,h,λa i b j e=>by
  grind [SU]⟩)).2 λy=>by
  grind [SU]
 grind [List.Perm.length_eq,eh,dj]
structure Full(L:aL)(k:Nat):Prop where
 all:∀x f,aI L x=IT f->∃ps,f=.inl (ps,Jd)
 len:L.length=k
theorem Rh(d:(L.map (·.1)).Nodup)(h:CL L l N):Full L 3:=by
 refine⟨λx f a=>?_,?_⟩
 .by_cases g:x=aF 101 0
  .rw[g,h.e]at a;exact⟨_,(Option.some.inj a).symm⟩
  .by_cases e:x=aF 114 0
   .rw[e,h.r]at a;exact⟨_,(Option.some.inj a).symm⟩
   .by_cases c:x=aF 118 0
    .rw[c,h.v]at a;exact⟨_,(Option.some.inj a).symm⟩
    grind [CL.vB]
 .have:=SV (L:=[]) (L':=L) (ns:=[aF 101 0,aF 114 0,aF 118 0]) ai d (by simp[iI]) (λ_ _=>rfl) (by simp[h.e,h.r,h.v]) (λy b=>by simp only[qk,tl,or_false,not_or]at b;exact h.vB y b.1 b.2.1 b.2.2)
  omega
theorem Va{R U D:List aJ}(h:Full L k)(m:(L.map (·.1)).Nodup)(l:(L'.map (·.1)).Nodup)(n:∀c,aI L (aF c (gen+1))=KK)(b:kg L L' gen R U D vs):Full L' (k+5):=by
 refine⟨λx f a=>?_,?_⟩
 .by_cases j:x=aF 101 (gen+1)
  .rw[j,b.e]at a;exact⟨_,(Option.some.inj a).symm⟩
  .by_cases g:x=aF 114 (gen+1)
   .rw[g,b.r]at a;exact⟨_,(Option.some.inj a).symm⟩
   .by_cases d:x=aF 118 (gen+1)
    .rw[d,b.v]at a;exact⟨_,(Option.some.inj a).symm⟩
    .by_cases e:x=aF 117 (gen+1)
     .rw[e,b.u]at a;exact⟨_,(Option.some.inj a).symm⟩
     .by_cases i:x=aF 100 (gen+1)
      .rw[i,b.d]at a;exact⟨_,(Option.some.inj a).symm⟩
      .rw[b.vB x j g d e i]at a;exact h.all x f a
 .have:=SV (L:=L) (L':=L') (ns:=[aF 101 (gen+1),aF 114 (gen+1),aF 118 (gen+1),aF 117 (gen+1),aF 100 (gen+1)]) m l (by simp[iI]) M2 (by simp[b.e,b.r,b.v,b.u,b.d]) (λy o=>by grind [kg.vB])
  rw[this,h.len];rfl
def ZV(w:KX)(n:Nat)(l:List aJ)(N:Nat)(e:Lp)(w':KX):Prop:=
 ∃db pb o d L,e=Mk (Ly #[ptrTo db,ptrTo pb])/\uL w w' pb db n o d L N 0 0 (aH J0 l) (ei N iW)/\Full L 3
theorem Ri(i:aV)(f:eW 2400){b:J3}{l:List aJ}(K F:Nat)(hK:K<256)(c:F<256)(h:gR w b l):K1 prog 5 #[LV #[Kx MM K,b,Kx MM F]] w (ZV w (8+F%40) (iV (K%25) l) (K%25)):=by have a:=qW (K%25) l;go_call(Ci i f K F hK c h af) as e w'⟨db,pb,o,d,L,rfl,hh,hg⟩;exact⟨db,pb,o,d,L,rfl,(Re hh af a af (λx g=>Fp g) hg).zo,Rh hh.bh.keys hg⟩
end
structure Slc where
 a:Option Addr
 n:Nat
 c:Nat
abbrev Slc.v(s:Slc):Value:=.slice s.a s.n s.c
structure mY where
 g:Slc
 h:Slc
 u:Slc
 d:Slc
 k:Slc
 c:Int
abbrev mY.cells(s:mY):List Value:=[s.g.v,s.h.v,s.u.v,s.d.v,s.k.v,Kx Mm s.c]
def Bq(l:List mY):List Value:=l.flatMap mY.cells
theorem Rk{l:List mY}{i:Nat}{e:mY}(h:l[i]? = IT e){j:Nat}(b:j<6):(Bq l)[i*6+j]? = e.cells[j]? := by
 induction l generalizing i with
 |nil=>cases h
 |cons q l c=>
   have a:Bq (q::l)=q.cells++Bq l:=rfl;rw[a];cases i with
   |zero=>grind
   |succ i=>grind
abbrev rT(w:KX)(base:Nat)(v:J3)(l:List mY):Prop:=w.ownsRow base 42 6 v l.length (Bq l)
theorem Vb:(prog.info? 42).map (λi=>(i.zero,i.size,i.bytes))=IT (IT (LV #[.slice KK 0 0,.slice KK 0 0,.slice KK 0 0,.slice KK 0 0,.slice KK 0 0,Kx Mm 0]),6,128):=ah
section
variable {w W:KX}{base:Nat}{l:List mY}{rest:List Oper}{a:Act}
theorem iu{g n cap:Nat}(h:rT w base (.slice g n cap) l){i:Nat}{e:mY}(hi:l[i]? = IT e){j:Nat}{u:J3}(a:e.cells[j]? = IT u):w.cell? ⟨g,i*6+j,KK⟩=IT u:=by have b:=aK a;have:=World.ownsRow.cells h (g:=g) rfl (i*6+j) u (by grind [Rk]);grind [br]
theorem zR(d:f.guard=KK)(s x:Operand)(i:f.op=.call { callee:=.builtin .append,args:=#[s,x],argTypes:=#[31,31] })(base:Nat)(v:J3)(l:List mY)(m:a.eval s=v)(b:rT w base v l)(y:mY)(c:Nat)(h:a.eval x=.slice w.heap.size 1 c)(p:l.length<=1000)(e:base<=w.heap.size)(k:∀v' w',rT w' base v' (l++[y])->gP v (w.alloc (Mi y.cells.toArray 42)) w' v'->wpList prog ops Q rest (a.put f.dst v') w') :
 wpList prog ops Q (f::rest) a (w.alloc (Mi #[y.g.v,y.h.v,y.u.v,y.d.v,y.k.v,Kx Mm y.c] 42)):=by
 refine ct d s x 31 i base 42 _ 6 128 Tryz.underlying31 Vb rfl ag v l.length (Bq l) m (World.ownsRow.alloc b _) ⟨w.heap.size,0,KK⟩ 1 c y.cells h rfl (λj u n=>?_) (by simp[qn]) (by grind [maxLen]) af (by simp;omega) (λv' w' o g=>k v' w' ?_ g)
 .rw[br,j0];simp_all
 grind [Bq]
end
structure iO(w:KX)(base:Nat)(y:mY)(r:Rg)(k:Nat):Prop where
 g:gR w y.g.v (aH J0 r.raw)
 h:xV w y.h.v (r.V0 k)
 u:gR w y.u.v (rh r.es r.ch)
 d:gR w y.d.v (dU r.es r.ch)
 n:y.k.n=r.ch.length
 new:∀x∈[y.g.v,y.h.v,y.u.v,y.d.v],∀b,x.ownBlock=IT b->base<=b
theorem xV.moved{n k db:Nat}{w:KX}{o:ay}{d:Dsk}{v:J3}{vs:List bZ}(h:xV w v vs)(f:Moved (λ_=>False) n k db w o d w' o' d' L')(e:∀b,v.ownBlock=IT b->o b=Option.none):xV w' v vs:=by obtain⟨a,cap,rfl,h⟩:=h;refine⟨a,cap,rfl,h.imp id ?_⟩;rintro⟨b,c,rfl,p⟩;refine⟨b,c,rfl,λj x m=>?_⟩;obtain⟨l,g,i⟩:=p j x m;exact⟨f.cell l (e b rfl) (λh=>h),f.cell g (e b rfl) (λh=>h),f.cell i (e b rfl) (λh=>h)⟩
section
variable {w W:KX}{base k N n pb db:Nat}{y:mY}{r:Rg}{l:List aJ}{o:ay}{d:Dsk}
theorem iO.below(h:iO w base y r k)(a:Lg w w w'):iO w' base y r k:=⟨h.g.below a,h.h.below a,h.u.below a,h.d.below a,h.n,h.new⟩
theorem iO.moved(h:iO w base y r k)(e:Moved (λ_=>False) n pb db w o d w' o' d' L')(c:∀b,base<=b->o b=KK):iO w' base y r k:=
 ⟨h.g.moved e λb a=>c b (h.new _ ai b a),h.h.moved e λb a=>c b (h.new _ ai b a),h.u.moved e λb a=>c b (h.new _ ai b a),h.d.moved e λb a=>c b (h.new _ ai b a),h.n,h.new⟩
theorem Br(a:N<=24)(g:∀x∈l,x.t.toNat<N/\x.h.toNat<N)(k:Nat):∃s c:Nat,s<25/\c<25/\s+c<=24/\(aH J0 (b8 N l k).raw).length<=s*s/\(b8 N l k).raw.length<=s*s+c*(s*s)/\(rh (b8 N l k).es (b8 N l k).ch).length<=c*s/\(dU (b8 N l k).es (b8 N l k).ch).length<=c*s:=by obtain⟨h,-⟩:=yg a g k;have j:(b8 N l k).done+(aP (b8 N l k).es (b8 N l k).vs).length<=N:=Bp h a;obtain⟨f,i,b,d,e⟩:=h.sizes af rfl (show(N-((b8 N l k).done+(aP (b8 N l k).es (b8 N l k).vs).length))+(b8 N l k).done+(aP (b8 N l k).es (b8 N l k).vs).length=N by omega);exact⟨_,_,af,af,af,f,b,d,e⟩
theorem IX(e:N<=24)(i:l.length<=80)(f:∀x∈l,x.t.toNat<N/\x.h.toNat<N)(k:Nat):(b8 N l k).es.length<=600/\(b8 N l k).raw.length<=2400:=by
 obtain⟨s,c,d,b,a,-,g,-⟩:=Br e f k;refine⟨?_,cp g (zQ s d c b a).1⟩;cases k with
 |zero=>exact cp (cq _ _) af
 |succ k=>obtain⟨s,c,d,b,a,h,-⟩:=Br e f k;exact cp h (Nm ((zQ s d c b a).2.2))
theorem ZW(b:N<=24)(e:l.length<=80)(d:∀x∈l,x.t.toNat<N/\x.h.toNat<N)(k:Nat):(aH J0 (b8 N l k).raw).length<=1000/\((b8 N l k).V0 k).length<=1000/\(rh (b8 N l k).es (b8 N l k).ch).length<=1000/\(dU (b8 N l k).es (b8 N l k).ch).length<=1000:=by obtain⟨s,c,g,f,a,-,-,h,i⟩:=Br b d k;have q:=(zQ s g c f a).2.1;have j:=(IX b e d (k+1)).1;have m:=(yg b d (k+1)).1.len;grind [b8]
theorem SX(b:N<=24)(d:∀x∈l,x.t.toNat<N/\x.h.toNat<N):(b8 N l k).ch=[]↔(b8 N l k).done=N:=by
 obtain⟨h,-⟩:=yg b d k;have j:=h.rest;have f:=Bp h b;constructor
 .intro c;have m:Bo N (b8 N l k).vs=[]:=by apply Classical.byContradiction;intro a;obtain⟨i,hi⟩:=List.exists_mem_of_ne_nil _ a;obtain⟨e,g⟩:=Om.1 hi;have n:(b8 N l k).vs[i]? = IT ((b8 N l k).vs[i]'(by grind [rQ.len])):=bk _;grind [U0,mA]
  grind
 .intro c;exact jJ af
end
structure rp where
 v:Nat
 d:Nat
 b:Bool
def kO(l:List rp)(k:Nat)(a:Option Nat):Prop:=match a with
 |none=>∀r∈l.take k,r.b=Jd
 |some i=>∃r,i<k/\l[i]? = IT r/\r.b=J0/\∀q∈l.take k,q.b=J0->¬ji (q.d,q.v) (r.d,r.v)
theorem Rl(l:List rp):kO l 0 none:=by simp[kO]
theorem yj{l:List rp}{k:Nat}{a:Option Nat}{r:rp}(h:kO l k a)(b:l[k]? = IT r)(c:r.b=Jd\/∃i q,a=IT i/\l[i]? = IT q/\¬ji (r.d,r.v) (q.d,q.v)):kO l (k+1) a:=by
 have e:=take_one b;cases a with
 |none=>grind [kO]
 |some i=>grind [kO]
theorem yl{l:List rp}{k:Nat}{a:Option Nat}{r:rp}(h:kO l k a)(b:l[k]? = IT r)(c:r.b=J0)(d:a=KK\/∃i q,a=IT i/\l[i]? = IT q/\ji (r.d,r.v) (q.d,q.v)):kO l (k+1) (IT k):=by have e:=take_one b;grind [kO,ji.oA,ji.asym]
def jB:List rp->Nat->Nat->List rp
 | [],v,d=>[⟨v,d,J0⟩]
 |r::l,v,d=>if r.v=v then (if r.b=J0/\d<r.d then ⟨v,d,J0⟩ else r)::l else r::jB l v d
theorem Fq{l:List rp}{i v d:Nat}{r:rp}(a:l[i]? = IT r)(c:r.v=v)(b:∀q∈l.take i,q.v≠v):jB l v d=if r.b=J0/\d<r.d then l.set i ⟨v,d,J0⟩ else l:=by
 induction l generalizing i with
 |nil=>cases a
 |cons q l e=>
   cases i with
   |zero=>grind [jB]
   |succ i=>grind [jB]
theorem IY{l:List rp}{v d:Nat}(a:∀q∈l,q.v≠v):jB l v d=l++[⟨v,d,J0⟩]:=by
 induction l with
 |nil=>rfl
 |cons q l b=>grind [jB]
structure lS(l:List rp)(m:Aa)(S:List Nat):Prop where
 nd:(l.map (·.v)).Nodup
 km:(m.map (·.1)).Nodup
 get:∀v d,aI m v=IT d ↔ ⟨v,d,J0⟩∈l
 don:∀v,v∈S ↔ ∃d,⟨v,d,Jd⟩∈l
section
variable {l:List rp}{m:Aa}{S:List Nat}{v d i:Nat}{r:rp}
theorem lS.nil(h:lS l m S)(a:kO l l.length KK):nJ m=none:=by
 cases e:nJ m with
 |none=>rfl
 |some q=>have b:=(h.get q.1 q.2).1 (kD h.km (xW e).1);have:=a _ (by rw[List.take_length];exact b);grind
theorem lS.nxt(h:lS l m S)(g:kO l l.length (IT i)):∃r,l[i]? = IT r/\r.b=J0/\nJ m=IT (r.v,r.d):=by obtain⟨r,j,c,f,a⟩:=g;rw[List.take_length]at a;obtain⟨v,d,b⟩:=r;cases f;exact⟨_,c,rfl,Ns h.km ((h.get v d).2 (cx c)) λv' d' e=>a _ ((h.get v' d').1 e) rfl⟩
theorem zS{x y:rp}(hi:l[i]? = IT r):x∈l.set i y↔x=y\/∃j,j≠i/\l[j]? = IT x:=by
 have:=aK hi;rw[hY];constructor
 .grind
 .rintro(rfl |⟨j,b,a⟩)
  .exact⟨i,M2⟩
  .exact⟨j,M2⟩
theorem Oo(y:rp)(hi:l[i]? = IT r)(a:y.v=r.v):(l.set i y).map (·.v)=l.map (·.v):=by rw[List.map_set,a];apply p5;grind
theorem IZ{l:List α}{i:Nat}{q:α}(h:q∈l.take i):∃j,j≠i/\l[j]? = IT q:=by grind [hY]
theorem dB(f:(l.map (·.v)).Nodup)(hi:l[i]? = IT r){x:rp}:(∃j,j≠i/\l[j]? = IT x)↔x∈l/\x.v≠r.v:=by
 constructor
 .rintro⟨j,d,c⟩;refine⟨cx c,λe=>d ?_⟩;have a:(l.map (·.v))[j]? = IT x.v:=M2;have b:(l.map (·.v))[i]? = IT r.v:=M2;grind [List.getElem?_inj]
 grind [hY]
theorem lS.settle(h:lS l m S)(hi:l[i]? = IT r):lS (l.set i ⟨r.v,r.d,Jd⟩) (b9 m r.v) (r.v::S):=by
 refine⟨by grind [Oo,nd],Ad h.km,λv d=>?_,λv=>?_⟩
 .grind [cV,zS,dB,nd,get]
 grind [zS,dB,nd,don]
theorem lS.Vc(h:lS l m S)(b:v∈S):jB l v d=l:=by
 obtain⟨d',a⟩:=(h.don v).1 b;obtain⟨i,hi⟩:=hY.1 a;rw[Fq hi rfl (λq c e=>?_)]
 .simp
 grind [dB,nd,IZ]
theorem lS.come(h:lS l m S)(s:v ∉ S):lS (jB l v d) (pq m v d) S:=by
 by_cases j:∃q∈l,q.v=v
 .obtain⟨q,c,rfl⟩:=j;obtain⟨i,hi⟩:=hY.1 c;have a:q.b=false:=by obtain⟨p,r,n⟩:=q;grind [don]
  have g:aI m q.v=IT q.d:=(h.get _ _).2 (by rw[<- a];exact c);have f:∀x∈l.take i,x.v≠q.v:=λx o=>by grind [dB,nd,IZ]
  rw[Fq hi rfl f];unfold pq;rw[g];by_cases k:d<q.d
  .rw[if_pos ⟨a,k⟩];simp only[if_neg (show ¬q.d<=d by omega)];refine⟨by grind [Oo,nd],cK h.km,λv' d'=>?_,λv'=>?_⟩
   .grind [aC,zS,dB,nd,get]
   grind [don,zS,dB,nd]
  grind
 .have b:∀q∈l,q.v≠v:=λq c e=>j ⟨q,c,e⟩;have g:aI m v=none:=by
   cases e:aI m v with
   |none=>rfl
   |some x=>exact absurd rfl (b _ ((h.get _ _).1 e))
  rw[IY b];unfold pq;rw[g];refine⟨?_,cK h.km,λv' d'=>?_,λv'=>?_⟩
  .grind [nd]
  .grind [aC,get]
  grind [don]
theorem KQ:(jB l v d).length<=l.length+1:=by
 induction l with
 |nil=>simp[jB]
 |cons q l a=>grind [jB]
theorem Vd{P:rp->Prop}(h:∀r∈l,P r)(a:P ⟨v,d,J0⟩):∀r∈jB l v d,P r:=by
 induction l with
 |nil=>grind [jB]
 |cons q l b=>grind [jB]
end
theorem Oq(v:Nat):lS [⟨v,0,J0⟩] [(v,0)] []:=
 ⟨ai,ai,λv' d=>by grind [aI],λv'=>ai⟩
theorem Rm(l:List Nat):∀a:List Nat,a.Nodup->(l.foldl jx a).Nodup:=by
 induction l with
 |nil=>simp
 |cons x l b=>intro a h;grind [jx]
theorem Ve(lv:UInt32)(vs:List bZ)(a b:Nat):eX lv (eX lv vs a) b=eX lv (eX lv vs b) a:=by apply p5;grind [Bi]
theorem Rn{lv:UInt32}{l c:List Nat}(h:l.Perm c)(vs:List bZ):l.foldl (eX lv) vs=c.foldl (eX lv) vs:=
 h.foldl_eq' (λa _ b _ z=>Ve lv z a b) vs
def fC(es:List aJ)(v:Nat):List Nat:=es.foldl (λa x=>let b:=if x.t.toNat=v/\x.h.toNat ∉ a then a++[x.h.toNat] else a;if x.h.toNat=v/\x.t.toNat ∉ b then b++[x.t.toNat] else b) []
theorem Ro(v:Nat)(es:List aJ):∀b:List Nat,b.Nodup->(es.foldl (λa x=>let c:=if x.t.toNat=v/\x.h.toNat ∉ a then a++[x.h.toNat] else a;if x.h.toNat=v/\x.t.toNat ∉ c then c++[x.t.toNat] else c) b).Nodup/\∀w,w∈es.foldl (λa x=>let c:=if x.t.toNat=v/\x.h.toNat ∉ a then a++[x.h.toNat] else a;if x.h.toNat=v/\x.t.toNat ∉ c then c++[x.t.toNat] else c) b↔w∈b\/∃x∈es,x.t.toNat=v/\x.h.toNat=w\/x.h.toNat=v/\x.t.toNat=w:=by
 induction es with
 |nil=>simp
 |cons x es f=>intro b h;obtain⟨d,e⟩:=f (let c:=if x.t.toNat=v/\x.h.toNat ∉ b then b++[x.h.toNat] else b;if x.h.toNat=v/\x.t.toNat ∉ c then c++[x.t.toNat] else c) (by grind [List.nodup_append]);rw[List.foldl_cons];refine⟨d,λw=>(e w).trans ?_⟩;grind
theorem yo(es:List aJ)(v:Nat):(fC (aH J0 es) v).Perm (dD es v):=by
 obtain⟨a,b⟩:=Ro v (aH J0 es) [] ai;refine(Ft a ?_).2 λw=>?_
 .grind [zI,Rm]
 grind [uH]
def Rp(a:List sO)(c:sO):Prop:=∀k∈a,k.v≠c.v->(k.v∈c.n\/c.v∈k.n)->dh c k
instance(cs:List sO)(c:sO):Decidable (Rp cs c):=by unfold Rp;infer_instance
theorem Rq{f:List sO}(o:∀a∈f,∀b∈f,a.v=b.v->a=b):(f.filter λc=>decide (Rp f c)).map (·.v)=jc f:=by
 unfold jc;rw[List.filter_map];congr 1;apply List.filter_congr;intro c j;show decide _=decide _;rw[decide_eq_decide];constructor
 .rintro h⟨a,n,b,p,g,d,⟨i,l⟩|⟨i,l⟩⟩
  .obtain rfl:=o b p c j l;have:=h a n d (.inr g);grind [dh]
  .obtain rfl:=o a n c j l;exact i (h b p (λe=>d e.symm) (.inl g))
 .intro h k m g d;apply Classical.byContradiction;intro i;apply h;rcases d with d | d
  .exact⟨c,j,k,m,d,λe=>g e.symm,.inr ⟨i,rfl⟩⟩
  .exact⟨k,m,c,j,d,g,.inl ⟨by grind [dh],rfl⟩⟩
def Fs(a b:sO):Prop:=a.v=b.v/\a.k=b.k/\∀w,w∈a.n↔w∈b.n
def Ot(l c:List sO):Prop:=l.length=c.length/\∀(i:Nat)(a b:sO),l[i]? = IT a->c[i]? = IT b->Fs a b
theorem Ot.snoc{l d:List sO}{a b:sO}(h:Ot l d)(j:Fs a b):Ot (l++[a]) (d++[b]):=by
 refine⟨by simp[h.1],λi x y c f=>?_⟩;have g:=h.1;by_cases e:i<l.length
 .rw[FD e]at c;rw[FD af]at f;exact h.2 i x y c f
 grind
theorem Vf{f c:List sO}(h:Ot f c):jc f=jc c:=by
 have x:f.map (·.v)=c.map (·.v):=by
  apply p5;intro i;rw[j1,j1];cases e:f[i]? with
  |none=>rw[GW (No (List.getElem?_eq_none_iff.1 e) h.1)]
  |some a=>have hi:=aK e;have d:c[i]? = IT (c[i]'(Nm h.1)):=bk _;rw[d,ql,ql,(h.2 i a _ e d).1]
 have m:∀a∈f,∃b∈c,Fs a b:=λa g=>by obtain⟨i,hi⟩:=hY.1 g;have:=aK hi;have d:c[i]? = IT (c[i]'(Nm h.1)):=bk _;exact⟨_,cx d,h.2 i _ _ hi d⟩
 have n:∀b∈c,∃a∈f,Fs a b:=λb j=>by obtain⟨i,hi⟩:=hY.1 j;have:=aK hi;have d:f[i]? = IT (f[i]'(Nm h.1)):=bk _;exact⟨_,cx d,h.2 i _ _ d hi⟩
 unfold jc;rw[x];apply List.filter_congr;intro v _;rw[decide_eq_decide];apply not_congr;unfold Cb;constructor
 .rintro⟨a,g,b,j,q⟩;obtain⟨u,k,s,d,o⟩:=m a g;obtain⟨p,l,t,r,w⟩:=m b j;grind [dh]
 .rintro⟨a,g,b,j,q⟩;obtain⟨u,k,s,d,o⟩:=n a g;obtain⟨p,l,t,r,w⟩:=n b j;grind [dh]
section
variable {w W:KX}{es:List aJ}{sh l:List Nat}{nb:Nat}{lv:J3}
theorem mB{a:Option Addr}{k n:Nat}(h:aT w 0 (.slice a n k) l):n=l.length/\∀W,Lg w w W->∀(i x:Nat),l[i]? = IT x->∃g,a=IT ⟨g,0,KK⟩/\W.cell? ⟨g,i,KK⟩=IT (Kx Mo x):=by
 have d:n=l.length:=by grind [aw]
 subst d;refine⟨rfl,λW e i x j=>?_⟩;have c:=aB h e;obtain⟨-,⟨b,f⟩|⟨g,_,_,b,_⟩⟩:=id c
 .grind
 grind [iT]
theorem Fu(h:aT w 0 lv l)(n:l.length<=1000)(v:Nat):K1 prog 168 #[lv,Kx Mo v] w λe w'=>e=Mk (.bool (decide (v∈l)))/\w'=w:=by
 obtain⟨a,k,rfl⟩:=aw h;obtain⟨N,d⟩:=ac l.length;have j:=ae (mB h).2;have q:Lk (N=l.length/\N<=1000):=ae ⟨d,af⟩;rw[<- d];clear h n d;go_enter func168,ntmps168;go_wp2_with fail;go_loopw [5] (λc W=>∃i:Nat,c=i/\i<=N/\Lk (v ∉ l.take i)/\W=w) (λc _=>N-(Lo c).toNat)
 case atStart=>grind [ae]
 case round=>
  obtain⟨i,rfl,hi,m,rfl⟩:=hrel;by_cases o:i<N
  .obtain⟨x,b⟩:∃x,l[i]? = IT x:=⟨_,bk Xy⟩;obtain⟨g,rfl,t⟩:=j.out _ aq i x b;have r:cf Mm ((i:Int)+1)=(i+1:Nat):=by grind [Hid.out,ax]
   by_cases e:x=v
   .subst e;have f:Lk (decide (x∈l)=Jd):=ae (decide_eq_true (cx b));clear b;go_wp2;go_ret;exact⟨by rw[f.out];rfl,rfl⟩
   .have p:Lk (v ∉ l.take (i+1)):=ae (by have:=m.out;rw[take_one b];grind);have s:((x:Int) == v)=false:=M2;clear b e;go_wp2;grind [Lo]
  .have f:Lk (decide (v∈l)=J0):=ae (decide_eq_false Xy);go_wp2;go_ret;exact⟨by rw[f.out];rfl,rfl⟩
structure kP(w:KX)(nb:Nat)(es:List aJ)(sh:List Nat):Prop where
 at':∃ev sv,w.heap[nb]? = IT (Mi #[ev,.slice KK 0 0,sv] 124)/\gR w ev es/\aT w 0 sv sh
 l1:es.length<=1000
 l2:sh.length<=1000
theorem kP.below(h:kP w nb es sh)(a:Lg w w w'):kP w' nb es sh:=by obtain⟨⟨g,sv,b,f,c⟩,d,e⟩:=h;exact⟨⟨g,sv,(a.block _ (bD b)).trans b,f.below a,aB c a⟩,d,e⟩
theorem I0(h:kP w nb es sh)(v:Nat):K1 prog 100 #[ptrTo nb,Kx Mo v] w λe w'=>e=Mk (.bool (decide (v∈sh)))/\w'=w:=by
 obtain⟨⟨g,sv,c,d,a⟩,-,b⟩:=h;have c2:w.cell? ⟨nb,2,KK⟩=IT sv:=by rw[au c];rfl
 have f:=ae (Fu a b v);clear c d a b;unfold ptrTo;go_enter func100,ntmps100;go_wp2_with fail;go_call f.out as e w1⟨rfl,rfl⟩;go_wp2;go_ret;simp
def xg(w:KX)(l:List aJ)(e:Lp)(w':KX):Prop:=∃v,e=Mk (Ly #[v,Kx Mm 0])/\aG w' w.heap.size v l/\Lg w w w'
end
theorem s7{w:KX}{f:Nat}{es:List aJ}{K:List Nat}(h:kP w f es K)(k:Nat):K1 prog 99 #[ptrTo f,Kx Mo k] w (xg w (eJ J0 k es)):=by
 obtain⟨⟨R,sv,c,o,D⟩,t,-⟩:=h;obtain⟨G,H,rfl,-⟩:=id o;obtain⟨E,g⟩:=ac es.length;have r:=ae (eL o).2;have V:Lk (E=es.length/\E<=1000):=ae ⟨g,af⟩;have s:Lk (∀W,Lg w w W->W.cell? f=IT (.slice G E H)):=ae (λW O=>by rw[au ((O.block _ (bD c)).trans c),g];rfl)
 have c1:w.cell? ⟨f,1,KK⟩=IT (.slice KK 0 0):=by rw[au c];rfl
 have q:=ae (Fu (l:=[]) (gp w 0 33 1) ai k);rw[<- g]at c;unfold ptrTo;clear c o D t g;go_enter func99,ntmps99;go_wp2_with fail;go_call q.out as e w1⟨rfl,rfl⟩;clear c1 q;go_wp2_with fail;go_loopw [6,7] (λv m W=>∃i:Nat,i<=E/\m=i/\Lk (aG W w1.heap.size v (eJ J0 k (es.take i))/\Lg w1 w1 W)) (λ_ m _=>E-(Lo m).toNat)
 case atStart=>exact⟨0,em _,rfl,ae ⟨gp _ _ _ _,kp _ _⟩⟩
 case round=>
  generalize u6=v at *;generalize wr=W at *;obtain⟨i,hi,rfl,b⟩:=hrel;have J:=s.out W b.out.2;by_cases N:i<E
  .obtain⟨x,p⟩:∃x,es[i]? = IT x:=⟨_,bk Xy⟩;have A:Lk (eJ J0 k (es.take (i+1))=eJ J0 k (es.take i)++(if x.t.toNat=k then [x] else [])):=ae (by rw[im p,zE];rfl);obtain⟨Q,U,rfl,u,I,z,L⟩:=r.out W b.out.2 i x p;have S:cf Mm ((i:Int)+1)=(i+1:Nat):=by grind [Hid.out,ax]
   clear p;by_cases a:x.t.toNat=k
   .have P:Lk (eJ J0 k (es.take (i+1))=eJ J0 k (es.take i)++[x]):=ae Xy;subst a;clear A;have j:Lk ((eJ J0 x.t.toNat (es.take i)).length<=100000):=ae (cp (kq _ _) Xy);go_wp2_with (at_builtin;refine bR rfl _ _ rfl w1.heap.size _ _ rfl b.out.1 x 1 rfl j.out b.out.2.size ?_);intro v2 B n d;have F:Lk (aG B w1.heap.size v2 (eJ J0 x.t.toNat (es.take (i+1)))/\Lg w1 w1 B):=ae ⟨Xy,(bH (b.out.2.alloc b.out.2.size _) (λy C=>(aA b.out.1 y C).2) d).1⟩;clear n d u I z L J;go_wp2;grind [Lo]
   .have T:((x.t.toNat:Int) == k)=false:=M2;have F:Lk (aG W w1.heap.size v (eJ J0 k (es.take (i+1)))/\Lg w1 w1 W):=ae Xy;clear a;go_wp2;grind [Lo]
  .have M:Lk (aG W w1.heap.size v (eJ J0 k es)/\Lg w1 w1 W):=ae Xy
   clear b;go_wp2;go_ret2;exact⟨_,rfl,M.out⟩
theorem I1{w:KX}{f:Nat}{es:List aJ}{K:List Nat}(h:kP w f es K)(k:Nat):K1 prog 98 #[ptrTo f,Kx Mo k] w (xg w (eJ Jd k es)):=by
 obtain⟨⟨R,sv,c,o,D⟩,t,-⟩:=h;obtain⟨G,H,rfl,-⟩:=id o;obtain⟨E,g⟩:=ac es.length;have r:=ae (eL o).2;have V:Lk (E=es.length/\E<=1000):=ae ⟨g,af⟩;have s:Lk (∀W,Lg w w W->W.cell? f=IT (.slice G E H)):=ae (λW O=>by rw[au ((O.block _ (bD c)).trans c),g];rfl)
 have c1:w.cell? ⟨f,1,KK⟩=IT (.slice KK 0 0):=by rw[au c];rfl
 have q:=ae (Fu (l:=[]) (gp w 0 33 1) ai k);rw[<- g]at c;unfold ptrTo;clear c o D t g;go_enter func98,ntmps98;go_wp2_with fail;go_call q.out as e w1⟨rfl,rfl⟩;clear c1 q;go_wp2_with fail;go_loopw [6,7] (λv m W=>∃i:Nat,i<=E/\m=i/\Lk (aG W w1.heap.size v (eJ Jd k (es.take i))/\Lg w1 w1 W)) (λ_ m _=>E-(Lo m).toNat)
 case atStart=>exact⟨0,em _,rfl,ae ⟨gp _ _ _ _,kp _ _⟩⟩
 case round=>
  generalize u6=v at *;generalize wr=W at *;obtain⟨i,hi,rfl,b⟩:=hrel;have J:=s.out W b.out.2;by_cases N:i<E
  .obtain⟨x,p⟩:∃x,es[i]? = IT x:=⟨_,bk Xy⟩;have A:Lk (eJ Jd k (es.take (i+1))=eJ Jd k (es.take i)++(if x.h.toNat=k then [x] else [])):=ae (by rw[im p,zE];rfl);obtain⟨Q,U,rfl,u,I,z,L⟩:=r.out W b.out.2 i x p;have S:cf Mm ((i:Int)+1)=(i+1:Nat):=by grind [Hid.out,ax]
   clear p;by_cases a:x.h.toNat=k
   .have P:Lk (eJ Jd k (es.take (i+1))=eJ Jd k (es.take i)++[x]):=ae Xy;subst a;clear A;have j:Lk ((eJ Jd x.h.toNat (es.take i)).length<=100000):=ae (cp (kq _ _) Xy);go_wp2_with (at_builtin;refine bR rfl _ _ rfl w1.heap.size _ _ rfl b.out.1 x 1 rfl j.out b.out.2.size ?_);intro v2 B n d;have F:Lk (aG B w1.heap.size v2 (eJ Jd x.h.toNat (es.take (i+1)))/\Lg w1 w1 B):=ae ⟨Xy,(bH (b.out.2.alloc b.out.2.size _) (λy C=>(aA b.out.1 y C).2) d).1⟩;clear n d u I z L J;go_wp2;grind [Lo]
   .have T:((x.h.toNat:Int) == k)=false:=M2;have F:Lk (aG W w1.heap.size v (eJ Jd k (es.take (i+1)))/\Lg w1 w1 W):=ae Xy;clear a;go_wp2;grind [Lo]
  .have M:Lk (aG W w1.heap.size v (eJ Jd k es)/\Lg w1 w1 W):=ae Xy
   clear b;go_wp2;go_ret2;exact⟨_,rfl,M.out⟩
def iw:List rp->List J3
 | []=>[]
 |r::l=>[Kx Mo r.v,Kx MJ r.d,.bool r.b]++iw l
theorem Ha(a b:List rp):iw (a++b)=iw a++iw b:=by
 induction a with
 |nil=>rfl
 |cons e a c=>rw[List.cons_append,iw,iw,c,o0]
theorem Rs{l:List rp}{i:Nat}{r:rp}(h:l[i]? = IT r):(iw l)[i*3]? = IT (Kx Mo r.v)/\(iw l)[i*3+1]? = IT (Kx MJ r.d)/\(iw l)[i*3+2]? = IT (.bool r.b):=by
 induction l generalizing i with
 |nil=>cases h
 |cons q l a=>
   cases i with
   |zero=>cases h;exact⟨rfl,rfl,rfl⟩
   |succ i=>have:=a (i:=i) (by simpa using h);rw[show(i+1)*3=i*3+3 by omega];exact this
theorem Ou{l:List rp}{i:Nat}{r:rp}(d:Nat)(h:l[i]? = IT r):(iw l).set (i*3+1) (Kx MJ d)=iw (l.set i ⟨r.v,d,r.b⟩):=by
 induction l generalizing i with
 |nil=>cases h
 |cons a l b=>
   cases i with
   |zero=>cases h;rfl
   |succ i=>grind [iw]
theorem Ov{l:List rp}{i:Nat}{r:rp}(b:Bool)(h:l[i]? = IT r):(iw l).set (i*3+2) (.bool b)=iw (l.set i ⟨r.v,r.d,b⟩):=by
 induction l generalizing i with
 |nil=>cases h
 |cons a l c=>
   cases i with
   |zero=>cases h;rfl
   |succ i=>grind [iw]
abbrev fT(w:KX)(base:Nat)(v:J3)(l:List rp):Prop:=w.ownsRow base 331 3 v l.length (iw l)
theorem ZX:(prog.info? 331).map (λi=>(i.zero,i.size,i.bytes))=IT (IT (LV #[Kx Mo 0,Kx MJ 0,.bool J0]),3,24):=ah
section
variable {w W:KX}{base g cap:Nat}{l:List rp}{i:Nat}{r:rp}
theorem mC(h:fT w base (.slice g l.length cap) l)(hi:l[i]? = IT r) :
 w.cell? ⟨g,i*3,KK⟩=IT (Kx Mo r.v)/\w.cell? ⟨g,i*3+1,KK⟩=IT (Kx MJ r.d)/\w.cell? ⟨g,i*3+2,KK⟩=IT (.bool r.b):=by
 have a:∀(j:Nat)(u:J3),(iw l)[j]? = IT u->w.cell? ⟨g,j,KK⟩=IT u:=λj u c=>by have:=World.ownsRow.cells h (g:=g) rfl j u c;rwa [br,j0]at this
 obtain⟨d,e,b⟩:=Rs hi;exact⟨a _ _ d,a _ _ e,a _ _ b⟩
theorem yq{v:J3}(h:fT w base v l)(hi:l[i]? = IT r):∃g cap,v=.slice (IT ⟨g,0,KK⟩) l.length cap:=by
 obtain⟨-,⟨a,b⟩|⟨g,c,_,a,_⟩⟩:=id h
 .have:=aK hi;omega
 .exact⟨g,c,a⟩
theorem Ow{n:Nat}(h:fT w base (.slice g n cap) l)(j:Nat)(u:J3){a:List rp}(c:(iw l).set j u=iw a)(d:a.length=l.length):fT (w.setCell ⟨g,j,KK⟩ u) base (.slice g n cap) a:=by
 have b:n=l.length:=by obtain⟨_,_,e⟩:=aw h;cases e;rfl
 subst b;have:=(World.ownsRow.stored h j u).1;rw[c]at this;unfold fT;rwa [d]
theorem zT{rest:List Oper}{a:Act}(d:f.guard=KK)(s x:Operand)(m:f.op=.call { callee:=.builtin .append,args:=#[s,x],argTypes:=#[332,332] })(base:Nat)(v:J3)(l:List rp)(n:a.eval s=v)(b:fT w base v l)(y:rp)(c:Nat)(i:a.eval x=.slice w.heap.size 1 c)(p:l.length<=100000)(e:base<=w.heap.size)(k:∀v' w',fT w' base v' (l++[y])->gP v (w.alloc (Mi #[Kx Mo y.v,Kx MJ y.d,.bool y.b] 331)) w' v'->wpList prog ops Q rest (a.put f.dst v') w') :
 wpList prog ops Q (f::rest) a (w.alloc (Mi #[Kx Mo y.v,Kx MJ y.d,.bool y.b] 331)):=by
 refine ct d s x 332 m base 331 _ 3 24 Tryz.underlying332 ZX rfl ag v l.length (iw l) n (World.ownsRow.alloc b _) ⟨w.heap.size,0,KK⟩ 1 c [Kx Mo y.v,Kx MJ y.d,.bool y.b] i rfl (λj u o=>?_) (by simp[qn]) (by grind [maxLen]) af (by simp;omega) (λv' w' g h=>k v' w' ?_ h)
 .rw[br,j0];simp_all
 .unfold fT;rw[Ha,eh];exact g
end
def atZ:Option Nat->Int
 |none=>-1
 |some i=>i
section
variable {w W:KX}{base:Nat}{l:List rp}{lv:J3}
theorem Rt(h:fT w base lv l)(T:l.length<=100000):K1 prog 257 #[lv] w λe w'=>∃a,kO l l.length a/\e=Mk (Kx Mm (atZ a))/\Lg w w w':=by
 obtain⟨V,k,rfl⟩:=aw h;obtain⟨N,K⟩:=ac l.length;have S:Lk (N=l.length/\N<=100000):=ae ⟨K,af⟩;have P:Lk (∀W,Lg w w W->∀(i:Nat)(r:rp),l[i]? = IT r->∃g,V=IT ⟨g,0,KK⟩/\W.cell? ⟨g,i*3,KK⟩=IT (Kx Mo r.v)/\W.cell? ⟨g,i*3+1,KK⟩=IT (Kx MJ r.d)/\W.cell? ⟨g,i*3+2,KK⟩=IT (.bool r.b)):=ae (λW J i r s=>by have R:=aB h J;obtain⟨g,c,e⟩:=yq R s;cases e;exact⟨g,rfl,mC R s⟩)
 rw[<- K];clear h T K;go_enter func257,ntmps257;go_wp2_with fail;go_loopw [3,4] (λav L W=>∃(a:Option Nat)(i:Nat),av=Kx Mm (atZ a)/\L=i/\i<=N/\Lk (kO l i a/\Lg w w W)) (λ_ L _=>N-(Lo L).toNat)
 case atStart=>exact⟨KK,0,rfl,rfl,em _,ae ⟨Rl l,kp _ _⟩⟩
 case round=>
  obtain⟨a,i,rfl,rfl,hi,f⟩:=hrel;generalize wr=C at *;by_cases u:i<N
  .have U:(i:Int)<N:=af;obtain⟨r,s⟩:∃r,l[i]? = IT r:=⟨_,bk (Nm S.out)⟩;obtain⟨g,rfl,-⟩:=P.out C f.out.2 i r s;have O:Lk (∀(j:Nat)(q:rp),l[j]? = IT q->∀W,Lg C C W->W.cell? ⟨g,j*3,KK⟩=IT (Kx Mo q.v)/\W.cell? ⟨g,j*3+1,KK⟩=IT (Kx MJ q.d)/\W.cell? ⟨g,j*3+2,KK⟩=IT (.bool q.b)):=ae (λj q B W J=>by obtain⟨g',e,h⟩:=P.out W (f.out.2.trans (J.mono f.out.2.size)) j q B;cases e;exact h)
   have t:=ae (O.out i r s);have wi:cf Mm ((i:Int)+1)=(i+1:Nat):=by have:=S.out;rw[ax]<;>omega
   have v:=ae u;cases x:r.b
   .rw[x]at t;cases a with
    |none=>as_aux_lemma=>
      have y:Lk (kO l (i+1) (IT i)):=ae (yl f.out.1 s x (.inl rfl));unfold atZ;clear s x u hi;go_wp2_with fail;refine wq C ?_;iterate 4 (refine qz ?_)
      refine qz ?_ (λw' b=>by obtain⟨n,m,o⟩:=t.out w' b;go_simp<;>rfl);iterate 5 (refine qz ?_)
      iterate 11 go_big_quiet_skip
      iterate 2 (refine qz ?_)
      iterate 24 go_big_quiet_skip
      iterate 2 (refine qz ?_)
      refine wpQuiet_nil ?_;intro F d;have A:=ae (f.out.2.trans (d.mono f.out.2.size));clear d;go_wp2;exact⟨⟨IT i,i+1,rfl,rfl,v.out,ae ⟨y.out,A.out⟩⟩,Xd v.out⟩
    |some j=>
      obtain⟨q,H,B,-,-⟩:=id f.out.1;have p:=ae (O.out j q B);have Z:¬(j:Int)<0:=af;have X:(j:Int)<N:=af;unfold atZ;by_cases D:r.d<q.d
      .as_aux_lemma=>
       have y:Lk (kO l (i+1) (IT i)):=ae (yl f.out.1 s x (.inr ⟨j,q,rfl,B,.inl D⟩));have Y:decide (r.d<q.d)=true:=by simpa using D
       clear s B x u hi H D;go_wp2_with fail;refine wq C ?_;iterate 4 (refine qz ?_)
       refine qz ?_ (λw' b=>by obtain⟨n,m,o⟩:=t.out w' b;go_simp<;>rfl);iterate 9 (refine qz ?_)
       refine qz ?_ (λw' b=>by obtain⟨n,m,o⟩:=t.out w' b;go_simp<;>rfl);iterate 4 (refine qz ?_)
       refine qz ?_ (λw' b=>by obtain⟨n,m,o⟩:=p.out w' b;go_simp<;>rfl);iterate 3 (refine qz ?_)
       iterate 24 go_big_quiet_skip
       iterate 2 (refine qz ?_)
       refine wpQuiet_nil ?_;intro F d;have A:=ae (f.out.2.trans (d.mono f.out.2.size));clear d;go_wp2;exact⟨⟨IT i,i+1,rfl,rfl,v.out,ae ⟨y.out,A.out⟩⟩,Xd v.out⟩
      .have Y:decide (r.d<q.d)=false:=by simpa using D
       by_cases I:r.d=q.d
       .have z2:((r.d:Int) == q.d)=true:=by simp;omega
        by_cases G:r.v<q.v
        .as_aux_lemma=>
         have y:Lk (kO l (i+1) (IT i)):=ae (yl f.out.1 s x (.inr ⟨j,q,rfl,B,.inr ⟨I,G⟩⟩));have z3:decide (r.v<q.v)=true:=by simpa using G
         clear s B x u hi H D I G;go_wp2_with fail;refine wq C ?_;iterate 4 (refine qz ?_)
         refine qz ?_ (λw' b=>by obtain⟨n,m,o⟩:=t.out w' b;go_simp<;>rfl);iterate 9 (refine qz ?_)
         refine qz ?_ (λw' b=>by obtain⟨n,m,o⟩:=t.out w' b;go_simp<;>rfl);iterate 4 (refine qz ?_)
         refine qz ?_ (λw' b=>by obtain⟨n,m,o⟩:=p.out w' b;go_simp<;>rfl);iterate 7 (refine qz ?_)
         refine qz ?_ (λw' b=>by obtain⟨n,m,o⟩:=t.out w' b;go_simp<;>rfl);iterate 4 (refine qz ?_)
         refine qz ?_ (λw' b=>by obtain⟨n,m,o⟩:=p.out w' b;go_simp<;>rfl);iterate 6 (refine qz ?_)
         refine qz ?_ (λw' b=>by obtain⟨n,m,o⟩:=t.out w' b;go_simp<;>rfl);iterate 4 (refine qz ?_)
         refine qz ?_ (λw' b=>by obtain⟨n,m,o⟩:=p.out w' b;go_simp<;>rfl);iterate 4 (refine qz ?_)
         refine wpQuiet_nil ?_;intro F d;have A:=ae (f.out.2.trans (d.mono f.out.2.size));clear d;go_wp2;exact⟨⟨IT i,i+1,rfl,rfl,v.out,ae ⟨y.out,A.out⟩⟩,Xd v.out⟩
        .as_aux_lemma=>
         have y:Lk (kO l (i+1) (IT j)):=ae (yj f.out.1 s (.inr ⟨j,q,rfl,B,by unfold ji;simp only;omega⟩));have z3:decide (r.v<q.v)=false:=by simpa using G
         clear s B x u hi H D I G;go_wp2_with fail;refine wq C ?_;iterate 4 (refine qz ?_)
         refine qz ?_ (λw' b=>by obtain⟨n,m,o⟩:=t.out w' b;go_simp<;>rfl);iterate 9 (refine qz ?_)
         refine qz ?_ (λw' b=>by obtain⟨n,m,o⟩:=t.out w' b;go_simp<;>rfl);iterate 4 (refine qz ?_)
         refine qz ?_ (λw' b=>by obtain⟨n,m,o⟩:=p.out w' b;go_simp<;>rfl);iterate 7 (refine qz ?_)
         refine qz ?_ (λw' b=>by obtain⟨n,m,o⟩:=t.out w' b;go_simp<;>rfl);iterate 4 (refine qz ?_)
         refine qz ?_ (λw' b=>by obtain⟨n,m,o⟩:=p.out w' b;go_simp<;>rfl);iterate 6 (refine qz ?_)
         refine qz ?_ (λw' b=>by obtain⟨n,m,o⟩:=t.out w' b;go_simp<;>rfl);iterate 4 (refine qz ?_)
         refine qz ?_ (λw' b=>by obtain⟨n,m,o⟩:=p.out w' b;go_simp<;>rfl);iterate 4 (refine qz ?_)
         refine wpQuiet_nil ?_;intro F d;have A:=ae (f.out.2.trans (d.mono f.out.2.size));clear d;go_wp2;exact⟨⟨IT j,i+1,rfl,rfl,v.out,ae ⟨y.out,A.out⟩⟩,Xd v.out⟩
       .as_aux_lemma=>
        have y:Lk (kO l (i+1) (IT j)):=ae (yj f.out.1 s (.inr ⟨j,q,rfl,B,by unfold ji;simp only;omega⟩));have z2:((r.d:Int) == q.d)=false:=by simp;omega
        clear s B x u hi H D I;go_wp2_with fail;refine wq C ?_;iterate 4 (refine qz ?_)
        refine qz ?_ (λw' b=>by obtain⟨n,m,o⟩:=t.out w' b;go_simp<;>rfl);iterate 9 (refine qz ?_)
        refine qz ?_ (λw' b=>by obtain⟨n,m,o⟩:=t.out w' b;go_simp<;>rfl);iterate 4 (refine qz ?_)
        refine qz ?_ (λw' b=>by obtain⟨n,m,o⟩:=p.out w' b;go_simp<;>rfl);iterate 7 (refine qz ?_)
        refine qz ?_ (λw' b=>by obtain⟨n,m,o⟩:=t.out w' b;go_simp<;>rfl);iterate 4 (refine qz ?_)
        refine qz ?_ (λw' b=>by obtain⟨n,m,o⟩:=p.out w' b;go_simp<;>rfl);iterate 2 (refine qz ?_)
        iterate 11 go_big_quiet_skip
        iterate 3 (refine qz ?_)
        refine wpQuiet_nil ?_;intro F d;have A:=ae (f.out.2.trans (d.mono f.out.2.size));clear d;go_wp2;exact⟨⟨IT j,i+1,rfl,rfl,v.out,ae ⟨y.out,A.out⟩⟩,Xd v.out⟩
   .as_aux_lemma=>
    have y:Lk (kO l (i+1) a):=ae (yj f.out.1 s (.inl x));rw[x]at t;obtain⟨z,E⟩:=ac (atZ a);have M:=ae E;rw[<- E];clear s x u hi E;go_wp2_with fail;refine wq C ?_;iterate 4 (refine qz ?_)
    refine qz ?_ (λw' b=>by obtain⟨n,m,o⟩:=t.out w' b;go_simp<;>rfl);iterate 2 (refine qz ?_)
    iterate 41 go_big_quiet_skip
    iterate 1 (refine qz ?_)
    refine wpQuiet_nil ?_;intro F d;have A:=ae (f.out.2.trans (d.mono f.out.2.size));clear d;go_wp2;exact⟨⟨a,i+1,by rw[M.out],rfl,v.out,ae ⟨y.out,A.out⟩⟩,Xd v.out⟩
  .have U:¬(i:Int)<N:=af;obtain rfl:i=N:=af
   have Q:Lk (kO l i a/\Lg w w C):=ae f.out;obtain⟨z,E⟩:=ac (atZ a);have M:=ae E;rw[<- E];clear E f u hi;go_wp2;go_ret;exact⟨a,Q.out.1,by rw[M.out];rfl,Q.out.2⟩
def KR(base:Nat)(lv:J3)(l:List rp)(W:KX)(e:Lp)(a:KX):Prop:=∃v',e=Mk v'/\fT a base v' l/\W.grownBy a lv.ownBlock/\(v'.ownBlock=lv.ownBlock\/∃b,v'.ownBlock=IT b/\W.heap.size<=b)
theorem Ru(h:fT w base lv l)(m:base<=w.heap.size)(S:l.length<=90000)(v d:Nat):K1 prog 258 #[lv,Kx Mo v,Kx MJ d] w (KR base lv (jB l v d) w):=by
 obtain⟨Q,k,rfl⟩:=aw h;have H:=ae (show _/\_ from⟨h,m⟩);obtain⟨N,K⟩:=ac l.length;have I:Lk (N=l.length/\N<=90000):=ae ⟨K,af⟩;rw[<- K];clear h m S K;go_enter func258,ntmps258;go_wp2_with fail;go_loopw [7] (λL W=>∃i:Nat,L=i/\i<=N/\Lk (Lg w w W/\∀q∈l.take i,q.v≠v)) (λL _=>N-(Lo L).toNat)
 case atStart=>exact⟨0,rfl,em _,ae ⟨kp _ _,ai⟩⟩
 case round=>
  obtain⟨i,rfl,hi,f⟩:=hrel;generalize wr=A at *;have y:Lk (fT A base (.slice Q N k) l):=ae (by rw[I.out.1];exact aB H.out.1 f.out.1);by_cases j:i<N
  .have T:(i:Int)<N:=af;obtain⟨r,o⟩:∃r,l[i]? = IT r:=⟨_,bk (Nm I.out)⟩;obtain⟨g,c,e⟩:=yq y.out o;cases e;obtain⟨Y,c1,c2⟩:=mC y.out o;have V:cf Mm ((i:Int)+1)=(i+1:Nat):=by have:=I.out;rw[ax]<;>omega
   have O:=ae j;by_cases hv:r.v=v
   .subst hv;have p:=ae (Fq (d:=d) o rfl f.out.2);by_cases J:r.b=J0/\d<r.d
    .as_aux_lemma=>
     obtain⟨n,s⟩:=J;rw[n]at c2;have R:decide (d<r.d)=true:=by simpa using s
     have X:=World.ownsRow.frozenAt y.out (i*3+1);have z:Lk (∀t,Lg A A t->KR base (.slice (IT ⟨g,0,KK⟩) l.length k) (jB l r.v d) w (Mk (.slice (IT ⟨g,0,KK⟩) l.length k)) (t.setCell ⟨g,i*3+1,KK⟩ (Kx MJ d))):=ae (λt F=>by have M:=aB y.out F;have x:=(World.ownsRow.stored M (i*3+1) (Kx MJ d)).2;have a:=f.out.1.trans (F.mono f.out.1.size);refine⟨_,rfl,?_,⟨a.os.symm▸x.os,a.tape.symm▸x.tape,a.output.symm▸x.output,cp a.size x.size,λb m u=>(x.block b (eg m a.size) u).trans (a.block b m)⟩,.inl rfl⟩;rw[p.out,if_pos ⟨n,s⟩];refine Ow M _ _ ?_ ai;rw[Ou d o,n])
     clear o j hi s n;go_wp2;go_ret;exact z.out _ aq
    .as_aux_lemma=>
     have z:Lk (∀t,Lg A A t->KR base (.slice (IT ⟨g,0,KK⟩) l.length k) (jB l r.v d) w (Mk (.slice (IT ⟨g,0,KK⟩) l.length k)) t):=ae (λt F=>by have a:=f.out.1.trans (F.mono f.out.1.size);exact⟨_,rfl,by rw[p.out,if_neg J];exact aB y.out F,⟨a.os,a.tape,a.output,a.size,λb m _=>a.block b m⟩,.inl rfl⟩)
     cases D:r.b
     .rw[D]at c2;have R:decide (d<r.d)=false:=by have x:¬d<r.d:=λe=>J ⟨D,e⟩;simpa using x
      clear o j hi J D;go_wp2;go_ret;exact z.out _ aq
     .rw[D]at c2;clear o j hi J D;go_wp2;go_ret;exact z.out _ aq
   .as_aux_lemma=>
    have U:Lk (∀q∈l.take (i+1),q.v≠v):=ae (by have:=f.out.2;rw[take_one o];grind);have R:((r.v:Int) == v)=false:=by simp;omega
    clear o j hi hv;go_wp2;exact⟨⟨i+1,rfl,O.out,ae ⟨f.out.1,U.out⟩⟩,Xd O.out⟩
  .as_aux_lemma=>
   have T:¬(i:Int)<N:=af;have p:Lk (jB l v d=l++[⟨v,d,J0⟩]):=ae (IY (by have:=f.out.2;rwa [ey (Nm I.out.1)]at this));have P:Lk (base<=A.heap.size/\l.length<=100000):=ae ⟨cp H.out.2 f.out.1.size,Nm I.out⟩;go_wp2_with (at_builtin;refine zT rfl _ _ rfl base _ l rfl y.out ⟨v,d,J0⟩ 1 rfl P.out.2 P.out.1 ?_);intro v2 B G E;have z:Lk (KR base (.slice Q N k) (jB l v d) w (Mk v2) B):=ae (by obtain⟨C,hv⟩:=E;have a:=f.out.1;refine⟨_,rfl,by rw[p.out];exact G,⟨C.os.trans a.os,C.tape.trans a.tape,C.output.trans a.output,cp a.size (cp ai C.size),λb m u=>((C.block b (by simp;have:=a.size;omega) u).trans ((MapKept.heap_alloc _ _).2 b (eg m a.size))).trans (a.block b m)⟩,hv.imp id λe=>⟨_,e,?_⟩⟩;have:=a.size;simp;omega)
   clear G E;go_wp2;go_ret;exact z.out
end
def Ox(a b:Nat):Nat:=if a+b<9223372036854775808 then a+b else 0
theorem I2(a b:Nat)(f:a<18446744073709551616)(g:b<18446744073709551616)(w:KX):K1 prog 101 #[Kx MJ a,Kx MJ b] w λe w'=>e=Mk (Ly #[Kx MJ (Ox a b),.bool (decide (a+b<9223372036854775808))])/\Lg w w w':=by
 obtain⟨r,d⟩:∃r:Bool,r=decide (a+b<9223372036854775808):=⟨_,rfl⟩;rw[<- d];have l:=ae (show _/\_ from⟨f,g⟩);by_cases h:a<9223372036854775808
 .obtain⟨S,k⟩:=ac (9223372036854775808-a);have m:cf MJ (9223372036854775808-(a:Int))=S:=(congrArg _ (by omega:9223372036854775808-(a:Int)=S)).trans (iQ _ af af);by_cases j:b<S
  .have c:Lk (r=Jd/\Ox a b=a+b):=ae ⟨by rw[d];simp;omega,if_pos af⟩;have n:cf MJ ((a:Int)+b)=(a+b:Nat):=(congrArg _ (by omega:(a:Int)+b=(a+b:Nat))).trans (iQ _ af af);have i:decide ((a:Int) >= 9223372036854775808)=false:=decide_eq_false af;have z2:decide (S<=b)=false:=by simp;omega
   clear h j d k f g;go_enter func101,ntmps101;go_wp2;go_ret2;exact⟨by rw[c.out.1,c.out.2];rfl,kp _ _⟩
  .have c:Lk (r=J0/\Ox a b=0):=ae ⟨by rw[d];simp;omega,if_neg af⟩;have i:decide ((a:Int) >= 9223372036854775808)=false:=decide_eq_false af;have z2:decide (S<=b)=true:=by simp;omega
   clear h j d k f g;go_enter func101,ntmps101;go_wp2;go_ret2;exact⟨by rw[c.out.1,c.out.2];rfl,kp _ _⟩
 .have c:Lk (r=J0/\Ox a b=0):=ae ⟨by rw[d];simp;omega,if_neg af⟩;have i:decide ((a:Int) >= 9223372036854775808)=true:=decide_eq_true af;clear h d f g;go_enter func101,ntmps101;go_wp2;go_ret2;exact⟨by rw[c.out.1,c.out.2];rfl,kp _ _⟩
section
variable {w W t:KX}{E:Nat->List aJ}{A:Nat->Bool}{e most k s nb:Nat}{m:Aa}{S:List Nat}{R:Bool}{lv av:J3}{es:List aJ}{sh asked:List Nat}{l:List rp}
theorem Vg(h:nJ m=KK):gj E A e most k m S=false:=by
 cases k with
 |zero=>rfl
 |succ k=>simp[gj,h]
theorem ZY{v d:Nat}(h:nJ m=IT (v,d))(a:most<d):gj E A e most k m S=false:=by
 cases k with
 |zero=>rfl
 |succ k=>simp[gj,h,a]
theorem Rv{dist:Nat}{l:List aJ}{i:Nat}{x:aJ}(h:l[i]? = IT x):ft A S dist m (l.take (i+1))=if dist+x.x.toNat<9223372036854775808/\x.h.toNat ∉ S/\A x.h.toNat=J0 then pq (ft A S dist m (l.take i)) x.h.toNat (dist+x.x.toNat) else ft A S dist m (l.take i):=by unfold ft;rw[im h,B1];rfl
structure iP(w W:KX)(lv av:J3)(l:List rp)(asked:List Nat)(q:Nat):Prop where
 row:fT W w.heap.size lv l
 ask:aT W w.heap.size av asked
 bl:Lg w w W
 len:l.length<=q
 Vh:asked.length<=q
 small:∀r∈l,r.v<4294967296/\r.d<9223372036854775808
theorem iP.below{q:Nat}(h:iP w W lv av l asked q)(a:Lg W W t):iP w t lv av l asked q:=
 ⟨aB h.row a,aB h.ask a,h.bl.trans (a.mono h.bl.size),h.len,h.Vh,h.small⟩
theorem iP.apart{q:Nat}(h:iP w W lv av l asked q):∀x,lv.ownBlock=IT x->av.ownBlock≠IT x:=cr h.row h.ask ag
theorem iP.set{q g n c:Nat}(h:iP w W (.slice (IT ⟨g,0,KK⟩) n c) av l asked q){i:Nat}{r:rp}(d:l[i]? = IT r):iP w (W.setCell ⟨g,i*3+2,KK⟩ (.bool Jd)) (.slice (IT ⟨g,0,KK⟩) n c) av (l.set i ⟨r.v,r.d,Jd⟩) asked q:=by
 have j:=(aA h.row g rfl).2;refine⟨Ow h.row _ _ (Ov Jd d) ai,bg h.ask λb f=>e8 _ _ _ _ (λe=>?_),h.bl.setCell j _,by simpa using h.len,h.Vh,λx a=>?_⟩
 .subst e;exact h.apart b rfl f
 .rcases List.mem_or_eq_of_mem_set a with a | rfl
  .exact h.small x a
  .exact h.small r (cx d)
theorem iP.aso{q x:Nat}{i:Obj}{a:J3}(h:iP w W lv av l asked q)(g:aT t w.heap.size a (asked++[x]))(d:gP av (W.alloc i) t a):iP w t lv a l (asked++[x]) (q+1):=by have j:=h.bl.size;refine⟨bg h.row λb c=>?_,g,(bH (h.bl.alloc j _) (λy k=>(aA h.ask y k).2) d).1,Nm h.len,by have:=h.Vh;simp;omega,h.small⟩;have f:=(aA h.row b c).1;exact(d.1.block b (by simp;omega) (λe=>h.apart b c e.symm)).trans ((MapKept.heap_alloc _ _).2 b f)
theorem iP.came{q v d:Nat}(h:iP w W lv av l asked q)(g:fT t w.heap.size u (jB l v d))(a:W.grownBy t lv.ownBlock)(i:v<4294967296)(f:d<9223372036854775808):iP w t u av (jB l v d) asked (q+1):=
 ⟨g,bg h.ask λb c=>a.block b (aA h.ask b c).1 (λe=>h.apart b e.symm c),⟨a.os.trans h.bl.os,a.tape.trans h.bl.tape,a.output.trans h.bl.output,cp h.bl.size a.size,λb c=>(a.block b (eg c h.bl.size) (λe=>Nm ((aA h.row b e.symm).2))).trans (h.bl.block b c)⟩,
  by have:=h.len;have:=@KQ l v d;omega,Nm h.Vh,Vd h.small ⟨i,f⟩⟩
theorem iP.mono{q b:Nat}(h:iP w W lv av l asked q)(a:q<=b):iP w W lv av l asked b:=⟨h.row,h.ask,h.bl,cp h.len a,cp h.Vh a,h.small⟩
theorem Vi{a:Option Addr}{n k base i:Nat}{r:rp}(h:fT w base (.slice a n k) l)(hi:l[i]? = IT r):∃g,a=IT ⟨g,0,KK⟩:=by obtain⟨g,c,e⟩:=yq h hi;simp only[Value.slice.injEq]at e;exact⟨g,e.1⟩
def ac1(w:KX)(R:Bool)(e:Lp)(w':KX):Prop:=∃v,e=Mk (Ly #[v,.bool R,Kx Mm 0])/\Lg w w w'
theorem Vl(h:kP w nb es sh)(src c most:Nat)(hs:src<4294967296):K1 prog 212 #[ptrTo nb,Kx Mo src,Kx Mo c,Kx MJ most] w (ac1 w (gj (λv=>eJ J0 v es) (λv=>decide (v∈sh)) c most 16 [(src,0)] [])):=by
 have HN:=ae h;obtain⟨E,hE⟩:∃E:Nat->List aJ,E=λv=>eJ J0 v es:=⟨_,rfl⟩;obtain⟨A,G⟩:∃A:Nat->Bool,A=λv=>decide (v∈sh):=⟨_,rfl⟩;obtain⟨R,hR⟩:=ac (gj E A c most 16 [(src,0)] []);have HA:Lk (∀v,A v=decide (v∈sh)):=ae (λv=>by rw[G]);have Yc:Lk (∀W(v:Nat),Lg w w W->K1 prog 99 #[ptrTo nb,Kx Mo v] W (xg W (E v))):=ae (λW v hW=>by rw[hE];exact s7 (h.below hW) v);have el:Lk (∀W(v:Nat),Lg w w W->K1 prog 100 #[ptrTo nb,Kx Mo v] W λe w'=>e=Mk (.bool (A v))/\w'=W):=ae (λW v hW=>by rw[G];exact I0 (h.below hW) v);have en:Lk (∀v,(E v).length<=1000):=ae (λv=>by rw[hE];exact cp (kq _ _) h.l1);have ce:Lk (gj E A c most 16 [(src,0)] []=R):=ae hR.symm;rw[<- hE,<- G,<- hR];unfold ptrTo at *;have HI:Lk (iP w (w.alloc (Mi #[Kx Mo src,Kx MJ 0,.bool J0] 331)) (.slice w.heap.size 1 1) (.slice KK 0 0) [⟨src,0,J0⟩] [] 1):=ae
  ⟨World.ownsRow_lit _ _ 1 (cg _) ag rfl,gp _ _ _ _,aq.alloc (cg _) _,ai,ai,by simp;exact hs⟩
 have FT:=ae (Oq src);clear h hE G hR hs;go_enter func212,ntmps212;go_wp2_with fail;generalize w.alloc (Mi #[Kx Mo src,Kx MJ 0,.bool J0] 331)=W0 at *;go_loopw [11,12,13] (λav lv sv W=>∃(s:Nat)(l:List rp)(m:Aa)(S asked:List Nat),sv=s/\s<=16/\Lk (iP w W lv av l asked (1+s*1001)/\lS l m S/\gj E A c most (16-s) m S=R)) (λ_ _ sv _=>17-(Lo sv).toNat)
 case atStart=>exact⟨0,_,_,[],[],rfl,af,ae ⟨HI.out,FT.out,ce.out⟩⟩
 case round=>
  generalize u11=av at *;generalize u12=lv at *;generalize wr=W1 at *;obtain⟨s,l,m,S,asked,rfl,hs,d⟩:=hrel;clear HI FT ce;obtain⟨la,lk,rfl⟩:=aw d.out.1.row;obtain⟨aa,ak,rfl⟩:=aw d.out.1.ask;have C:=ae hs;have P:=ae (Rt d.out.1.row (Nm d.out.1.len));obtain⟨M,hM⟩:=ac l.length;obtain⟨AM,B⟩:=ac asked.length;rw[<- hM,<- B]at d;rw[<- hM]at P;have HM:Lk (M=l.length/\AM=asked.length):=ae ⟨hM,B⟩;rw[<- hM,<- B];clear hM B hs;go_wp2_with fail;go_call P.out as e W2⟨a,hna,rfl,hb2⟩;have y:Lk (iP w W2 (.slice la M lk) (.slice aa AM ak) l asked (1+s*1001)):=ae (d.out.1.below hb2);rw[HM.out.1]at hna;have L:=ae hna;clear hb2 P hna;cases a with
  |none=>as_aux_lemma=>
    have HQ:Lk (R=J0):=ae (by rw[<- d.out.2.2];exact Vg (d.out.2.1.nil L.out));unfold atZ;clear d;go_wp2;go_ret3
    exact⟨_,by rw[HQ.out];rfl,y.out.bl⟩
  |some i=>
    obtain⟨r,p,Fl,rF⟩:=d.out.2.1.nxt L.out;obtain⟨g,rfl⟩:=Vi y.out.row p;have R6:=ae (show _/\_ from⟨p,Fl⟩);obtain⟨Z,N,O⟩:=mC (by have:=y.out.row;rwa [HM.out.1]at this) p;have eS:(i:Int)<M:=No HM.out.1 (aK p);have tj:¬(i:Int)<0:=af;have de:=ae rF;have O5:=ae (y.out.small r (cx p));unfold atZ;by_cases F:most<r.d
    .as_aux_lemma=>
     have HQ:Lk (R=J0):=ae (by rw[<- d.out.2.2];exact ZY de.out F);have J:decide (most<r.d)=true:=by simpa using F
     clear d F p Fl rF;go_wp2;go_ret3
     exact⟨_,by rw[HQ.out];rfl,y.out.bl⟩
    have J:decide (most<r.d)=false:=by simpa using F
    by_cases YY:s=16
    .as_aux_lemma=>
     subst YY;have HQ:Lk (R=J0):=ae (by rw[<- d.out.2.2];rfl);clear d F p Fl rF;go_wp2;go_ret3
     exact⟨_,by rw[HQ.out];rfl,y.out.bl⟩
    have z2:((s:Int) == 16)=false:=by simp;omega
    obtain⟨k,hk⟩:∃k,16-s=k+1:=⟨15-s,Nm C.out⟩;have HK:Lk (16-s=k+1/\s+1<=16/\16-(s+1)=k):=ae ⟨hk,Nm C.out,af⟩;by_cases hv:r.v=c
    .as_aux_lemma=>
     have HQ:Lk (R=Jd):=ae (by rw[<- d.out.2.2,hk,gj,rF];simp[F,hv]);have z3:((r.v:Int) == c)=true:=by simp;omega
     clear d F p Fl rF hv YY hk;go_wp2;go_ret3
     exact⟨_,by rw[HQ.out];rfl,y.out.bl⟩
    have z3:((r.v:Int) == c)=false:=by simp;omega
    have T:Lk (lS (l.set i ⟨r.v,r.d,Jd⟩) (b9 m r.v) (r.v::S)/\gj E A c most k (ft A (r.v::S) r.d (b9 m r.v) (E r.v)) (r.v::S)=R):=ae ⟨d.out.2.1.settle p,by rw[<- d.out.2.2,hk,gj,rF];simp[F,hv]⟩;have u:=y.out.row;rw[HM.out.1]at u;have f0:=World.ownsRow.frozenAt u (i*3+2);clear u;obtain⟨W3,al⟩:=ac (W2.setCell ⟨g,i*3+2,KK⟩ (.bool Jd));have eM:Lk (iP w W3 (.slice (IT ⟨g,0,KK⟩) M lk) (.slice aa AM ak) (l.set i ⟨r.v,r.d,Jd⟩) asked (1+s*1001)):=ae (by rw[al];exact y.out.set p);have ZZ:Lk ((l.set i ⟨r.v,r.d,Jd⟩)[i]? = IT ⟨r.v,r.d,Jd⟩/\M=(l.set i ⟨r.v,r.d,Jd⟩).length):=ae ⟨by have:=aK p;simp[this],by rw[k9];exact HM.out.1⟩;clear d y F p Fl rF hv YY hk R6 de L;generalize l.set i ⟨r.v,r.d,Jd⟩=l3 at *;go_upto_region 11 with fail
    rw[<- al];clear al Z N O f0 J z2 z3;obtain⟨Z,N,O⟩:=mC (by have:=eM.out.row;rwa [ZZ.out.2]at this) ZZ.out.1;have nB:Lk (asked.length<=100000/\w.heap.size<=W3.heap.size):=ae ⟨No eM.out.Vh C.out,eM.out.bl.size⟩;go_wp2_with (at_builtin;refine fg rfl _ _ rfl w.heap.size _ asked rfl eM.out.ask r.v 1 rfl nB.out.1 nB.out.2 ?_);intro v4 w4 am CW;have qZ:=ae (eM.out.aso am CW);clear am CW Z N O eM;obtain⟨a4,k4,rfl⟩:=aw qZ.out.ask;obtain⟨Z,N,O⟩:=mC (by have:=qZ.out.row;rwa [ZZ.out.2]at this) ZZ.out.1;have H:=ae (Yc.out w4 r.v qZ.out.bl);generalize asked++[r.v]=Bt at *;generalize Bt.length=A4 at *;go_wp2_with fail;go_call H.out as e w5⟨ev,rfl,Qg,kR⟩;have qY:=ae (qZ.out.below kR);have Mn:=ae Qg;have FM:Lk (Lg w w w5/\w4.heap.size<=w5.heap.size):=ae ⟨qY.out.bl,kR.size⟩;clear kR Qg H qZ Z N O;obtain⟨ea,ek,rfl⟩:=aw Mn.out;obtain⟨Z,N,O⟩:=mC (by have:=qY.out.row;rwa [ZZ.out.2]at this) ZZ.out.1;obtain⟨f,z⟩:=ac (E r.v);rw[<- z]at Mn T;have aE:Lk (f.length<=1000):=ae (by rw[z];exact en.out _);rw[<- z];obtain⟨K,hK⟩:=ac f.length;have n:Lk (K=f.length/\K<=1000):=ae ⟨hK,Nm aE.out⟩;rw[<- hK]at Mn ⊢;clear z hK aE;go_wp2_with fail;go_loopw [12,18] (λlv jv W=>∃(j:Nat)(q:List rp),jv=j/\j<=K/\Lk (iP w W lv (.slice a4 A4 k4) q Bt (1+s*1001+1+j)/\lS q (ft A (r.v::S) r.d (b9 m r.v) (f.take j)) (r.v::S)/\W.ownsRow w4.heap.size 63 4 (.slice ea K ek) K (dH f))) (λ_ jv _=>K-(Lo jv).toNat)
    case atStart=>exact⟨0,l3,rfl,em _,ae ⟨qY.out,T.out.1,by have h:=Mn.out;unfold aG at h;rwa [<- n.out.1]at h⟩⟩
    case round=>
     generalize u12=lv at *;generalize wr=W6 at *;obtain⟨j,q,rfl,hj,t⟩:=hrel;clear qY Mn Z N O ZZ;by_cases Y:j<K
     .have CV:(j:Int)<K:=af;have wj:cf Mm ((j:Int)+1)=(j+1:Nat):=by have:=n.out;rw[ax]<;>omega
      obtain⟨x,hx⟩:∃x,f[j]? = IT x:=⟨_,bk (Nm n.out)⟩;have co:Lk (∀W,Lg W6 W6 W->∃be I,ea=IT ⟨be,I,KK⟩/\W.cell? ⟨be,I+j*4+1,KK⟩=x.h/\W.cell? ⟨be,I+j*4+2,KK⟩=x.x):=ae (λW hW=>by have h1:=aB t.out.2.2 hW;rw[n.out.1]at h1;obtain⟨-,ee⟩:=eL (fG h1);obtain⟨be,I,e1,-,e3,e4,-⟩:=ee W aq j x hx;exact⟨be,I,e1,e3,e4⟩)
      have Q:=ae (Rv (A:=A) (S:=r.v::S) (dist:=r.d) (m:=b9 m r.v) hx);have X:=ae Y;have kQ:=ae (λW=>I2 r.d x.x.toNat (Nm O5.out) x.x.toNat_lt W);obtain⟨ge,I,rfl,e1,e2⟩:=co.out W6 aq;obtain⟨dl,dq,rfl⟩:=aw t.out.1.row;clear hx hj Y;generalize q.length=M6 at *;go_wp2_with fail;go_call(kQ.out _) as e W7⟨rfl,xH⟩;have o:Lk (iP w W7 (.slice dl M6 dq) (.slice a4 A4 k4) q Bt (1+s*1001+1+j)/\W7.ownsRow w4.heap.size 63 4 (.slice (IT ⟨ge,I,KK⟩) K ek) K (dH f)):=ae ⟨t.out.1.below xH,aB t.out.2.2 xH⟩;obtain⟨ff,fm,e,q1,q2⟩:=co.out W7 xH;cases e;have tN:=ae xH;clear xH e1 e2 kQ;by_cases hf:r.d+x.x.toNat<9223372036854775808
      .have J:decide (r.d+x.x.toNat<9223372036854775808)=true:=by simpa using hf
       have ci:Lk (Ox r.d x.x.toNat=r.d+x.x.toNat):=ae (if_pos hf);have U:=ae hf;have SB:=ae (el.out W7 x.h.toNat o.out.1.bl);rw[ci.out,J];obtain⟨D,hD⟩:=ac (r.d+x.x.toNat);rw[<- hD]at U ⊢;have yw:=ae hD;clear hf J hD ci;go_wp2_with fail;go_call SB.out as e W8⟨rfl,rfl⟩;clear SB;cases G:A x.h.toNat
       .have bd:=ae (Ru o.out.1.row o.out.1.bl.size (by have:=o.out.1.len;have:=n.out;have:=HK.out;have:=X.out;omega) x.h.toNat D);have du:=ae G;go_wp2_with fail;go_call bd.out as e W9⟨v',rfl,hr9,hg9,-⟩;have V:Lk (iP w W9 v' (.slice a4 A4 k4) (jB q x.h.toNat D) Bt (1+s*1001+1+(j+1))/\lS (jB q x.h.toNat D) (ft A (r.v::S) r.d (b9 m r.v) (f.take (j+1))) (r.v::S)/\W9.ownsRow w4.heap.size 63 4 (.slice (IT ⟨ge,I,KK⟩) K ek) K (dH f)):=ae (by
         refine⟨o.out.1.came hr9 hg9 x.h.toNat_lt U.out,?_,bg o.out.2 λb hb=>hg9.block b (aA o.out.2 b hb).1 λe=>cr o.out.1.row o.out.2 ag b e.symm hb⟩;rw[Q.out];by_cases kh:x.h.toNat∈r.v::S
         .rw[if_neg (λe=>e.2.1 kh),t.out.2.1.Vc kh];exact t.out.2.1
         .rw[<- yw.out,if_pos ⟨U.out,kh,du.out⟩];exact t.out.2.1.come kh)
        clear hr9 hg9 bd G q1 q2;go_wp2;exact⟨⟨j+1,_,rfl,X.out,V⟩,Xd X.out⟩
       .as_aux_lemma=>have V:Lk (ft A (r.v::S) r.d (b9 m r.v) (f.take (j+1))=ft A (r.v::S) r.d (b9 m r.v) (f.take j)):=ae (by rw[Q.out,if_neg (λe=>by rw[G]at e;cases e.2.2)]);clear G;go_wp2;exact⟨⟨j+1,q,rfl,X.out,ae ⟨o.out.1.mono af,by rw[V.out];exact t.out.2.1,o.out.2⟩⟩,Xd X.out⟩
      .as_aux_lemma=>
       have J:decide (r.d+x.x.toNat<9223372036854775808)=false:=by simpa using hf
       have V:Lk (ft A (r.v::S) r.d (b9 m r.v) (f.take (j+1))=ft A (r.v::S) r.d (b9 m r.v) (f.take j)):=ae (by rw[Q.out,if_neg (λe=>hf e.1)]);rw[J];generalize Ox r.d x.x.toNat=D at *;clear hf J;go_wp2;exact⟨⟨j+1,q,rfl,X.out,ae ⟨o.out.1.mono af,by rw[V.out];exact t.out.2.1,o.out.2⟩⟩,Xd X.out⟩
     .as_aux_lemma=>
      have CV:¬(j:Int)<K:=af;have HT:Lk (f.take j=f):=ae (ey (Nm n.out));have V:Lk (iP w W6 lv (.slice a4 A4 k4) q Bt (1+(s+1)*1001)/\lS q (ft A (r.v::S) r.d (b9 m r.v) f) (r.v::S)/\gj E A c most (16-(s+1)) (ft A (r.v::S) r.d (b9 m r.v) f) (r.v::S)=R):=ae ⟨t.out.1.mono (Nm n.out),by have:=t.out.2.1;rwa [HT.out]at this,by rw[HK.out.2.2];exact T.out.2⟩;have ws:cf Mm ((s:Int)+1)=(s+1:Nat):=by have:=C.out;rw[ax]<;>omega
      clear Y hj t;go_wp2;exact⟨⟨s+1,q,_,_,Bt,rfl,HK.out.2.1,V⟩,Xd HK.out.2.1⟩
theorem Rw(h:kP w nb es sh)(src a most:Nat)(c:src<4294967296):K1 prog 169 #[ptrTo nb,Kx Mo src,Kx Mo a,Kx MJ most] w λe w'=>e=Mk (Ly #[.bool (gj (λv=>eJ J0 v es) (λv=>decide (v∈sh)) a most 16 [(src,0)] []),Kx Mm 0])/\Lg w w w':=by have b:=ae (Vl h src a most c);generalize gj (λv=>eJ J0 v es) (λv=>decide (v∈sh)) a most 16 [(src,0)] []=R at *;clear h c;unfold ptrTo at *;go_enter func169,ntmps169;go_wp2_with fail;go_call b.out as e w1⟨v,rfl,hb⟩;have d:=ae hb;clear hb b;go_wp2;go_ret2;exact⟨rfl,d.out⟩
end
theorem qB{P:Program}{w:KX}{rest:List Oper}{a:Act}(j:f.guard=KK)(s x:Operand)(t:TypeId)(r:f.op=.call { callee:=.builtin .append,args:=#[s,x],argTypes:=#[t,t] }){base:Nat}{e:TypeId}{z:J3}{size b:Nat}(l:P.underlying t=IT (.slice e))(hi:(P.info? e).map (λi=>(i.zero,i.size,i.bytes))=IT (IT z,size,b)){v:J3}{n:Nat}(C:a.eval s=v)(h:w.ownsRow base e size v n xs)(cap:Nat)(u:a.eval x=.slice KK 0 cap)(k:wpList P ops Q rest (a.put f.dst v) w):wpList P ops Q (f::rest) a w:=by
 obtain⟨i0,m,D,q,B⟩:=info_parts hi;have y:∀ad,(storeCells ad []).run P w=.ok () w:=λ_=>rfl;refine wpList_plain j λK hK=>?_;have d:(Builtin.append_ #[t,t] f.type #[v,.slice KK 0 cap]).run P w=.ok v w:=by
  obtain⟨_,⟨rfl,o⟩|⟨g,c,A,rfl,F,G,p,E,_⟩⟩:=h
  .subst o;simp[Builtin.append_,run_underlying l,sizeOf,typeInfo,m,Builtin.lenOf,Builtin.firstCells]
  .simp[Builtin.append_,run_underlying l,sizeOf,typeInfo,m,Builtin.lenOf,Builtin.firstCells,y,p]
 unfold Oper.wp execOp;simp only[r,resolve,invoke,builtin,Sem.run_bind,Sem.run_pure,Result.andThen_ok,List.map_toArray,List.map_cons,List.map_nil,C,u,d];exact hK _ _ k
theorem yr{w:KX}{rest:List Oper}{a:Act}(h:f.guard=KK)(s x:Operand)(n:f.op=.call { callee:=.builtin .append,args:=#[s,x],argTypes:=#[40,40] })(base:Nat)(v:J3)(l:List Nat)(o:a.eval s=v)(b:aT w base v l)(u:J3)(e:List Nat)(m:a.eval x=u)(i:aT w 0 u e)(A:l.length+e.length<=100000)(d:base<=w.heap.size)(k:∀v' w',aT w' base v' (l++e)->gP v w w' v'->wpList prog ops Q rest (a.put f.dst v') w'):wpList prog ops Q (f::rest) a w:=by
 obtain⟨_,⟨rfl,r⟩|⟨g,c,t,rfl,-⟩⟩:=id i
 .have:e=[]:=sI.1 r;subst this;exact qB h s x 40 n Tryz.underlying40 EZ o b 0 m (k _ _ M2 ⟨⟨rfl,rfl,rfl,cg _,λ_ _ _=>rfl⟩,.inl rfl⟩)
 .refine ct h s x 40 n base 33 _ 1 4 Tryz.underlying40 EZ rfl ag v l.length (l.map jf) o b ⟨g,0,KK⟩ e.length c (e.map jf) m ai (λj y p=>World.ownsRow.cells i (g:=g) rfl j y p) (by grind [qn]) (by grind [maxLen]) af d (λv' w' z q=>k v' w' ?_ q);grind
section
variable {w W:KX}{nb:Nat}{es:List aJ}{sh:List Nat}
def Z0(es:List aJ)(a:List Nat)(w:KX)(e:Lp)(w':KX):Prop:=∃nb,e=Mk (ptrTo nb)/\kP w' nb es a/\Lg w w w'
theorem Oz(h:kP w nb es sh)(C:sh.length<=900)(v:Nat):K1 prog 97 #[ptrTo nb,Kx Mo v] w (Z0 es (v::sh) w):=by
 obtain⟨⟨P,sv,f,E,r⟩,A,M⟩:=id h;unfold ptrTo;have L:=ae r;have N:=ae E;obtain⟨m,o,rfl⟩:=aw r;obtain⟨p,q,rfl,-⟩:=E;have G:w.cell? nb=IT (.slice p es.length q):=by rw[au f];rfl
 have c1:w.cell? ⟨nb,1,KK⟩=IT (.slice KK 0 0):=by rw[au f];rfl
 have c2:w.cell? ⟨nb,2,KK⟩=IT (.slice m sh.length o):=by rw[au f];rfl
 have s:nb<w.heap.size:=bD f;have O:Lk (es.length<=1000/\sh.length<=900):=ae ⟨A,C⟩;obtain⟨l,a⟩:=ac (w.alloc (Mi #[Kx Mo v] 33));have n:Lk (Lg w w l):=ae (by rw[a];exact aq.alloc (cg _) _);have D:Lk (aT l w.heap.size (.slice w.heap.size 1 1) [v]):=ae (by rw[a];exact World.ownsRow_lit _ _ 1 (cg _) ag rfl);have F:Lk (aT l 0 (.slice m sh.length o) sh/\w.heap.size<=l.heap.size):=ae ⟨aB L.out n.out,n.out.size⟩;have u:l.cell? ⟨nb,2,KK⟩=IT (.slice m sh.length o):=bq n.out c2;clear h f r A M C c2;go_enter func97,ntmps97;go_upto_region 2 with fail
 rw[<- a];clear a s;go_wp2_with (at_builtin;refine yr rfl _ _ rfl w.heap.size _ [v] rfl D.out (.slice m sh.length o) sh rfl F.out.1 Xy F.out.2 ?_);intro v2 B d g;obtain⟨x,vk,rfl⟩:=aw d;have e:Lk (Lg w w B):=ae (bH n.out (λy I=>aD D.out y I) g).1;have K:Lk (aT B w.heap.size (.slice x (sh.length+1) vk) (v::sh)):=ae d;have i:Lk (∀W,Lg B B W->W.cell? nb=IT (.slice p es.length q)/\W.cell? ⟨nb,1,KK⟩=IT (.slice KK 0 0)):=ae (λW H=>⟨bq (e.out.trans (H.mono e.out.size)) G,bq (e.out.trans (H.mono e.out.size)) c1⟩);clear d g G c1 u;go_upto_region 3 with fail
 refine cm (Lg B B) 10 (by rfl) ah aq.drew ?_;simp only[ii,j2,ot,qd];iterate 3 (refine qz ?_)
 refine qz ?_ (λw' c=>by have k:=(i.out w' c).1;go_simp<;>rfl);iterate 3 (refine qz ?_)
 refine qz ?_ (λw' c=>by have k:=(i.out w' c).2;go_simp<;>rfl);iterate 2 (refine qz ?_)
 refine wpQuiet_nil ?_;intro j b;have J:Lk (Z0 es (v::sh) w (Mk (.pointer j.heap.size)) (j.alloc (Mi #[.slice p es.length q,.slice KK 0 0,.slice x (sh.length+1) vk] 124))):=ae (by have z:=e.out.trans (b.mono e.out.size);have t:Lg j j (j.alloc (Mi #[.slice p es.length q,.slice KK 0 0,.slice x (sh.length+1) vk] 124)):=aq.alloc (cg _) _;exact⟨_,rfl,⟨⟨_,_,Lw _ _,(N.out.below z).below t,aB (aB (aQ K.out (em _)) b) t⟩,O.out.1,Xy⟩,z.trans (t.mono z.size)⟩)
 clear b;go_wp2;go_ret;exact J.out
def OA(E:Nat->List aJ)(A:Nat->Bool)(u t s:Nat):Bool:=decide ((∃x∈E u,x.h.toNat=t/\x.x.toNat<=s)\/gj E A t s 16 [(u,0)] []=Jd)
theorem KS(h:kP w nb es sh)(u t s:Nat)(y:u<4294967296):K1 prog 102 #[ptrTo nb,Kx Mo u,Kx Mo t,Kx MJ s] w λe w'=>e=Mk (Ly #[.bool (OA (λv=>eJ J0 v es) (λv=>decide (v∈sh)) u t s),Kx Mm 0])/\Lg w w w':=by
 have a:=ae (s7 h u);have g:=ae (λW(H:Lg w w W)=>Rw (h.below H) u t s y);obtain⟨F,o⟩:∃F,F=gj (λv=>eJ J0 v es) (λv=>decide (v∈sh)) t s 16 [(u,0)] []:=⟨_,rfl⟩;obtain⟨R,p⟩:∃R,R=OA (λv=>eJ J0 v es) (λv=>decide (v∈sh)) u t s:=⟨_,rfl⟩;obtain⟨l,j⟩:=ac (eJ J0 u es);have G:Lk (R=decide ((∃x∈l,x.h.toNat=t/\x.x.toNat<=s)\/F=Jd)):=ae (by rw[p,o,j];rfl);have D:l.length<=1000:=by rw[j];exact cp (kq _ _) h.l1
 rw[<- p];rw[<- o]at g;rw[<- j]at a;obtain⟨K,hK⟩:=ac l.length;have M:Lk (K=l.length/\K<=1000):=ae ⟨hK,af⟩;unfold ptrTo at *;clear h y o p j D;go_enter func102,ntmps102;go_wp2_with fail;go_call a.out as e w1⟨ev,rfl,Qg,hb1⟩;have k:=ae hb1;obtain⟨S,N,rfl⟩:=aw Qg;have A:=ae (eL (fG Qg)).2;rw[<- hK];clear Qg hb1 a hK;go_wp2_with fail;go_loopw [12] (λn W=>∃i:Nat,n=i/\i<=K/\Lk (∀x∈l.take i,¬(x.h.toNat=t/\x.x.toNat<=s))/\W=w1) (λn _=>K-(Lo n).toNat)
 case atStart=>grind [ae]
 case round=>
  obtain⟨i,rfl,hi,z,rfl⟩:=hrel;by_cases b:i<K
  .obtain⟨x,f⟩:∃x,l[i]? = IT x:=⟨_,bk Xy⟩;obtain⟨T,J,rfl,L,I,Q,O⟩:=A.out _ aq i x f;have P:cf Mm ((i:Int)+1)=(i+1:Nat):=by grind [Hid.out,ax]
   have d:Lk (¬(x.h.toNat=t/\x.x.toNat<=s)->∀x∈l.take (i+1),¬(x.h.toNat=t/\x.x.toNat<=s)):=ae (λh=>by have:=z.out;rw[take_one f];grind);have q:=ae b;by_cases e:x.h.toNat=t
   .have E:((x.h.toNat:Int) == t)=true:=M2;by_cases m:x.x.toNat<=s
    .as_aux_lemma=>
     have z2:decide (x.x.toNat<=s)=true:=M2;have c:Lk (R=Jd):=ae Xy;clear f e m b hi;go_wp2;go_ret2;exact⟨by rw[c.out];rfl,k.out⟩
    .as_aux_lemma=>
     have z2:decide (x.x.toNat<=s)=false:=M2;have c:=ae (d.out (λh=>m h.2));clear f e m b hi;go_wp2;exact⟨⟨i+1,rfl,q.out,c,trivial⟩,by grind [Lo]⟩
   .as_aux_lemma=>
    have E:((x.h.toNat:Int) == t)=false:=M2;have c:=ae (d.out (λh=>e h.1));clear f e b hi;go_wp2;exact⟨⟨i+1,rfl,q.out,c,trivial⟩,by grind [Lo]⟩
  .have c:Lk (R=F):=ae (by
    have B:=z.out;rw[ey Xy]at B;rw[G.out];cases F
    .grind
    simp)
   have r:=ae (g.out _ k.out);go_wp2_with fail;go_call r.out as e w3⟨rfl,hb3⟩;have C:=ae (k.out.trans (hb3.mono k.out.size));clear hb3 r;go_wp2;go_ret2;exact⟨by rw[c.out];rfl,C.out⟩
end
theorem pC{l:List α}{f:α->List β}{m:Nat}(h:∀x∈l,(f x).length<=m):(l.flatMap f).length<=l.length*m:=by
 induction l with
 |nil=>simp
 |cons a l c=>have:=h a ai;have:=c λx b=>h x (by simp[b]);rw[List.flatMap_cons,eh,it,Nat.add_mul];omega
theorem Vm(E:Nat->List aJ)(c:List Nat)(v:UInt32)(a b:aJ):ky E (λx=>decide (x∈c)) v a b=if a.t.toNat=b.h.toNat\/decide (a.t.toNat∈v.toNat::c)=Jd\/decide (b.h.toNat∈v.toNat::c)=Jd\/¬a.x.toNat+b.x.toNat<9223372036854775808\/OA E (λx=>decide (x∈v.toNat::c)) a.t.toNat b.h.toNat (a.x.toNat+b.x.toNat)=Jd then KK else IT ⟨a.t,b.h,nM (a.x.toNat+b.x.toNat),v⟩:=by
 have e:(λx=>x == v.toNat || decide (x∈c))=λx=>decide (x∈v.toNat::c):=by
  funext x
  by_cases h:x=v.toNat<;>simp[h]
 unfold ky OA;have d:∀x,(x == v.toNat || decide (x∈c))=decide (x∈v.toNat::c):=λx=>congrFun e x;simp only[d,decide_eq_true_eq (p:=_\/_)]
section
variable {w W B:KX}{nb:Nat}{es:List aJ}{sh:List Nat}{ov:J3}{l:List aJ}
def KT(a W:KX)(b:J3)(l:List aJ):Prop:=aG W a.heap.size b l/\Lg a a W
theorem KT.below(h:KT B W ov l)(a:Lg W W w'):KT B w' ov l:=⟨aB h.1 a,h.2.trans (a.mono h.2.size)⟩
theorem Fv(h:kP w nb es sh)(hl:sh.length<=900)(v:UInt32)(sU:(eJ Jd v.toNat es).length*(eJ J0 v.toNat es).length<=100000):K1 prog 52 #[ptrTo nb,Kx Mo (v.toNat:Int)] w (xg w (ju (λu=>eJ J0 u es) (λu=>decide (u∈sh)) (eJ Jd v.toNat es) v)):=by
 have U:=ae (Oz h hl v.toNat);obtain⟨d,TM⟩:=ac (eJ Jd v.toNat es);obtain⟨c,SY⟩:=ac (eJ J0 v.toNat es);obtain⟨C,hC⟩:∃C,C=ky (λu=>eJ J0 u es) (λu=>decide (u∈sh)) v:=⟨_,rfl⟩;obtain⟨j,O⟩:=ac (v.toNat::sh);obtain⟨F,hF⟩:∃F,F=OA (λu=>eJ J0 u es) (λx=>decide (x∈j)):=⟨_,rfl⟩;have HC:Lk (∀a b,C a b=if a.t.toNat=b.h.toNat\/decide (a.t.toNat∈j)=Jd\/decide (b.h.toNat∈j)=Jd\/¬a.x.toNat+b.x.toNat<9223372036854775808\/F a.t.toNat b.h.toNat (a.x.toNat+b.x.toNat)=Jd then KK else IT ⟨a.t,b.h,nM (a.x.toNat+b.x.toNat),v⟩):=ae (λa b=>by rw[hC,hF,O];exact Vm _ _ _ _ _);have Mh:Lk (ju (λu=>eJ J0 u es) (λu=>decide (u∈sh)) (eJ Jd v.toNat es) v=d.flatMap λa=>c.filterMap (C a)):=ae (by rw[hC,TM,SY];rfl);have G:Lk (∀W n,kP W n es j->K1 prog 98 #[ptrTo n,Kx Mo (v.toNat:Int)] W (xg W d)/\K1 prog 99 #[ptrTo n,Kx Mo (v.toNat:Int)] W (xg W c)/\(∀x:Nat,K1 prog 100 #[ptrTo n,Kx Mo (x:Int)] W λe w'=>e=Mk (.bool (decide (x∈j)))/\w'=W)/\∀(u t s:Nat),u<4294967296->K1 prog 102 #[ptrTo n,Kx Mo u,Kx Mo t,Kx MJ s] W λe w'=>e=Mk (Ly #[.bool (F u t s),Kx Mm 0])/\Lg W W w'):=ae (λW n hn=>by rw[TM,SY,hF];exact⟨I1 hn _,s7 hn _,λx=>I0 hn x,λu t s hu=>KS hn u t s hu⟩)
 have Q:Lk (d.length<=1000/\c.length<=1000/\d.length*c.length<=100000):=ae (by rw[TM,SY];exact⟨cp (kq _ _) h.l1,cp (kq _ _) h.l1,sU⟩)
 rw[Mh.out];rw[<- O]at U;unfold ptrTo at *;clear h hl sU TM SY hC O hF Mh;go_enter func52,ntmps52;go_wp2_with fail;go_call U.out as e w1⟨n1,rfl,tQ,hb1⟩;have Cm:=ae tQ;have cD:=ae hb1;have kh:=ae (G.out w1 n1 tQ).1;clear tQ hb1 U;unfold ptrTo at *;go_wp2_with fail;go_call kh.out as e w3⟨iv,rfl,hi3,hb3⟩;obtain⟨ia,ik,rfl⟩:=aw hi3;have R:=ae (Cm.out.below hb3);have gU:=ae (cD.out.trans (hb3.mono cD.out.size));have ZZ:=ae (fG hi3);have dq:=ae (G.out w3 n1 R.out).2.1;clear hi3 hb3 kh Cm cD;obtain⟨K,hK⟩:=ac d.length;rw[<- hK]at ZZ ⊢;have HK:Lk (K=d.length/\K<=1000):=ae ⟨hK,by rw[hK];exact Q.out.1⟩;clear hK;unfold ptrTo at *;go_wp2_with fail;go_call dq.out as e B⟨uv,rfl,T7,hb2⟩;obtain⟨ua,uk,rfl⟩:=aw T7;have FR:=ae (R.out.below hb2);have cA:=ae (gU.out.trans (hb2.mono gU.out.size));have en:=ae (eL (ZZ.out.below hb2)).2;have ff:=ae (eL (fG T7)).2;clear T7 hb2 dq R gU ZZ;obtain⟨J,hJ⟩:=ac c.length;rw[<- hJ];have HJ:Lk (J=c.length/\J<=1000):=ae ⟨hJ,by rw[hJ];exact Q.out.2.1⟩;clear hJ;have dl:Lk (∀(i k:Nat)a,i<K->k<=J->((d.take i).flatMap (λa=>c.filterMap (C a))++(c.take k).filterMap (C a)).length<=100000):=ae (λi k a hi hk=>by have H:=pC (l:=d.take i) (f:=λa=>c.filterMap (C a)) (m:=J) (λx _=>by rw[HJ.out.1];exact kt _ _);have h2:=kt (C a) (c.take k);have h3:=Q.out.2.2;rw[<- HK.out.1,<- HJ.out.1]at h3;rw[et]at H h2;have h4:=IR J (show min i d.length+1<=K by omega);rw[Nat.add_mul]at h4;rw[eh];omega)
 go_wp2_with fail;go_loopw [10,11] (λov iv W=>∃i:Nat,iv=i/\i<=K/\Lk (KT B W ov ((d.take i).flatMap λa=>c.filterMap (C a)))) (λ_ iv _=>K-(Lo iv).toNat)
 case atStart=>exact⟨0,rfl,em _,ae ⟨gp _ _ _ _,kp _ _⟩⟩
 case round=>
  generalize u10=ov at *;generalize wr=W1 at *;obtain⟨i,rfl,hi,HX⟩:=hrel;by_cases E:i<K
  .have el:(i:Int)<K:=af;have wi:cf Mm ((i:Int)+1)=(i+1:Nat):=by have:=HK.out;rw[ax]<;>omega
   obtain⟨a,ha⟩:∃a,d[i]? = IT a:=⟨_,bk (Nm HK.out)⟩;have co:Lk ((d.take (i+1)).flatMap (λa=>c.filterMap (C a))=(d.take i).flatMap (λa=>c.filterMap (C a))++c.filterMap (C a)):=ae (by rw[im ha,List.flatMap_append];simp);have rU:=ae E;have bd:=ae (λk hk=>dl.out i k a E hk);obtain⟨q,al⟩:∃p,p=(d.take i).flatMap λa=>c.filterMap (C a):=⟨_,rfl⟩;rw[<- al]at co HX bd;have eS:=ae (λW Z=>en.out W Z i a ha);clear ha al hi E;go_wp2_with fail;go_loopw [10,12] (λov kv W=>∃k:Nat,kv=k/\k<=J/\Lk (KT B W ov (q++(c.take k).filterMap (C a)))) (λ_ kv _=>J-(Lo kv).toNat)
   case atStart=>exact⟨0,rfl,em _,ae (by rw[j2,List.filterMap_nil,nw];exact HX.out)⟩
   case round=>
    generalize u10=P at *;generalize wr=M at *;obtain⟨k,rfl,hk,A⟩:=hrel;clear HX;by_cases L:k<J
    .have CX:(k:Int)<J:=af;have wk:cf Mm ((k:Int)+1)=(k+1:Nat):=by have:=HJ.out;rw[ax]<;>omega
     obtain⟨b,hb⟩:∃b,c[k]? = IT b:=⟨_,bk (Nm HJ.out)⟩;have gt:=ae (λW Z=>ff.out W Z k b hb);have V:Lk (q++(c.take (k+1)).filterMap (C a)=q++(c.take k).filterMap (C a)++(C a b).toList):=ae (by rw[im hb,List.filterMap_append,o0];cases e:C a b<;>simp[e])
     have X:Lk (∀W,C a b=KK->KT B W P (q++(c.take k).filterMap (C a))->KT B W P (q++(c.take (k+1)).filterMap (C a))):=ae (λW hc h=>by rw[V.out,hc];simpa using h);have z:=ae L;have de:=ae (bd.out k hk);have Y:=ae (HC.out a b);obtain⟨ab,ao,rfl,a0,a1,a2,a3⟩:=eS.out M A.out.2;obtain⟨bb,bo,rfl,b0,b1,b2,b3⟩:=gt.out M A.out.2;have Ur:Lk (∀W,Lg M M W->W.cell? ⟨ab,ao+i*4+2,KK⟩=a.x/\W.cell? ⟨bb,bo+k*4+2,KK⟩=b.x):=ae (λW Z=>⟨bq Z a2,bq Z b2⟩);obtain⟨ee,ci⟩:=ac (q++(c.take k).filterMap (C a));rw[<- ci]at A V X de;have z8:=ae (FR.out.below A.out.2);have VY:=ae (G.out M n1 z8.out).2.2.1;unfold ptrTo at *;clear hb hk L a2 a3 b2 b3 ci;by_cases S:a.t.toNat=b.h.toNat
     .as_aux_lemma=>
      have z1:((a.t.toNat:Int) == b.h.toNat)=true:=by simp[S]
      have o:=ae (X.out M (by rw[Y.out,if_pos (.inl S)]) A.out);clear S;go_wp2;exact⟨⟨k+1,rfl,z.out,o⟩,Xd z.out⟩
     have z1:((a.t.toNat:Int) == b.h.toNat)=false:=by simp;omega
     go_wp2_with fail;go_call(VY.out a.t.toNat) as e W6⟨rfl,rfl⟩;by_cases I:a.t.toNat∈j
     .as_aux_lemma=>have o:=ae (X.out W6 (by rw[Y.out,if_pos (.inr (.inl (decide_eq_true I)))]) A.out);rw[decide_eq_true I];clear S I;go_wp2;exact⟨⟨k+1,rfl,z.out,o⟩,Xd z.out⟩
     rw[decide_eq_false I];go_wp2_with fail;go_call(VY.out b.h.toNat) as e W7⟨rfl,rfl⟩;by_cases e3:b.h.toNat∈j
     .as_aux_lemma=>have o:=ae (X.out W7 (by rw[Y.out,if_pos (.inr (.inr (.inl (decide_eq_true e3))))]) A.out);rw[decide_eq_true e3];clear S I e3;go_wp2;exact⟨⟨k+1,rfl,z.out,o⟩,Xd z.out⟩
     rw[decide_eq_false e3];have kQ:=ae (λW=>I2 a.x.toNat b.x.toNat a.x.toNat_lt b.x.toNat_lt W);have pW:=ae (show _/\_/\_ from⟨S,I,e3⟩);clear S I e3 a0 a1 b0 b1 z1 VY;go_upto_region 18 with fail
     refine wq W7 ?_;iterate 4 (refine qz ?_)
     refine qz ?_ (λw' r=>by have k:=(Ur.out w' r).1;go_simp<;>rfl);iterate 4 (refine qz ?_)
     refine qz ?_ (λw' r=>by have k:=(Ur.out w' r).2;go_simp<;>rfl);refine qw (λw' r=>(kQ.out w').mono (λe gx h=>⟨h.1,r.trans (h.2.mono r.size)⟩)) ?_;iterate 5 (refine qz ?_)
     refine wpQuiet_nil ?_;intro W8 vF;have T:=ae (A.out.below vF);have ce:=ae (z8.out.below vF);clear vF kQ Ur A z8;by_cases N:a.x.toNat+b.x.toNat<9223372036854775808
     .have HS:Lk (Ox a.x.toNat b.x.toNat=a.x.toNat+b.x.toNat):=ae (if_pos N);rw[HS.out,decide_eq_true N];have zZ:=ae N;have F6:=ae ((G.out W8 n1 ce.out).2.2.2 a.t.toNat b.h.toNat (a.x.toNat+b.x.toNat) a.t.toNat_lt);have HU:Lk ((nM (a.x.toNat+b.x.toNat)).toNat=a.x.toNat+b.x.toNat):=ae (by rw[UInt64.toNat_ofNat'];omega);generalize nM (a.x.toNat+b.x.toNat)=sm at *;rw[<- HU.out]at zZ F6 ⊢;unfold ptrTo at *;clear N HS;go_wp2_with fail;go_call F6.out as e W9⟨rfl,J8⟩;have g:=ae (T.out.below J8);clear J8 F6 T ce;cases hf:F a.t.toNat b.h.toNat sm.toNat
      .have fI:Lk (C a b=IT ⟨a.t,b.h,sm,v⟩):=ae (by
        rw[Y.out,<- HU.out,if_neg];rintro(h | h | h | h | h)
        .exact pW.out.1 h
        .exact pW.out.2.1 (of_decide_eq_true h)
        .exact pW.out.2.2 (of_decide_eq_true h)
        .exact h zZ.out
        .rw[hf]at h;cases h)
       clear hf;obtain⟨va,vk,rfl⟩:=aw g.out.1;have am:=g.out.2.size;go_wp2_with (at_builtin;refine bR rfl _ _ rfl B.heap.size _ ee rfl g.out.1 ⟨a.t,b.h,sm,v⟩ 1 rfl de.out am ?_);intro fm VP aE du;have o:Lk (KT B VP fm (q++(c.take (k+1)).filterMap (C a))):=ae ⟨by rw[V.out,fI.out];exact aE,(bH (g.out.2.alloc g.out.2.size _) (λy hy=>aD g.out.1 y hy) du).1⟩;clear aE du am;go_wp2;exact⟨⟨k+1,rfl,z.out,o⟩,Xd z.out⟩
      .as_aux_lemma=>have o:=ae (X.out W9 (by rw[Y.out,<- HU.out,if_pos (.inr (.inr (.inr (.inr hf))))]) g.out);clear hf;go_wp2;exact⟨⟨k+1,rfl,z.out,o⟩,Xd z.out⟩
     .as_aux_lemma=>have o:=ae (X.out W8 (by rw[Y.out,if_pos (.inr (.inr (.inr (.inl N))))]) T.out);rw[decide_eq_false N];generalize Ox a.x.toNat b.x.toNat=D;clear N;go_wp2;exact⟨⟨k+1,rfl,z.out,o⟩,Xd z.out⟩
    .as_aux_lemma=>
     have CX:¬(k:Int)<J:=af;have o:Lk (KT B M P ((d.take (i+1)).flatMap λa=>c.filterMap (C a))):=ae (by have H:=A.out;rw[ey (Nm HJ.out)]at H;rw[co.out];exact H)
     clear hk L A;go_wp2;exact⟨⟨i+1,rfl,rU.out,o⟩,Xd rU.out⟩
  .as_aux_lemma=>
   have el:¬(i:Int)<K:=af;have o:Lk (xg w (d.flatMap λa=>c.filterMap (C a)) (Mk (Ly #[ov,Kx Mm 0])) W1):=ae (by have H:=HX.out;rw[ey (Nm HK.out)]at H;exact⟨_,rfl,aQ H.1 cA.out.size,cA.out.trans (H.2.mono cA.out.size)⟩)
   clear hi E HX;go_wp2;go_ret2;exact o.out
def KU(es:List aJ)(v:UInt32):Value:=Ly #[(eJ Jd v.toNat es).length,(eJ J0 v.toNat es).length,(ju (λu=>eJ J0 u es) (λ_=>J0) (eJ Jd v.toNat es) v).length,Kx Mm 0]
theorem OB(h:kP w nb es sh)(v:UInt32)(H:(eJ Jd v.toNat es).length*(eJ J0 v.toNat es).length<=100000):K1 prog 94 #[ptrTo nb,Kx Mo (v.toNat:Int)] w λe w'=>e=Mk (KU es v)/\Lg w w w':=by
 obtain⟨⟨X,sv,s,A,O⟩,D,T⟩:=id h;obtain⟨I,K,rfl,-⟩:=id A;have M:=ae (show _/\_ from⟨A,D⟩);have F:Lk (∀W,Lg w w W->W.cell? nb=IT (.slice I es.length K)/\W.cell? ⟨nb,1,KK⟩=IT (.slice KK 0 0)):=ae (λW U=>by have J:=(U.block _ (bD s)).trans s;exact⟨by rw[au J];rfl,by rw[au J];rfl⟩)
 have y:Lk (∀W n,kP W n es []->K1 prog 52 #[ptrTo n,Kx Mo (v.toNat:Int)] W (xg W (ju (λu=>eJ J0 u es) (λ_=>J0) (eJ Jd v.toNat es) v))/\K1 prog 98 #[ptrTo n,Kx Mo (v.toNat:Int)] W (xg W (eJ Jd v.toNat es))/\K1 prog 99 #[ptrTo n,Kx Mo (v.toNat:Int)] W (xg W (eJ J0 v.toNat es))):=ae (λW n z=>by
  have:=Fv z ai v H;have e:(λu:Nat=>decide (u∈([]:List Nat)))=λ_=>false:=by funext u;simp
  rw[e]at this;exact⟨this,I1 z _,s7 z _⟩)
 unfold KU;generalize ju (λu=>eJ J0 u es) (λ_=>J0) (eJ Jd v.toNat es) v=o at *;generalize eJ Jd v.toNat es=m at *;generalize eJ J0 v.toNat es=c at *;obtain⟨B,t⟩:∃P,P=λ(e:Lp)(w':KX)=>e=Mk (Ly #[m.length,c.length,Kx Mm (o.length:Int),Kx Mm 0])/\Lg w w w':=⟨_,rfl⟩;have Q:=ae t;rw[<- t];unfold ptrTo at *;clear h s A O D T H t;generalize G:es.length=E at *;have C:=ae G;clear G;go_enter func94,ntmps94;go_upto_region 1 with fail
 refine cm (Lg w w) 9 ah ah aq.drew ?_;simp only[ii,j2,ot,qd];iterate 3 (refine qz ?_)
 refine qz ?_ (λw' d=>by have k:=(F.out w' d).1;go_simp<;>rfl);iterate 3 (refine qz ?_)
 refine qz ?_ (λw' d=>by have k:=(F.out w' d).2;go_simp<;>rfl);refine qz ?_;refine wpQuiet_nil ?_;intro p a;obtain⟨q,b⟩:=ac (p.alloc (Mi #[.slice I E K,.slice KK 0 0,.slice KK 0 0] 124));obtain⟨f,x⟩:=ac p.heap.size;have j:Lk (Lg w w q/\kP q f es []):=ae (by
  have L:Lg p p q:=by rw[b];exact aq.alloc (cg _) _
  refine⟨a.trans (L.mono a.size),⟨⟨_,_,by rw[b,x];exact Lw _ _,(M.out.1.below a).below L,gp _ _ _ _⟩,No M.out.2 C.out,ai⟩⟩)
 clear a;go_upto_region 2 with fail
 rw[<- b,<- x];have g:=ae (y.out q f j.out.2).1;clear b x;unfold ptrTo at *;go_wp2_with fail;go_call g.out as e w3⟨cv,rfl,hc3,hb3⟩;obtain⟨Y,ck,rfl⟩:=aw hc3;have i:Lk (Lg w w w3/\kP w3 f es []):=ae ⟨j.out.1.trans (hb3.mono j.out.1.size),j.out.2.below hb3⟩;have N:=ae (y.out w3 f i.out.2).2.1;clear hc3 hb3 g j;unfold ptrTo at *;go_wp2_with fail;go_call N.out as e w4⟨iv,rfl,je,hb4⟩;obtain⟨ia,ik,rfl⟩:=aw je;have r:Lk (Lg w w w4/\kP w4 f es []):=ae ⟨i.out.1.trans (hb4.mono i.out.1.size),i.out.2.below hb4⟩;have l:=ae (y.out w4 f r.out.2).2.2;clear je hb4 N i;unfold ptrTo at *;go_wp2_with fail;go_call l.out as e w5⟨uv,rfl,BI,kR⟩;obtain⟨V,Z,rfl⟩:=aw BI;have S:Lk (Lg w w w5):=ae (r.out.1.trans (kR.mono r.out.1.size));have R:Lk (B (Mk (Ly #[m.length,c.length,Kx Mm (o.length:Int),Kx Mm 0])) w5):=ae (by rw[Q.out];exact⟨rfl,S.out⟩);clear BI kR l r;go_wp2;go_returns;exact R.out
end
theorem Rx(x:Int)(w:KX):K1 prog 163 #[Kx Mm x] w λe w'=>e=Mk (Kx Mm (nK 0 x 1073741824))/\w'=w:=by
 unfold nK;by_cases a:x<0
 .go_enter func163,ntmps163;go_wp2;go_ret;exact⟨se af,rfl⟩
 .by_cases b:1073741824<x
  .go_enter func163,ntmps163;go_wp2;go_ret;exact⟨se af,rfl⟩
  .go_enter func163,ntmps163;go_wp2;go_ret;exact⟨se af,rfl⟩
theorem Ry(i o s r l g:Int)(w:KX)(f:0<=l)(a:l<=4294967295)(d:0<=g)(b:g<=4294967295):K1 prog 95 #[Kx Mm i,Kx Mm o,Kx Mm s,LV #[Kx Mo r,Kx Mo l,Kx Mo g]] w
  λe w'=>e=Mk (Kx MJ (Qr i o s l g))/\Lg w w w':=by
 obtain⟨i0,c⟩:=rO i;obtain⟨k,j⟩:=rO o;obtain⟨h,s1⟩:=rO s;go_enter func95,ntmps95;go_wp2;go_quiet ((go_at_call 163;exact Calls.quiet_of_same (Rx _ _)))
 go_wp2;all_goals
  go_ret;refine⟨?_,?_⟩
  .exact se (by grind [Qr])
  .exact below_drewN aj _
section
variable {w W:KX}{base:Nat}{lv:J3}{cs:List gQ}{l:List Nat}
theorem Fw(p:gQ)(h:aT w 0 (pA p) p.1.n)(q:p.1.n.length<=10000)(v:Nat):K1 prog 165 #[kM p,Kx Mo v] w λe w'=>e=Mk (.bool (decide (v∈p.1.n)))/\Lg w w w':=by
 obtain⟨⟨pv,c,l⟩,a,k⟩:=p;simp only at h q;unfold kM;simp only;obtain⟨N,j⟩:=ac l.length;have r:=ae (mB h).2;have y:Lk (N=l.length/\N<=10000):=ae ⟨j,af⟩;rw[<- j];have d:Lk (Lg w w (w.alloc (Mi #[Kx Mo pv,Kx MJ c,.slice a N k] 143))/\(w.alloc (Mi #[Kx Mo pv,Kx MJ c,.slice a N k] 143)).heap[w.heap.size]? = IT (Mi #[Kx Mo pv,Kx MJ c,.slice a N k] 143)):=ae ⟨aq.alloc (cg _) _,Lw _ _⟩;clear h q j;go_enter func165,ntmps165;go_wp2_with fail;generalize w.alloc (Mi #[Kx Mo pv,Kx MJ c,.slice a N k] 143)=n at *;have t:n.cell? ⟨w.heap.size,2,KK⟩=IT (.slice a N k):=by rw[au d.out.2];rfl
 obtain⟨bb,o⟩:=ac w.heap.size;rw[<- o]at t ⊢;clear o;go_loopw [5] (λf W=>∃i:Nat,f=i/\i<=N/\Lk (v ∉ l.take i)/\W=n) (λf _=>N-(Lo f).toNat)
 case atStart=>grind [ae]
 case round=>
  obtain⟨i,rfl,hi,s,rfl⟩:=hrel;by_cases u:i<N
  .obtain⟨x,b⟩:∃x,l[i]? = IT x:=⟨_,bk Xy⟩;obtain⟨g,rfl,C⟩:=r.out _ d.out.1 i x b;have A:cf Mm ((i:Int)+1)=(i+1:Nat):=by grind [Hid.out,ax]
   by_cases e:x=v
   .subst e;have m:Lk (decide (x∈l)=Jd):=ae (decide_eq_true (cx b));clear b;go_wp2;go_ret;exact⟨by rw[m.out];rfl,d.out.1⟩
   .have z:Lk (v ∉ l.take (i+1)):=ae (by have:=s.out;rw[take_one b];grind);have B:((x:Int) == v)=false:=M2;clear b e;go_wp2;grind [Lo]
  .have m:Lk (decide (v∈l)=J0):=ae (decide_eq_false Xy);go_wp2;go_ret;exact⟨by rw[m.out];rfl,d.out.1⟩
theorem OC(p q:gQ)(w:KX):K1 prog 166 #[kM p,kM q] w λe w'=>e=Mk (.bool (decide (dh p.1 q.1)))/\Lg w w w':=by
 obtain⟨⟨pv,a,k⟩,pa,v⟩:=p;obtain⟨⟨f,b,n⟩,y,x⟩:=q;obtain⟨r,d⟩:∃r:Bool,r=decide (dh ⟨pv,a,k⟩ ⟨f,b,n⟩):=⟨_,rfl⟩;unfold kM;simp only;rw[<- d];generalize k.length=u at *;generalize n.length=t at *;have h:∀(l m:Obj),Lg w w ((w.alloc l).alloc m):=λl m=>aj.alloc ai _;by_cases g:a<b
 .have c:Lk (r=Jd):=ae (by rw[d];exact decide_eq_true (.inl g));have o:decide (a<b)=true:=M2;clear d g;go_enter func166,ntmps166;go_wp2;go_ret;exact⟨by rw[c.out];rfl,h _ _⟩
 .have o:decide (a<b)=false:=M2;by_cases j:a=b
  .have z2:((a:Int) == b)=true:=M2;obtain⟨s,i⟩:∃s:Bool,s=decide (pv<f):=⟨_,rfl⟩;have c:Lk (r=s):=ae (by grind [dh]);clear d g j;cases s
   .have z3:decide (pv<f)=false:=i.symm;clear i;go_enter func166,ntmps166;go_wp2;go_ret;exact⟨by rw[c.out];rfl,h _ _⟩
   .have z3:decide (pv<f)=true:=i.symm;clear i;go_enter func166,ntmps166;go_wp2;go_ret;exact⟨by rw[c.out];rfl,h _ _⟩
  .have z2:((a:Int) == b)=false:=M2;have c:Lk (r=J0):=ae (by grind [dh]);clear d g j;go_enter func166,ntmps166;go_wp2;go_ret;exact⟨by rw[c.out];rfl,h _ _⟩
def Z1(base:Nat)(l:List Nat)(lv:J3)(w:KX)(e:Lp)(w':KX):Prop:=∃v,e=Mk v/\aT w' base v l/\Lg base w w'/\w.grownBy w' lv.ownBlock
theorem Rz(h:aT w base lv l)(f:base<=w.heap.size)(s:l.length<=1000)(v:Nat)(o:∀x∈l,x<v):K1 prog 167 #[lv,Kx Mo v] w (Z1 base (l++[v]) lv w):=by
 obtain⟨a,k,rfl⟩:=aw h;have H:=ae (show _/\_/\_/\_ from⟨h,f,s,o⟩);obtain⟨N,n⟩:=ac l.length;have m:=H.out.1;rw[<- n]at m ⊢;have A:Lk (N=l.length/\l.length<=100000):=ae ⟨n,af⟩;clear h f s o n;go_enter func167,ntmps167;go_wp2_with (at_builtin;refine fg rfl _ _ rfl base _ l rfl m v 1 rfl A.out.2 H.out.2.1 ?_);intro v2 B c j;have p:Lk (Z1 base (l++[v]) (.slice a N k) w (Mk v2) B):=ae (by obtain⟨i,o⟩:=j;have d:w.grownBy B (fz a N k).ownBlock:=⟨i.os,i.tape,i.output,cp ai i.size,λb f r=>(i.block b (by simp;omega) r).trans ((MapKept.heap_alloc _ _).2 b f)⟩;exact⟨_,rfl,c,⟨d.os,d.tape,d.output,d.size,λb f=>d.block b (eg f H.out.2.1) (λe=>Nm ((aA m b e.symm).2))⟩,d⟩)
 obtain⟨a2,L,rfl⟩:=aw c;have y:=ae c;have u:Lk ((l++[v]).length=N+1):=ae (by simp[A.out.1]);rw[u.out]at p y ⊢;have K:MY (N:Int)=N:=by grind [Hid.out,MY]
 clear c j m;go_wp2_with fail;go_loopw [5] (λD W=>D=(N:Nat)/\Lk (B=W)) (λ_ _=>0)
 case atStart=>grind [ae]
 case round=>
  obtain⟨rfl,F⟩:=hrel;obtain rfl:=F.out;by_cases t:N=0
  .have E:decide (0<N)=false:=M2;clear t;go_wp2;go_ret;exact p.out
  .obtain⟨P,C⟩:∃P,N=P+1:=⟨N-1,af⟩;have E:decide (0<N)=true:=M2;obtain⟨x,z⟩:∃x,l[P]? = IT x:=⟨_,bk Xy⟩;have q:=H.out.2.2.2 x (cx z);have J:cf Mm ((N:Int)-1)=P:=by grind [Hid.out,ax]
   have G:(P:Int)<((N+1:Nat):Int):=af;obtain⟨g,rfl,I⟩:=(mB (aQ (by have:=y.out;rw[<- u.out]at this;exact this) (em _))).2 B aq P x M2;have z2:decide (v<x)=false:=M2;clear t z q C;go_wp2;go_ret;exact p.out
def Z2(w:KX)(a:List gQ)(e:Lp)(w':KX):Prop:=∃v,e=Mk v/\eA w' w.heap.size v a/\Lg w w w'
theorem uM{a:Option Addr}{n k:Nat}(h:eA w base (.slice a n k) cs):n=cs.length/\∀W,Lg w w W->∀(i:Nat)(p:gQ),cs[i]? = IT p->∃g,a=IT ⟨g,0,KK⟩/\W.cell? ⟨g,i*3,KK⟩=IT (Kx Mo p.1.v)/\W.cell? ⟨g,i*3+1,KK⟩=IT (Kx MJ p.1.k)/\W.cell? ⟨g,i*3+2,KK⟩=IT (pA p):=by
 have d:n=cs.length:=by grind [aw]
 subst d;refine⟨rfl,λW e i p j=>?_⟩;have c:=aB h e;obtain⟨-,⟨b,f⟩|⟨g,_,_,b,_⟩⟩:=id c
 .grind
 grind [Ce]
theorem RA(h:qU w base lv cs):K1 prog 164 #[lv] w (Z2 w cs):=by
 obtain⟨a,k,rfl⟩:=aw h.row;have H:=ae h;have Q:=ae (uM h.row).2;obtain⟨N,u⟩:=ac cs.length;have J:Lk (N=cs.length/\N<=24):=ae ⟨u,Nm h.len⟩;rw[<- u];clear h u;go_enter func164,ntmps164;go_wp2_with fail;go_loopw [3,4] (λov A W=>∃i:Nat,A=i/\i<=N/\Lk (eA W w.heap.size ov (cs.take i)/\Lg w w W)) (λ_ A _=>N-(Lo A).toNat)
 case atStart=>exact⟨0,rfl,em _,ae ⟨gp _ _ _ _,kp _ _⟩⟩
 case round=>
  generalize u3=ov at *;generalize wr=L at *;obtain⟨i,rfl,hi,f⟩:=hrel;by_cases d:i<N
  .have T:(i:Int)<N:=af;have wi:cf Mm ((i:Int)+1)=(i+1:Nat):=by grind [Hid.out,ax]
   obtain⟨p,s⟩:∃p,cs[i]? = IT p:=⟨_,bk Xy⟩;have E:=ae (λW P=>Q.out W P i p s);have G:Lk (cs.take (i+1)=cs.take i++[p]):=ae (take_one s);have c:Lk ((cs.take i).length=i):=ae M2;have X:Lk (∀(j:Nat)(q:gQ),j<i->cs[j]? = IT q->q.1.v≠p.1.v):=ae (λj q m t e=>by obtain⟨h1,rfl⟩:=e7.1 t;obtain⟨h2,rfl⟩:=e7.1 s;have:=qa.1 H.out.il j i M2 M2 m;grind)
   have R:=ae d;have o:Lk (∀j,j<i->∃q,cs[j]? = IT q/\(cs.take i)[j]? = IT q):=ae (λj m=>⟨_,bk M2,M2⟩);obtain⟨Y,ok,rfl⟩:=aw f.out.1;obtain⟨C,F⟩:=ac (cs.take i);rw[<- F]at f G c o ⊢;rw[c.out];clear s d hi F;go_wp2_with fail;go_loopw [5,6] (λtv v W=>∃j:Nat,tv=.bool J0/\v=j/\j<=i/\Lk (eA W w.heap.size (.slice Y i ok) C/\Lg w w W)) (λ_ v _=>i-(Lo v).toNat)
   case atStart=>exact⟨0,rfl,rfl,em _,by have:=f;rw[c.out]at this;omega⟩
   case round=>
    generalize wr=r at *;obtain⟨j,rfl,rfl,m,b⟩:=hrel;by_cases l:j<i
    .as_aux_lemma=>
     have CV:(j:Int)<i:=af;have wj:cf Mm ((j:Int)+1)=(j+1:Nat):=by have:=J.out;rw[ax]<;>omega
     obtain⟨q,t,n⟩:=o.out j l;have B:=X.out j q l t;have z1:((q.1.v:Int) == p.1.v)=false:=by simp;omega
     obtain⟨g,e,k0,-,-⟩:=(uM b.out.1).2 r aq j q n;cases e;obtain⟨S,rfl,x,-,-⟩:=E.out r b.out.2;have Iq:=ae l;clear t n B l m f;go_wp2_with fail;go_quiet (fail)
     go_wp2;exact⟨⟨j+1,rfl,rfl,Iq.out,ae ⟨aB b.out.1 (below_drewN aq _),below_drewN b.out.2 _⟩⟩,Xg⟩
    .have CV:¬(j:Int)<i:=af;obtain⟨S,rfl,x,p1,p2⟩:=E.out r b.out.2;obtain⟨⟨pv,O,Z⟩,pa,V⟩:=p;unfold pA at p2;simp only at x p1 p2;have M:Lk (C.length<=100000/\w.heap.size<=r.heap.size):=ae ⟨by rw[c.out];have:=J.out;omega,b.out.2.size⟩;clear l m f;go_wp2_with (at_builtin;refine kB rfl _ _ rfl w.heap.size _ C rfl b.out.1 (⟨pv,O,Z⟩,(pa,V)) 1 (by rfl) M.out.1 M.out.2 ?_);intro v3 I D K;have z:Lk (eA I w.heap.size v3 (cs.take (i+1))/\Lg w w I):=ae ⟨by rw[G.out];omega,(bH (b.out.2.alloc b.out.2.size _) (λy U=>aD b.out.1 y U) K).1⟩;clear D K x p1 p2;go_wp2;exact⟨⟨i+1,rfl,R.out,z⟩,Xg⟩
  .have T:¬(i:Int)<N:=af;have z:Lk (eA L w.heap.size ov cs/\Lg w w L):=ae Xy
   clear d hi f;go_wp2;go_ret;exact⟨_,rfl,z.out⟩
end
def gM(p:sO)(l:List gQ):Prop:=∀q∈l,q.1.v≠p.v->(q.1.v∈p.n\/p.v∈q.1.n)->dh p q.1
instance(p:sO)(l:List gQ):Decidable (gM p l):=by unfold gM;infer_instance
def yu(a l:List gQ):List Nat:=(l.filter λp=>decide (gM p.1 a)).map (·.1.v)
section
variable {w W:KX}{base:Nat}{lv:J3}{cs:List gQ}
theorem ahm(h:qU w base lv cs):yu cs cs=jc (cs.map (·.1)):=by
 rw[<- Rq (λa i b j e=>by obtain⟨x,f,rfl⟩:=gl.1 i;obtain⟨y,k,rfl⟩:=gl.1 j;rw[Fb h f k e])]
 unfold yu;rw[List.filter_map,List.map_map];congr 1;apply List.filter_congr;intro p _;show decide _=decide _;rw[decide_eq_decide];exact⟨λh c g=>by obtain⟨q,d,rfl⟩:=gl.1 g;exact h q d,λh q d=>h q.1 (gl.2 ⟨q,d,rfl⟩)⟩
theorem KV{p:sO}{j:Nat}{q:gQ}(h:cs[j]? = IT q):decide (gM p (cs.take (j+1)))=(decide (gM p (cs.take j)) && !decide (q.1.v≠p.v/\(q.1.v∈p.n\/p.v∈q.1.n)/\¬dh p q.1)):=by
 have e:gM p (cs.take (j+1))↔gM p (cs.take j)/\(q.1.v≠p.v->(q.1.v∈p.n\/p.v∈q.1.n)->dh p q.1):=by
  rw[take_one h];constructor
  .exact λh=>⟨λx d=>h x (by simp[d]),h q ai⟩
  .rintro⟨g,f⟩x d;rcases hS.1 d with d | d
   .exact g x d
   .rw[kj.1 d];exact f
 rw[Bool.eq_iff_iff,Bool.and_eq_true,Bool.not_eq_true',decide_eq_true_eq,decide_eq_true_eq,decide_eq_false_iff_not,e];refine⟨λ⟨g,f⟩=>⟨g,λ⟨a,b,c⟩=>c (f a b)⟩,λ⟨g,f⟩=>⟨g,λa b=>Classical.byContradiction λc=>f ⟨a,b,c⟩⟩⟩
def OD(w W:KX)(b a:J3)(c:List gQ)(l:List Nat):Prop:=aT W w.heap.size a l/\eA W w.heap.size b c/\Lg w w W
theorem OD.below{c b:J3}{l:List Nat}(h:OD w W c b cs l)(a:Lg W W w'):OD w w' c b cs l:=⟨aB h.1 a,aB h.2.1 a,h.2.2.trans (a.mono h.2.2.size)⟩
theorem RB(h:qU w base lv cs)(X:∀p∈cs,p.1.n.length<=10000):K1 prog 96 #[lv] w λe w'=>∃v,e=Mk v/\aT w' w.heap.size v (jc (cs.map (·.1)))/\Lg w w w':=by
 have vQ:=ae (RA h);obtain⟨a,k,rfl⟩:=aw h.row;have H:=ae h;have P:=ae X;have al:=ae (ahm h);obtain⟨N,hN⟩:=ac cs.length;have r:Lk (N=cs.length/\N<=24):=ae ⟨hN,Nm h.len⟩;rw[<- hN]at vQ ⊢;rw[<- al.out];clear h X hN;go_enter func96,ntmps96;go_wp2_with fail;go_call vQ.out as e w1⟨av,rfl,hr1,hb1⟩;obtain⟨V,O,rfl⟩:=aw hr1;have lu:Lk (OD w w1 (.slice V cs.length O) (.slice KK 0 0) cs (yu cs (cs.take 0))):=ae ⟨gp _ _ _ _,hr1,hb1⟩;rw[<- r.out.1]at lu ⊢;clear hr1 hb1 vQ;go_wp2_with fail;go_loopw [4,5] (λov iv W=>∃i:Nat,iv=i/\i<=N/\Lk (OD w W (.slice V N O) ov cs (yu cs (cs.take i)))) (λ_ iv _=>N-(Lo iv).toNat)
 case atStart=>exact⟨0,rfl,em _,lu⟩
 case round=>
  generalize u4=ov at *;generalize wr=W1 at *;obtain⟨i,rfl,hi,HX⟩:=hrel;clear lu;by_cases F:i<N
  .have qO:(i:Int)<N:=af;have wi:cf Mm ((i:Int)+1)=(i+1:Nat):=by have:=r.out;rw[ax]<;>omega
   obtain⟨p,hp⟩:∃p,cs[i]? = IT p:=⟨_,bk (Nm r.out)⟩;have K:=ae hp;have nT:Lk (yu cs (cs.take (i+1))=yu cs (cs.take i)++if gM p.1 cs then [p.1.v] else []):=ae (by unfold yu;rw[take_one hp,yk,k8];by_cases e:gM p.1 cs<;>simp[e])
   have R:=ae F;have PU:Lk ((yu cs (cs.take i)).length<=1000/\∀x∈yu cs (cs.take i),x<p.1.v):=ae (by
    unfold yu;refine⟨?_,λx hx=>?_⟩
    .rw[dj];refine cp (kq _ _) ?_;rw[et];have:=r.out;omega
    .obtain⟨q,s,rfl⟩:=gl.1 hx;obtain⟨j,z⟩:=hY.1 (sR.1 s).1;have tO:j<i:=by have:=aK z;rw[et]at this;omega
     rw[List.getElem?_take_of_lt tO]at z;obtain⟨h1,rfl⟩:=e7.1 z;obtain⟨h2,rfl⟩:=e7.1 hp;have:=qa.1 H.out.il j i (by simpa using h1) (by simpa using h2) tO;simpa using this)
   generalize yu cs (cs.take i)=pl at *;clear hp F hi;go_wp2_with fail;go_loopw [6,7] (λfv kv W=>∃k:Nat,fv=.bool (decide (gM p.1 (cs.take k)))/\kv=k/\k<=N/\Lk (OD w W (.slice V N O) ov cs pl)) (λ_ kv _=>N-(Lo kv).toNat)
   case atStart=>exact⟨0,by rw[decide_eq_true];simp[gM],rfl,em _,HX⟩
   case round=>
    generalize wr=f at *;obtain⟨j,rfl,rfl,z,l⟩:=hrel;clear HX;by_cases Ll:j<N
    .have CV:(j:Int)<N:=af;have wj:cf Mm ((j:Int)+1)=(j+1:Nat):=by have:=r.out;rw[ax]<;>omega
     obtain⟨q,s⟩:∃q,cs[j]? = IT q:=⟨_,bk (Nm r.out)⟩;obtain⟨B,hB⟩:∃B:Bool,B=decide (q.1.v≠p.1.v/\(q.1.v∈p.1.n\/p.1.v∈q.1.n)/\¬dh p.1 q.1):=⟨_,rfl⟩;have Q:=ae hB;have C:Lk (decide (gM p.1 (cs.take (j+1)))=(decide (gM p.1 (cs.take j)) && !B)):=ae (by rw[hB];exact KV s);obtain⟨FB,M⟩:=ac (decide (gM p.1 (cs.take j)));rw[<- M]at C ⊢;have fK:(i=j)↔q.1.v=p.1.v:=by
      constructor
      .rintro rfl;have:=K.out;rw[s]at this;cases this;rfl
      .intro e;have e2:=Fb H.out (cx s) (cx K.out) e;subst e2;have h1:(cs.map (·.1.v))[j]? = IT q.1.v:=by rw[j1,s];rfl
       have h2:(cs.map (·.1.v))[i]? = IT q.1.v:=by rw[j1,K.out];rfl
       exact(List.getElem?_inj (by have:=R.out;have:=r.out;simp;omega) (Fa H.out.il)).1 (h2.trans h1.symm)
     have HC:Lk (∀W,Lg f f W->∃g,V=IT ⟨g,0,KK⟩/\(W.cell? ⟨g,i*3,KK⟩=IT (Kx Mo p.1.v)/\W.cell? ⟨g,i*3+1,KK⟩=IT (Kx MJ p.1.k)/\W.cell? ⟨g,i*3+2,KK⟩=IT (pA p))/\W.cell? ⟨g,j*3,KK⟩=IT (Kx Mo q.1.v)/\W.cell? ⟨g,j*3+1,KK⟩=IT (Kx MJ q.1.k)/\W.cell? ⟨g,j*3+2,KK⟩=IT (pA q)):=ae (λW n=>by obtain⟨g,L,e2⟩:=(uM l.out.2.1).2 W n i p K.out;obtain⟨g',e3,e4⟩:=(uM l.out.2.1).2 W n j q s;cases L;cases e3;exact⟨g,rfl,e2,e4⟩)
     have I5:=cx K.out;have E:=cx s;have T:Lk (∀W,Lg f f W->K1 prog 165 #[kM p,Kx Mo (q.1.v:Int)] W λe w'=>e=Mk (.bool (decide (q.1.v∈p.1.n)))/\Lg f f w'):=ae (λW n=>(Fw p (aB (aB (H.out.jE p I5).1 l.out.2.2) n) (P.out p I5) q.1.v).mono λe w' h=>⟨h.1,n.trans (h.2.mono n.size)⟩);have U:Lk (∀W,Lg f f W->K1 prog 165 #[kM q,Kx Mo (p.1.v:Int)] W λe w'=>e=Mk (.bool (decide (p.1.v∈q.1.n)))/\Lg f f w'):=ae (λW n=>(Fw q (aB (aB (H.out.jE q E).1 l.out.2.2) n) (P.out q E) p.1.v).mono λe w' h=>⟨h.1,n.trans (h.2.mono n.size)⟩);have D:Lk (∀W,Lg f f W->K1 prog 166 #[kM p,kM q] W λe w'=>e=Mk (.bool (decide (dh p.1 q.1)))/\Lg f f w'):=ae (λW n=>(OC p q W).mono λe w' h=>⟨h.1,n.trans (h.2.mono n.size)⟩);obtain⟨g,rfl,-⟩:=HC.out f aq;have G:Lk (∀W,Lg f f W->(W.cell? ⟨g,i*3,KK⟩=IT (Kx Mo p.1.v)/\W.cell? ⟨g,i*3+1,KK⟩=IT (Kx MJ p.1.k)/\W.cell? ⟨g,i*3+2,KK⟩=IT (pA p))/\W.cell? ⟨g,j*3,KK⟩=IT (Kx Mo q.1.v)/\W.cell? ⟨g,j*3+1,KK⟩=IT (Kx MJ q.1.k)/\W.cell? ⟨g,j*3+2,KK⟩=IT (pA q)):=ae (λW n=>by obtain⟨g',e,h⟩:=HC.out W n;cases e;exact h)
     have Iq:=ae Ll;have p7:=ae fK;clear s hB M I5 E fK Ll z HC;unfold kM pA at *;go_upto_region 10 with fail
     go_cut [60] from 22 to 60 (λv W=>v=.bool B/\Lk (Lg f f W))
     case first=>
      by_cases L:i=j
      .as_aux_lemma=>
       have t:Lk (B=J0):=ae (by rw[Q.out];exact decide_eq_false (λh=>h.1 (p7.out.1 L)));have z1:((j:Int) != i)=false:=by simp;omega
       clear L;refine wq f ?_;iterate 4 (refine qz ?_)
       iterate 22 go_big_quiet_skip
       iterate 2 (refine qz ?_)
       iterate 10 go_big_quiet_skip
       refine qz ?_;refine wpQuiet_nil ?_;intro I d;have m:=ae d;clear d;go_wp2_with fail;go_meet
       exact⟨by rw[t.out],m⟩
      have z1:((j:Int) != i)=true:=by simp;omega
      have uh:Lk (q.1.v≠p.1.v):=ae (λe=>L (p7.out.2 e));clear L;have LD:=ae (λw' c=>(G.out w' c).1);have o:=ae (λw' c=>(G.out w' c).2);refine wq f ?_;iterate 7 (refine qz ?_)
      refine qz ?_ (λw' c=>by obtain⟨A,u,y⟩:=LD.out w' c;go_simp<;>rfl);iterate 4 (refine qz ?_)
      refine qz ?_ (λw' c=>by obtain⟨A,u,y⟩:=o.out w' c;go_simp<;>rfl);refine qw (λw' c=>T.out w' c) ?_;refine qz ?_;by_cases Z:q.1.v∈p.1.n
      .rw[decide_eq_true Z];iterate 10 go_big_quiet_skip
       iterate 6 (refine qz ?_)
       refine qz ?_ (λw' c=>by obtain⟨A,u,y⟩:=LD.out w' c;go_simp<;>rfl);iterate 3 (refine qz ?_)
       refine qz ?_ (λw' c=>by obtain⟨A,u,y⟩:=o.out w' c;go_simp<;>rfl);refine qw (λw' c=>D.out w' c) ?_;iterate 2 (refine qz ?_)
       refine wpQuiet_nil ?_;intro I d;have m:=ae d;have t:Lk (B=!decide (dh p.1 q.1)):=ae (by rw[Q.out];by_cases e:dh p.1 q.1<;>simp[e,Z,uh.out]);clear d;generalize decide (dh p.1 q.1)=AB at *;go_wp2_with fail;go_meet
       exact⟨by rw[t.out],m⟩
      .rw[decide_eq_false Z];iterate 3 (refine qz ?_)
       refine qz ?_ (λw' c=>by obtain⟨A,u,y⟩:=o.out w' c;go_simp<;>rfl);iterate 4 (refine qz ?_)
       refine qz ?_ (λw' c=>by obtain⟨A,u,y⟩:=LD.out w' c;go_simp<;>rfl);refine qw (λw' c=>U.out w' c) ?_;by_cases n2:p.1.v∈q.1.n
       .rw[decide_eq_true n2];iterate 6 (refine qz ?_)
        refine qz ?_ (λw' c=>by obtain⟨A,u,y⟩:=LD.out w' c;go_simp<;>rfl);iterate 3 (refine qz ?_)
        refine qz ?_ (λw' c=>by obtain⟨A,u,y⟩:=o.out w' c;go_simp<;>rfl);refine qw (λw' c=>D.out w' c) ?_;iterate 2 (refine qz ?_)
        refine wpQuiet_nil ?_;intro I d;have m:=ae d;have t:Lk (B=!decide (dh p.1 q.1)):=ae (by rw[Q.out];by_cases e:dh p.1 q.1<;>simp[e,n2,uh.out]);clear d;generalize decide (dh p.1 q.1)=AB at *;go_wp2_with fail;go_meet
        exact⟨by rw[t.out],m⟩
       .rw[decide_eq_false n2];have t:Lk (B=J0):=ae (by rw[Q.out];simp[Z,n2]);iterate 3 (refine qz ?_)
        iterate 10 go_big_quiet_skip
        refine qz ?_;refine wpQuiet_nil ?_;intro I d;have m:=ae d;clear d;go_wp2_with fail;go_meet
        exact⟨by rw[t.out],m⟩
     case rest=>
      obtain⟨rfl,HW⟩:=hcut;generalize wc=I at *;have Y:=ae (l.out.below HW.out);clear l HW G T U D p7 Q;cases B
      .as_aux_lemma=>have Lb:Lk (FB=decide (gM p.1 (cs.take (j+1)))):=ae (by rw[C.out];simp);go_wp2;exact⟨⟨j+1,by rw[Lb.out],rfl,Iq.out,Y⟩,Xd Iq.out⟩
      .as_aux_lemma=>have Lb:Lk (J0=decide (gM p.1 (cs.take (j+1)))):=ae (by rw[C.out];simp);go_wp2;exact⟨⟨j+1,by rw[<- Lb.out],rfl,Iq.out,Y⟩,Xd Iq.out⟩
    .have CV:¬(j:Int)<N:=af;have Xe:Lk (cs.take j=cs):=ae (ey (Nm r.out));rw[Xe.out];by_cases J:gM p.1 cs
     .rw[decide_eq_true J];have mE:Lk (yu cs (cs.take (i+1))=pl++[p.1.v]):=ae (by rw[nT.out,if_pos J]);have S:=ae (Rz l.out.1 l.out.2.2.size PU.out.1 p.1.v PU.out.2);obtain⟨g,rfl,c0,c1,c2⟩:=(uM l.out.2.1).2 f aq i p K.out;obtain⟨oa,ok,rfl⟩:=aw l.out.1;generalize pl.length=PL at *;clear J z Ll;go_wp2_with fail;go_call S.out as e I⟨v3,rfl,hr3,d,hg3⟩;have eM:Lk (OD w I (.slice (IT ⟨g,0,KK⟩) N O) v3 cs (yu cs (cs.take (i+1)))):=ae (by rw[mE.out];exact⟨hr3,bg l.out.2.1 λb hb=>hg3.block b (aA l.out.2.1 b hb).1 λe=>cr l.out.2.1 l.out.1 ag b hb e.symm,l.out.2.2.trans d⟩)
      clear hr3 d hg3 S c0 c1 c2;go_wp2;exact⟨⟨i+1,rfl,R.out,eM⟩,Xd R.out⟩
     .as_aux_lemma=>rw[decide_eq_false J];have mE:Lk (OD w f (.slice V N O) ov cs (yu cs (cs.take (i+1)))):=ae (by rw[nT.out,if_neg J,nw];exact l.out);clear J z Ll;go_wp2;exact⟨⟨i+1,rfl,R.out,mE⟩,Xd R.out⟩
  .have qO:¬(i:Int)<N:=af;have t:Lk (aT W1 w.heap.size ov (yu cs cs)/\Lg w w W1):=ae (by have:=HX.out;rw[ey (Nm r.out)]at this;exact⟨this.1,this.2.2⟩)
   clear F hi HX;go_wp2;go_ret;exact⟨_,rfl,t.out⟩
end
section
variable {w W:KX}{es:List aJ}{vs:List bZ}{l:List Nat}{gv hv lv:J3}
theorem Bu(h:aT w 0 lv l)(n:l.length<=10000)(v:Nat):K1 prog 49 #[lv,Kx Mo v] w λe w'=>e=Mk (.bool (decide (v∈l)))/\w'=w:=by
 obtain⟨a,k,rfl⟩:=aw h;obtain⟨N,d⟩:=ac l.length;have j:=ae (mB h).2;have q:Lk (N=l.length/\N<=10000):=ae ⟨d,af⟩;rw[<- d];clear h n d;go_enter func49,ntmps49;go_wp2_with fail;go_loopw [5] (λc W=>∃i:Nat,c=i/\i<=N/\Lk (v ∉ l.take i)/\W=w) (λc _=>N-(Lo c).toNat)
 case atStart=>grind [ae]
 case round=>
  obtain⟨i,rfl,hi,m,rfl⟩:=hrel;by_cases o:i<N
  .obtain⟨x,b⟩:∃x,l[i]? = IT x:=⟨_,bk Xy⟩;obtain⟨g,rfl,t⟩:=j.out _ aq i x b;have r:cf Mm ((i:Int)+1)=(i+1:Nat):=by grind [Hid.out,ax]
   by_cases e:x=v
   .subst e;have f:Lk (decide (x∈l)=Jd):=ae (decide_eq_true (cx b));clear b;go_wp2;go_ret;exact⟨by rw[f.out];rfl,rfl⟩
   .have p:Lk (v ∉ l.take (i+1)):=ae (by have:=m.out;rw[take_one b];grind);have s:((x:Int) == v)=false:=M2;clear b e;go_wp2;grind [Lo]
  .have f:Lk (decide (v∈l)=J0):=ae (decide_eq_false Xy);go_wp2;go_ret;exact⟨by rw[f.out];rfl,rfl⟩
def nrA(v:Nat)(a:List Nat)(x:aJ):List Nat:=if x.t.toNat=v/\x.h.toNat ∉ a then a++[x.h.toNat] else a
def nrB(v:Nat)(a:List Nat)(x:aJ):List Nat:=if x.h.toNat=v/\x.t.toNat ∉ a then a++[x.t.toNat] else a
theorem RD{v i:Nat}{x:aJ}(h:es[i]? = IT x):fC (es.take (i+1)) v=nrB v (nrA v (fC (es.take i) v) x) x:=by unfold fC;rw[im h,B1];rfl
theorem s8(v:Nat)(es:List aJ):(fC es v).length<=2*es.length:=by
 have:∀(es:List aJ)(a:List Nat),(es.foldl (λa x=>let b:=if x.t.toNat=v/\x.h.toNat ∉ a then a++[x.h.toNat] else a;if x.h.toNat=v/\x.t.toNat ∉ b then b++[x.t.toNat] else b) a).length<=a.length+2*es.length:=by
  intro es;induction es with
  |nil=>simp
  |cons x es c=>grind
 grind [fC]
def Z3(w W:KX)(a:Nat)(x:aJ)(lv:J3)(l:List Nat):Prop:=aT W w.heap.size lv l/\Lg w w W/\W.heap[a]? = IT (Mi #[x.t,x.h,x.x,x.m] 63)
theorem Z3.CG{a:Nat}{x:aJ}{y:Nat}{n:Obj}(h:Z3 w W a x lv l)(m:aT w' w.heap.size u (l++[y]))(j:gP lv (W.alloc n) w' u):Z3 w w' a x u (l++[y]):=by
 obtain⟨f,i,d⟩:=h;refine⟨m,(bH (i.alloc i.size _) (λz k=>aD f z k) j).1,?_⟩;have o:=bD d;rw[j.1.block a (by simp;omega) (λe=>?_),(MapKept.heap_alloc _ _).2 a o,d];obtain⟨_,⟨b,_⟩|⟨g,c,p,b,_,q,_⟩⟩:=f
 .rw[b]at e;cases e
 .rw[b]at e;cases e;grind
theorem Fx(Z:gR w gv es)(hl:es.length<=1000)(G:J3)(v:Nat):K1 prog 53 #[LV #[gv,G],Kx Mo v] w λe w'=>∃lv,e=Mk lv/\aT w' w.heap.size lv (fC es v)/\Lg w w w':=by
 obtain⟨I,K,rfl,-⟩:=id Z;obtain⟨E,hE⟩:=ac es.length;have HC:=ae (eL Z).2;have HE:Lk (E=es.length/\E<=1000):=ae ⟨hE,af⟩;have Lh:Lk (∀i,(fC (es.take i) v).length<=2000):=ae (λi=>cp (s8 v _) M2);rw[<- hE];have s:Lk (Lg w w (w.alloc (Mi #[.slice I E K,G] 39))/\(w.alloc (Mi #[.slice I E K,G] 39)).heap[w.heap.size]? = IT (Mi #[.slice I E K,G] 39)):=ae ⟨aq.alloc (cg _) _,Lw w _⟩;clear Z hl hE;go_enter func53,ntmps53;go_wp2_with fail;generalize w.alloc (Mi #[.slice I E K,G] 39)=a at *;have HK:Lk (∀W,Lg a a W->W.cell? w.heap.size=IT (.slice I E K)):=ae (λW hW=>by have M:=(hW.block _ (bD s.out.2)).trans s.out.2;rw[au M];rfl)
 obtain⟨bb,r9⟩:=ac w.heap.size;rw[<- r9]at HK ⊢;clear r9;go_loopw [5,6] (λlv iv W=>∃i:Nat,i<=E/\iv=i/\Lk (aT W a.heap.size lv (fC (es.take i) v)/\Lg a a W)) (λ_ iv _=>E-(Lo iv).toNat)
 case atStart=>exact⟨0,em _,rfl,ae ⟨gp _ _ _ _,kp _ _⟩⟩
 case round=>
  generalize u5=lv at *;generalize wr=C at *;obtain⟨i,hi,rfl,m⟩:=hrel;have c0:=HK.out C m.out.2;by_cases Q:i<E
  .have qO:(i:Int)<E:=af;obtain⟨x,M⟩:∃x,es[i]? = IT x:=⟨_,bk Xy⟩;have y:=ae (RD (v:=v) M);have l:=ae (Lh.out i);obtain⟨eb,eo,rfl,e0,g,e2,e3⟩:=HC.out C (s.out.1.trans (m.out.2.mono s.out.1.size)) i x M;have wi:cf Mm ((i:Int)+1)=(i+1:Nat):=by grind [Hid.out,ax]
   obtain⟨A,u⟩:=ac (C.alloc (Mi #[Kx Mo (x.t.toNat:Int),Kx Mo (x.h.toNat:Int),Kx MJ (x.x.toNat:Int),Kx Mo (x.m.toNat:Int)] 63));obtain⟨z,FW⟩:=ac C.heap.size;obtain⟨a0,O⟩:=ac (fC (es.take i) v);rw[<- O]at m y l;have n:Lk (Z3 a A z x lv a0):=ae (by rw[u,FW];exact⟨World.ownsRow.alloc m.out.1 _,m.out.2.alloc m.out.2.size _,Lw _ _⟩)
   clear M Q hi O;go_upto_region 6 with fail
   rw[<- u,<- FW];clear u FW e0 g e2 e3 c0 m;obtain⟨la,lk,rfl⟩:=aw n.out.1;obtain⟨B,hB⟩:∃B:Bool,B=decide (x.t.toNat=v/\x.h.toNat ∉ a0):=⟨_,rfl⟩;have X:=ae hB;have S:A.cell? z=x.t:=by rw[au n.out.2.2];rfl
   have U:A.cell? ⟨z,1,KK⟩=x.h:=by rw[au n.out.2.2];rfl
   have T:=ae (Bu (aQ n.out.1 (em _)) (Nm l.out) x.h.toNat);obtain⟨AL,p⟩:=ac a0.length;have bd:=ae p;rw[<- p]at n T;rw[<- p];clear hB p;go_cut [30] from 20 to 30 (λh Wx=>h=.bool B/\Lk (A=Wx))
   case first=>
    by_cases g:x.t.toNat=v
    .have z1:((x.t.toNat:Int) == v)=true:=by simp;omega
     have uh:=ae g;clear g;go_wp2_with fail;go_call T.out as e W9⟨rfl,rfl⟩;have b:Lk (B=!decide (x.h.toNat∈a0)):=ae (by rw[X.out];by_cases e:x.h.toNat∈a0<;>simp[e,uh.out]);generalize decide (x.h.toNat∈a0)=d at *;clear T;go_wp2_with fail;go_meet
     exact⟨by rw[b.out],ae rfl⟩
    .as_aux_lemma=>
     have z1:((x.t.toNat:Int) == v)=false:=by simp;omega
     have b:Lk (B=J0):=ae (by rw[X.out];simp[g]);clear g;go_wp2_with fail;go_meet
     exact⟨by rw[b.out],ae rfl⟩
   case rest=>
    obtain⟨rfl,f⟩:=hcut;obtain rfl:=f.out;clear f T;go_upto_if 30 with(fail)
    go_cut [5] from 31 to 35 (λlv W=>Lk (Z3 a W z x lv (nrA v a0 x)))
    case first=>
     cases B
     .as_aux_lemma=>
      have b:Lk (nrA v a0 x=a0):=ae (if_neg (of_decide_eq_false X.out.symm));go_wp2_with fail;go_meet
      exact(by rw[b.out];omega)
     .have b:Lk (nrA v a0 x=a0++[x.h.toNat]):=ae (if_pos (of_decide_eq_true X.out.symm));have t:Lk (aT A a.heap.size (.slice la AL lk) a0/\a0.length<=100000/\a.heap.size<=A.heap.size):=ae ⟨n.out.1,Nm l.out,n.out.2.1.size⟩;go_wp2_with (at_builtin;refine fg rfl _ _ rfl a.heap.size _ a0 rfl t.out.1 x.h.toNat 1 rfl t.out.2.1 t.out.2.2 ?_);intro v4 w4 D CW;have al:=ae (n.out.CG D CW);clear D CW S U;go_wp2_with fail;go_meet
      exact(by rw[b.out];omega)
    case rest=>
     generalize u5=am at *;generalize wc=q at *;have j:=hcut;clear n hcut S U;have L:Lk ((nrA v a0 x).length<=2100):=ae (by have:=l.out;unfold nrA;split<;>simp<;>omega);generalize nrA v a0 x=c at *;go_upto_region 8 with fail
     obtain⟨H,F,rfl⟩:=aw j.out.1;obtain⟨R,vL⟩:∃B:Bool,B=decide (x.h.toNat=v/\x.t.toNat ∉ c):=⟨_,rfl⟩;have V:=ae vL;have S:q.cell? z=x.t:=by rw[au j.out.2.2];rfl
     have U:q.cell? ⟨z,1,KK⟩=x.h:=by rw[au j.out.2.2];rfl
     have o:=ae (Bu (aQ j.out.1 (em _)) (Nm L.out) x.t.toNat);obtain⟨N,k⟩:=ac c.length;have J:=ae k;rw[<- k]at j o;rw[<- k];clear vL k;go_cut [46] from 36 to 46 (λh Wx=>h=.bool R/\Lk (q=Wx))
     case first=>
      by_cases g:x.h.toNat=v
      .have z1:((x.h.toNat:Int) == v)=true:=by simp;omega
       have uh:=ae g;clear g;go_wp2_with fail;go_call o.out as e W9⟨rfl,rfl⟩;have b:Lk (R=!decide (x.t.toNat∈c)):=ae (by rw[V.out];by_cases e:x.t.toNat∈c<;>simp[e,uh.out]);generalize decide (x.t.toNat∈c)=d at *;clear o;go_wp2_with fail;go_meet
       exact⟨by rw[b.out],ae rfl⟩
      .as_aux_lemma=>
       have z1:((x.h.toNat:Int) == v)=false:=by simp;omega
       have b:Lk (R=J0):=ae (by rw[V.out];simp[g]);clear g;go_wp2_with fail;go_meet
       exact⟨by rw[b.out],ae rfl⟩
     case rest=>
      obtain⟨rfl,f⟩:=hcut;obtain rfl:=f.out;clear f o;cases R
      .as_aux_lemma=>
       have b:Lk (aT q a.heap.size (.slice H N F) (fC (es.take (i+1)) v)/\Lg a a q):=ae (by rw[y.out,show nrB v c x=c from if_neg (of_decide_eq_false V.out.symm)];exact⟨by unfold aT;rw[<- J.out];exact(by have:=j.out.1;unfold aT at this;rwa [<- J.out]at this),j.out.2.1⟩)
       go_wp2;grind [Lo]
      .have b:Lk (nrB v c x=c++[x.t.toNat]):=ae (if_pos (of_decide_eq_true V.out.symm));have t:Lk (aT q a.heap.size (.slice H N F) c/\c.length<=100000/\a.heap.size<=q.heap.size):=ae ⟨j.out.1,Nm L.out,j.out.2.1.size⟩;go_wp2_with (at_builtin;refine fg rfl _ _ rfl a.heap.size _ c rfl t.out.1 x.t.toNat 1 rfl t.out.2.1 t.out.2.2 ?_);intro v7 w7 r P;have aE:Lk (aT w7 a.heap.size v7 (fC (es.take (i+1)) v)/\Lg a a w7):=ae (by rw[y.out,b.out];exact⟨r,(j.out.CG r P).2.1⟩)
       clear r P S U;go_wp2;grind [Lo]
  .have qO:¬(i:Int)<E:=af;have b:Lk (aT C w.heap.size lv (fC es v)/\Lg w w C):=ae (by have Y:=m.out;rw[ey Xy]at Y;exact⟨aQ Y.1 s.out.1.size,s.out.1.trans (Y.2.mono s.out.1.size)⟩)
   clear hi Q m;go_wp2;go_ret;exact⟨_,rfl,b.out⟩
end
section
variable {w W:KX}{es:List aJ}{vs:List bZ}{gv hv lv:J3}{cs:List gQ}{i:Nat}
structure tG(w:KX)(gv hv:J3)(es:List aJ)(vs:List bZ):Prop where
 e:gR w gv es
 v:xV w hv vs
 zo:aH J0 es=es
 l1:es.length<=600
 l2:vs.length<=24
 ends:∀x∈es,x.t.toNat<vs.length/\x.h.toNat<vs.length
theorem tG.below(h:tG w gv hv es vs)(a:Lg w w w'):tG w' gv hv es vs:=⟨h.e.below a,h.v.below a,h.zo,h.l1,h.l2,h.ends⟩
theorem tG.out(h:tG w gv hv es vs)(k:Nat):eJ J0 k es=aY es k/\eJ Jd k es=eD es k:=by have a:=agW k es;rw[h.zo]at a;refine⟨?_,a⟩;unfold aY;rw[h.zo]
theorem tG.deg(h:tG w gv hv es vs)(k:Nat):(eJ J0 k es).length<=24/\(eJ Jd k es).length<=24/\(eJ Jd k es).length*(eJ J0 k es).length<=100000:=by
 rw[(h.out k).1,(h.out k).2];have m:∀x∈es,x.t.toNat∈kk vs.length/\x.h.toNat∈kk vs.length:=λx c=>by simpa using h.ends x c
 have o:((aY es k).map λx=>x.h.toNat).Nodup:=by unfold aY eJ;refine List.pairwise_map.2 (List.Pairwise.imp_of_mem (λ{a b}f g d e=>?_) ((bM J0 es).il.filter _));have:=(sR.1 f).2;have:=(sR.1 g).2;simp only[fY,pk,decide_eq_true_eq,xv,if_false]at *;omega
 have n:((eD es k).map λx=>x.t.toNat).Nodup:=by unfold eD eJ;refine List.pairwise_map.2 (List.Pairwise.imp_of_mem (λ{a b}f g d e=>?_) ((bM Jd es).il.filter _));have:=(sR.1 f).2;have:=(sR.1 g).2;simp only[fY,pk,decide_eq_true_eq,if_true]at *;omega
 have j:=lz o (l₂:=kk vs.length) λy i=>by obtain⟨x,c,rfl⟩:=gl.1 i;exact(m x (iN.1 (vz.1 c).1).1).2
 have l:=lz n (l₂:=kk vs.length) λy i=>by obtain⟨x,c,rfl⟩:=gl.1 i;exact(m x (iN.1 (Bh.1 c).1).1).1
 rw[dj,List.length_range]at j l;have:=h.l2;have p:=IM (cp l this) (cp j this);omega
structure SZ(w W:KX)(lv:J3)(cs:List gQ)(es:List aJ)(vs:List bZ)(i:Nat):Prop where
 row:eA W w.heap.size lv cs
 jE:∀p∈cs,aT W w.heap.size (pA p) p.1.n/\p.1.n.length<=10000
 sm:Ot (cs.map (·.1)) (fX es vs i)
 bl:Lg w w W
theorem SZ.below(h:SZ w W lv cs es vs i)(a:Lg W W w'):SZ w w' lv cs es vs i:=
 ⟨aB h.row a,λp b=>⟨aB (h.jE p b).1 a,(h.jE p b).2⟩,h.sm,h.bl.trans (a.mono h.bl.size)⟩
theorem SZ.CG{y:gQ}{n:Obj}{j:Nat}{c:sO}(h:SZ w W lv cs es vs i)(m:eA w' w.heap.size u (cs++[y]))(g:gP lv (W.alloc n) w' u)(k:aT W w.heap.size (pA y) y.1.n/\y.1.n.length<=10000)(o:Fs y.1 c)(q:fX es vs j=fX es vs i++[c]):SZ w w' u (cs++[y]) es vs j:=by
 have f:∀p:gQ,aT W w.heap.size (pA p) p.1.n->aT w' w.heap.size (pA p) p.1.n:=λp a=>bg a λb d=>(g.1.block b (by have:=(aA a b d).1;simp;omega) λe=>cr a h.row ag b d e.symm).trans ((MapKept.heap_alloc _ _).2 b (aA a b d).1)
 refine⟨m,λp a=>?_,by rw[k8,q];exact h.sm.snoc o,(bH (h.bl.alloc h.bl.size _) (λz l=>aD h.row z l) g).1⟩;rcases hS.1 a with a | a
 .exact⟨f p (h.jE p a).1,(h.jE p a).2⟩
 .rw[kj.1 a];exact⟨f y k.1,k.2⟩
theorem SZ.pick(h:SZ w W lv cs es vs i)(hi:vs.length<=i)(o:tG w gv hv es vs):qU W w.heap.size lv cs:=by
 have b:=h.sm;rw[uG es vs hi]at b;have m:∀p∈cs,∃c∈dy es vs,Fs p.1 c:=λp d=>by
  obtain⟨j,l⟩:=hY.1 d;have a:(cs.map (·.1))[j]? = IT p.1:=by rw[j1,l];rfl
  have t:=aK a;have k:(dy es vs)[j]? = IT ((dy es vs)[j]'(Nm b.1)):=bk _;exact⟨_,cx k,b.2 j _ _ a k⟩
 have q:=o.l2;refine⟨h.row,λp d=>⟨aQ (h.jE p d).1 (em _),λy r=>?_⟩,λp d=>?_,?_,?_⟩
 .obtain⟨c,g,s,f,n⟩:=m p d;obtain⟨j,x,-,-,rfl⟩:=uI.1 g;obtain⟨x,-,⟨-,rfl⟩|⟨-,rfl⟩⟩:=uH.1 ((n y).1 r)
  .exact x.h.toNat_lt
  .exact x.t.toNat_lt
 .obtain⟨c,g,s,-⟩:=m p d;have:=(C6 _ g).2;omega
 .have e:cs.map (·.1.v)=(dy es vs).map (·.v):=by
   apply p5;intro j;have a:=b.1;rw[dj]at a;rw[j1,j1];cases e:cs[j]? with
   |none=>rw[GW (Nm (List.getElem?_eq_none_iff.1 e))];rfl
   |some p=>have l:=aK e;have f:(dy es vs)[j]? = IT ((dy es vs)[j]'(af)):=bk _;rw[f,ql,ql,(b.2 j p.1 _ (by rw[j1,e];rfl) f).1]
  rw[e];exact Fc (es:=es) vs 0
 .have a:=b.1;rw[dj]at a;rw[a];unfold dy;refine cp (kt _ _) ?_;rw[IS];omega
theorem KW(h:tG w gv hv es vs):K1 prog 48 #[LV #[gv,hv]] w λe w'=>∃v,e=Mk v/\aT w' w.heap.size v (aP es vs)/\Lg w w w':=by
 obtain⟨z,A,rfl,-⟩:=id h.e;obtain⟨I,B,rfl,-⟩:=id h.v;have H:=ae h;obtain⟨E,hE⟩:=ac es.length;obtain⟨N,hN⟩:=ac vs.length;have ce:=ae (A9 h.v).2;have G:Lk (N=vs.length/\N<=24):=ae ⟨hN,by rw[hN];exact h.l2⟩;rw[<- hE,<- hN]at H ⊢;have C:Lk (Lg w w (w.alloc (Mi #[.slice z E A,.slice I N B] 39))/\(w.alloc (Mi #[.slice z E A,.slice I N B] 39)).heap[w.heap.size]? = IT (Mi #[.slice z E A,.slice I N B] 39)):=ae ⟨aq.alloc (cg _) _,Lw w _⟩;clear h hE hN;go_enter func48,ntmps48;go_upto_region 1 with fail
 obtain⟨bb,r9⟩:=ac w.heap.size;obtain⟨O,Q⟩:=ac (w.alloc (Mi #[.slice z E A,.slice I N B] 39));have FM:=ae r9;rw[<- Q,<- r9]at C ⊢;have c0:O.cell? bb=IT (.slice z E A):=by rw[au C.out.2];rfl
 obtain⟨f,n⟩:=ac (O.alloc (Mi #[.slice z E A,.slice KK 0 0,.slice KK 0 0] 124));obtain⟨n1,tQ⟩:=ac O.heap.size;have Z4:Lg O O f:=by rw[n];exact aq.alloc (cg _) _
 have r:Lg w w O:=by have:=C.out.1;rwa [r9]at this
 have Cm:Lk (Lg w w f/\kP f n1 es []/\∀W,Lg f f W->W.cell? bb=IT (.slice z E A)/\W.cell? ⟨bb,1,KK⟩=IT (.slice I N B)):=ae (by refine⟨r.trans (Z4.mono r.size),⟨⟨_,_,by rw[n,tQ];exact Lw _ _,(H.out.e.below r).below Z4,gp _ _ _ _⟩,Nm H.out.l1,ai⟩,λW J=>?_⟩;have F:=(J.block _ (eg (bD C.out.2) Z4.size)).trans ((Z4.block _ (bD C.out.2)).trans C.out.2);exact⟨by rw[au F];rfl,by rw[au F];rfl⟩)
 clear r9 Q Z4 r;go_upto_region 2 with fail
 rw[<- n,<- tQ];clear n tQ c0 C;have R:Lk (SZ w f (.slice KK 0 0) [] es vs 0):=ae ⟨gp _ _ _ _,(λp M=>nomatch M),⟨by simp[fX,dy],λi a b I=>by simp at I⟩,Cm.out.1⟩;go_wp2_with fail;go_loopw [4,5] (λlv iv W=>∃(i:Nat)(cs:List gQ),iv=i/\i<=N/\Lk (SZ w W lv cs es vs i/\Lg f f W/\∀b,lv.ownBlock=IT b->f.heap.size<=b)) (λ_ iv _=>N-(Lo iv).toNat)
 case atStart=>exact⟨0,[],rfl,em _,ae ⟨R.out,kp _ _,(λb e=>nomatch e)⟩⟩
 case round=>
  generalize u4=lv at *;generalize wr=W2 at *;obtain⟨i,cs,rfl,hi,c⟩:=hrel;clear R;obtain⟨d0,d1⟩:=Cm.out.2.2 W2 c.out.2.1;by_cases s:i<N
  .have qO:(i:Int)<N:=af;have wi:cf Mm ((i:Int)+1)=(i+1:Nat):=by have:=G.out;rw[ax]<;>omega
   have wu:cf Mo (i:Int)=i:=cM _ af (Nm G.out);obtain⟨x,F⟩:∃x,vs[i]? = IT x:=⟨_,bk (Nm G.out)⟩;have S:=ae (λW J=>ce.out W J i x F);have Y:=ae (sX es vs F);obtain⟨j,T,rfl,v0,v1,v2⟩:=S.out W2 c.out.1.bl;have rU:=ae s;have aE:Lk (cs.length<=100000):=ae (by
    have h1:=c.out.1.sm.1;have h2:=Fe es vs i;have h3:(dy es vs).length<=vs.length:=by unfold dy;refine cp (kt _ _) ?_;rw[IS];omega
    rw[dj]at h1;have:=G.out;omega)
   by_cases g:x.r=4294967295
   .have z1:((x.r.toNat:Int) != 4294967295)=false:=by rw[g];rfl
    have L:Lk (fX es vs (i+1)=fX es vs i++[nL es i x]):=ae (by rw[Y.out,if_pos g]);obtain⟨V,hV⟩:=ac (h9 i);have HV:Lk (V.toNat=i/\V=h9 i):=ae ⟨by rw[hV,n9];have:=G.out;omega,hV⟩;have m:=ae (OB (Cm.out.2.1.below c.out.2.1) V (by rw[HV.out.1];exact(H.out.deg i).2.2));have SI:Lk (Fs ⟨i,Qy (eD es i).length (aY es i).length (ju (aY es) (λ_=>J0) (eD es i) V).length x,fC es i⟩ (nL es i x)):=ae (by unfold nL;rw[<- hV];refine⟨rfl,rfl,λy=>?_⟩;have:=yo es i;rw[H.out.zo]at this;exact this.mem_iff)
    have bd:Lk (KU es V=Ly #[(eD es i).length,(aY es i).length,Kx Mm ((ju (aY es) (λ_=>J0) (eD es i) V).length:Int),Kx Mm 0]):=ae (by unfold KU;rw[HV.out.1,(H.out.out i).1,(H.out.out i).2,show(λu=>eJ J0 u es)=aY es from funext λu=>(H.out.out u).1])
    rw[bd.out,HV.out.1]at m;generalize (eD es i).length=al at *;generalize (aY es i).length=Z at *;generalize (ju (aY es) (λ_=>J0) (eD es i) V).length=U at *;unfold ptrTo at m;clear F g hV s hi;go_wp2_with fail;go_call m.out as e W3⟨rfl,hb3⟩;have XZ:=ae c.out.2.2;have t:Lk (SZ w W3 lv cs es vs i/\Lg f f W3):=ae ⟨c.out.1.below hb3,c.out.2.1.trans (hb3.mono c.out.2.1.size)⟩;clear hb3 m c d0 d1 v0 v1 v2 z1;have Dw:Lk (∀W,Lg W3 W3 W->W.cell? bb=IT (.slice z E A)/\W.cell? ⟨bb,1,KK⟩=IT (.slice (IT ⟨j,T,KK⟩) N B)):=ae (λW J=>Cm.out.2.2 W (t.out.2.trans (J.mono t.out.2.size)));have CR:Lk (∀W,Lg W3 W3 W->W.cell? ⟨j,T+i*3,KK⟩=x.r/\W.cell? ⟨j,T+i*3+1,KK⟩=x.l/\W.cell? ⟨j,T+i*3+2,KK⟩=x.g):=ae (λW J=>by obtain⟨b,o,e,q⟩:=S.out W (t.out.1.bl.trans (J.mono t.out.1.bl.size));cases e;exact q)
    have l:=ae (λW=>Ry (al:Int) (Z:Int) (U:Int) (x.r.toNat:Int) (x.l.toNat:Int) (x.g.toNat:Int) W af (Nm x.l.toNat_lt) af (Nm x.g.toNat_lt));rw[SH]at l;go_upto_region 8 with fail
    refine nh (Lg W3 W3) 3 15 ah ah aq.drew ?_;simp only[ii,j2,ot,qd];iterate 2 (refine p_op rfl (λw'=>(by go_simp<;>rfl)) (λK hK=>?_);go_simp;refine hK _ ?_;clear hK K)
    refine p_op rfl (λw'=>(by have k:=wu;go_simp<;>rfl)) (λK hK=>?_);go_simp;refine hK _ ?_;clear hK K;refine adk ?_;iterate 4 (refine qz ?_)
    refine qz ?_ (λw' d=>by have k:=(Dw.out w' d).2;go_simp<;>rfl);iterate 2 (refine qz ?_)
    refine qz ?_ (λw' d=>by obtain⟨k0,k1,k2⟩:=CR.out w' d;go_simp<;>rfl);refine qw (λw' d=>(l.out w').mono (λe ci h=>⟨h.1,d.trans (h.2.mono d.size)⟩)) ?_;refine qz ?_ (λw' d=>by obtain⟨k0,k1⟩:=Dw.out w' d;go_simp<;>rfl);refine qz ?_;refine qz ?_ (λw' d=>by have k:=wu;go_simp<;>rfl);refine wpQuiet_nil ?_;intro W4 D;have P:Lk (SZ w W4 lv cs es vs i/\Lg f f W4):=ae ⟨t.out.1.below D,t.out.2.trans (D.mono t.out.2.size)⟩;have U7:=ae (Fx (H.out.e.below P.out.1.bl) (Nm H.out.l1) (.slice (IT ⟨j,T,KK⟩) N B) i);clear D l t Dw CR;generalize Qy al Z U x=KY at *;go_wp2_with fail;go_call U7.out as e W5⟨nv,rfl,Kc,kR⟩;obtain⟨na,nk,rfl⟩:=aw Kc;have X:Lk (SZ w W5 lv cs es vs i/\Lg f f W5):=ae ⟨P.out.1.below kR,P.out.2.trans (kR.mono P.out.2.size)⟩;have xU:Lk (aT W5 w.heap.size (.slice na (fC es i).length nk) (fC es i)/\(fC es i).length<=10000):=ae ⟨aQ Kc P.out.1.bl.size,No (s8 i es) H.out.l1⟩;clear Kc kR U7 P;have S8:=X.out.1.bl.size;go_wp2_with (at_builtin;refine kB rfl _ _ rfl w.heap.size _ cs rfl X.out.1.row (⟨i,KY,fC es i⟩,(na,nk)) 1 (by rfl) aE.out S8 ?_);intro v6 w6 am uB;have oz:Lk (SZ w w6 v6 (cs++[(⟨i,KY,fC es i⟩,(na,nk))]) es vs (i+1)/\Lg f f w6/\∀b,v6.ownBlock=IT b->f.heap.size<=b):=ae ⟨X.out.1.CG am uB xU.out SI.out L.out,bH (X.out.2.alloc X.out.2.size _) XZ.out uB⟩;clear am uB S8;go_wp2;simp only[NoP];go_wp2;exact⟨⟨i+1,_,rfl,rU.out,oz⟩,Xd rU.out⟩
   .as_aux_lemma=>
    have z1:((x.r.toNat:Int) != 4294967295)=true:=by have:x.r.toNat≠4294967295:=λe=>g (UInt32.toNat_inj.1 e);simp;omega
    have L:Lk (fX es vs (i+1)=fX es vs i):=ae (by rw[Y.out,if_neg g,nw]);clear F g s hi;go_wp2;exact⟨⟨i+1,cs,rfl,rU.out,ae ⟨⟨c.out.1.row,c.out.1.jE,by rw[L.out];exact c.out.1.sm,c.out.1.bl⟩,c.out.2⟩⟩,Xd rU.out⟩
  .have qO:¬(i:Int)<N:=af;have I6:=c.out.1.pick (Nm G.out) H.out;have QZ:Lk (jc (cs.map (·.1))=aP es vs):=ae (by have h1:=c.out.1.sm;rw[uG es vs (Nm G.out)]at h1;exact Vf h1)
   have M:=ae (RB I6 (λp M=>(c.out.1.jE p M).2));rw[QZ.out]at M;clear s hi I6;go_wp2_with fail;go_call M.out as e W3⟨v,rfl,hr3,hb3⟩;have HQ:Lk (aT W3 w.heap.size v (aP es vs)/\Lg w w W3):=ae ⟨aQ hr3 c.out.1.bl.size,c.out.1.bl.trans (hb3.mono c.out.1.bl.size)⟩;clear hr3 hb3 M;go_wp2;go_ret;exact⟨_,rfl,HQ.out⟩
end
theorem zU{w:KX}{rest:List Oper}{a:Act}(e:f.guard=KK)(s x:Operand)(p:f.op=.call { callee:=.builtin .append,args:=#[s,x],argTypes:=#[37,37] })(base:Nat)(v:J3)(l:List bZ)(q:a.eval s=v)(c:dr w base v l)(u:J3)(vs:List bZ)(o:a.eval x=u)(n:xV w u vs)(B:l.length+vs.length<=100000)(d:base<=w.heap.size)(k:∀v' w',dr w' base v' (l++vs)->gP v w w' v'->wpList prog ops Q rest (a.put f.dst v') w'):wpList prog ops Q (f::rest) a w:=by
 obtain⟨ad,cap,rfl,g⟩:=id n;cases ad with
 |none=>
   have:vs=[]:=by
    rcases g with g |⟨b,i,h,_⟩
    .exact sI.1 g
    .cases h
   subst this;exact qB e s x 37 p Tryz.underlying37 rN q c cap o (k _ _ (by rw[nw];exact c) ⟨⟨rfl,rfl,rfl,cg _,λ_ _ _=>rfl⟩,.inl rfl⟩)
 |some ad=>
   have A:∀j y,(cz vs)[j]? = IT y->w.cell? (ad.add j)=IT y:=λj y m=>by
    have t:=aK m;rw[jX]at t;rcases g with C |⟨b,i,h,_⟩
    .omega
    .cases h;exact n.cells rfl j y m
   refine ct e s x 37 p base 110 _ 3 12 Tryz.underlying37 rN rfl ag v l.length (cz l) q c ad vs.length cap (cz vs) o (jX vs) A (EG vs) (by unfold maxLen;omega) af d (λv' w' r z=>k v' w' ?_ z);unfold dr;rw[qT,eh];exact r
structure jQ(w W:KX)(bb rb sb nb g vk:Nat)(sv:Array J3)(gv hv OE rv uv dv:J3)(CH:List Nat)(R U D:List aJ)(V:List bZ):Prop where
 bl:Lg w w W
 gen:W.heap[bb]? = IT (Mi #[gv,hv] 39)
 vJ:W.heap[sb]? = IT (Mi sv 42)
 mX:W.heap[nb]? = IT (Mi #[gv,.slice KK 0 0,OE] 124)
 ch:aT W w.heap.size OE CH
 raw:aG W w.heap.size rv R
 up:aG W w.heap.size uv U
 dn:aG W w.heap.size dv D
 F0:dr W w.heap.size (.slice g V.length vk) V
 a1:∀b,rv.ownBlock=IT b->uv.ownBlock≠IT b/\dv.ownBlock≠IT b
 a2:∀b,uv.ownBlock=IT b->dv.ownBlock≠IT b
 new:w.heap.size<=bb/\w.heap.size<=sb/\w.heap.size<=nb
 res:W.heap[rb]? = IT (Mi #[.slice KK 0 0,.slice KK 0 0,.slice KK 0 0,.slice KK 0 0,.slice KK 0 0,Kx Mm 0] 42)/\rb≠sb
section
variable {w W:KX}{bb rb sb nb g vk:Nat}{sv:Array J3}{gv hv OE rv uv dv:J3}{CH:List Nat}{R U D:List aJ}{V:List bZ}
theorem jQ.below(h:jQ w W bb rb sb nb g vk sv gv hv OE rv uv dv CH R U D V)(a:Lg W W w'):jQ w w' bb rb sb nb g vk sv gv hv OE rv uv dv CH R U D V:=
 ⟨h.bl.trans (a.mono h.bl.size),(a.block _ (bD h.gen)).trans h.gen,(a.block _ (bD h.vJ)).trans h.vJ,(a.block _ (bD h.mX)).trans h.mX,aB h.ch a,aB h.raw a,aB h.up a,aB h.dn a,aB h.F0 a,h.a1,h.a2,h.new,(a.block _ (bD h.res.1)).trans h.res.1,h.res.2⟩
theorem s9{base size n:Nat}{e:TypeId}{v:J3}(h:W.ownsRow base e size v n xs){b:Nat}(a:v.ownBlock=IT b):∃d,W.heap[b]? = IT (Mi d e):=by
 obtain⟨_,⟨c,_⟩|⟨x,cap,g,c,_,f,_⟩⟩:=h
 .rw[c]at a;cases a
 .rw[c]at a;cases a;exact⟨_,f⟩
theorem fo{c:J3}{base size n:Nat}{e:TypeId}(f:W.ownsRow base e size c n xs)(g:gP c W w' p){b:Nat}{d:Array J3}{t:TypeId}(a:W.heap[b]? = IT (Mi d t))(j:t≠e):w'.heap[b]? = IT (Mi d t):=
 (g.1.block b (bD a) λe=>by obtain⟨i,h⟩:=s9 f e.symm;rw[a]at h;cases h;exact j rfl).trans a
theorem ix{c:J3}(f:gP c W w' p){base size n:Nat}{e:TypeId}{v:J3}(h:W.ownsRow base e size v n xs)(a:∀b,v.ownBlock=IT b->c.ownBlock≠IT b):w'.ownsRow base e size v n xs:=
 bg h λb d=>f.1.block b (aA h b d).1 (λe=>a b d e.symm)
theorem rV{d:J3}(g:gP d W w' p){base size n:Nat}{e:TypeId}{v:J3}(h:W.ownsRow base e size v n xs)(a:∀b,v.ownBlock=IT b->d.ownBlock≠IT b):∀b,v.ownBlock=IT b->p.ownBlock≠IT b:=λb f e=>by
 rcases g.2 with c | c
 .exact a b f (c▸e)
 .rw[c]at e;cases e;have:=(aA h _ f).1;omega
theorem td{a b:J3}(h:∀x,a.ownBlock=IT x->b.ownBlock≠IT x):∀x,b.ownBlock=IT x->a.ownBlock≠IT x:=λx c e=>h x e c
theorem jQ.ahq(h:jQ w W bb rb sb nb g vk sv gv hv OE rv uv dv CH R U D V){c:J3}{e:List aJ}(k:aG w' w.heap.size c e)(a:gP rv W w' c):jQ w w' bb rb sb nb g vk sv gv hv OE c uv dv CH e U D V:=by
 have f:=td λb d=>(h.a1 b d).1;have i:=td λb d=>(h.a1 b d).2;have j:=td (rV a h.up f);have m:=td (rV a h.dn i);exact⟨(bH h.bl (λy l=>(aA h.raw y l).2) a).1,fo h.raw a h.gen ag,fo h.raw a h.vJ ag,fo h.raw a h.mX ag,ix a h.ch (cr h.ch h.raw ag),k,
  ix a h.up f,ix a h.dn i,ix a h.F0 (cr h.F0 h.raw ag),λb d=>⟨j b d,m b d⟩,h.a2,h.new,fo h.raw a h.res.1 ag,h.res.2⟩
theorem jQ.amf(h:jQ w W bb rb sb nb g vk sv gv hv OE rv uv dv CH R U D V){c:J3}{e:List aJ}(j:aG w' w.heap.size c e)(a:gP uv W w' c):jQ w w' bb rb sb nb g vk sv gv hv OE rv c dv CH R e D V:=by
 have f:∀b,rv.ownBlock=IT b->uv.ownBlock≠IT b:=λb d=>(h.a1 b d).1;have i:=rV a h.raw f;have l:=td (rV a h.dn (td h.a2));exact⟨(bH h.bl (λy k=>(aA h.up y k).2) a).1,fo h.up a h.gen ag,fo h.up a h.vJ ag,fo h.up a h.mX ag,ix a h.ch (cr h.ch h.up ag),ix a h.raw f,j,
  ix a h.dn (td h.a2),ix a h.F0 (cr h.F0 h.up ag),λb d=>⟨i b d,(h.a1 b d).2⟩,l,h.new,fo h.up a h.res.1 ag,h.res.2⟩
theorem jQ.amg(h:jQ w W bb rb sb nb g vk sv gv hv OE rv uv dv CH R U D V){c:J3}{e:List aJ}(j:aG w' w.heap.size c e)(a:gP dv W w' c):jQ w w' bb rb sb nb g vk sv gv hv OE rv uv c CH R U e V:=by
 have f:∀b,rv.ownBlock=IT b->dv.ownBlock≠IT b:=λb d=>(h.a1 b d).2;have i:=rV a h.raw f;have l:=rV a h.up h.a2;exact⟨(bH h.bl (λy k=>(aA h.dn y k).2) a).1,fo h.dn a h.gen ag,fo h.dn a h.vJ ag,fo h.dn a h.mX ag,ix a h.ch (cr h.ch h.dn ag),ix a h.raw f,ix a h.up h.a2,
  j,ix a h.F0 (cr h.F0 h.dn ag),λb d=>⟨(h.a1 b d).1,i b d⟩,l,h.new,fo h.dn a h.res.1 ag,h.res.2⟩
theorem mZ{x:Nat}{a:TypeId}(d:W.heap[x]? = IT (Mi q a))(i:Nat)(u:J3){b:Nat}{c:Array J3}{t:TypeId}(f:W.heap[b]? = IT (Mi c t))(g:t≠a):(W.setCell ⟨x,i,KK⟩ u).heap[b]? = IT (Mi c t):=by rw[e8 _ _ _ _ (λe=>?_),f];subst e;rw[f]at d;cases d;exact g rfl
theorem jI{x:Nat}{a:TypeId}(d:W.heap[x]? = IT (Mi q a))(i:Nat)(u:J3){base size n:Nat}{e:TypeId}{v:J3}(h:W.ownsRow base e size v n xs)(j:e≠a):(W.setCell ⟨x,i,KK⟩ u).ownsRow base e size v n xs:=
 bg h λb g=>e8 _ _ _ _ λf=>by obtain⟨cs,c⟩:=s9 h g;subst f;rw[d]at c;cases c;exact j rfl
theorem jQ.Z5(h:jQ w W bb rb sb nb g vk sv gv hv OE rv uv dv CH R U D V)(i:Nat)(u:J3):jQ w (W.setCell ⟨sb,i,KK⟩ u) bb rb sb nb g vk (sv.setIfInBounds i u) gv hv OE rv uv dv CH R U D V:=
 ⟨h.bl.setCell h.new.2.1 _,mZ h.vJ i u h.gen ag,aS h.vJ i u,mZ h.vJ i u h.mX ag,jI h.vJ i u h.ch ag,jI h.vJ i u h.raw ag,jI h.vJ i u h.up ag,jI h.vJ i u h.dn ag,jI h.vJ i u h.F0 ag,h.a1,h.a2,h.new,(e8 _ _ _ _ h.res.2).trans h.res.1,h.res.2⟩
theorem jQ.ac4(h:jQ w W bb rb sb nb g vk sv gv hv OE rv uv dv CH R U D V)(j:Nat)(u:J3){c:List bZ}(e:(cz V).set j u=cz c)(f:c.length=V.length):jQ w (W.setCell ⟨g,j,KK⟩ u) bb rb sb nb g vk sv gv hv OE rv uv dv CH R U D c:=by obtain⟨cs,a⟩:=s9 h.F0 (b:=g) rfl;have d:=(World.ownsRow.stored h.F0 j u).1;rw[e]at d;exact⟨h.bl.setCell (aA h.F0 g rfl).2 _,mZ a j u h.gen ag,mZ a j u h.vJ ag,mZ a j u h.mX ag,jI a j u h.ch ag,jI a j u h.raw ag,jI a j u h.up ag,jI a j u h.dn ag,by unfold dr;rw[f];exact d,h.a1,h.a2,h.new,mZ a j u h.res.1 ag,h.res.2⟩
theorem jQ.amh{es:List aJ}{vs:List bZ}(h:jQ w W bb rb sb nb g vk sv gv hv OE rv uv dv CH R U D V)(a:tG W gv hv es vs)(b:CH.length<=1000):kP W nb es CH:=
 ⟨⟨_,_,h.mX,a.e,aQ h.ch (em _)⟩,Nm a.l1,b⟩
end
end Go.Proofs.YtofigggbapdfhaaGreatDoor
