/-
  Joined.
-/
import Derived.Test.YtofigggbapdfhaaGreatDoorR10
set_option maxRecDepth 100000
set_option maxHeartbeats 16000000
open Option renaming some->IT,none->KK
open Bool renaming true->Jd
open List renaming getElem?_eq_getElem->bk
open Nat renaming le_refl->cg
namespace Go.Proofs.YtofigggbapdfhaaGreatDoor
open Go.RowKit Go.Maps Go.ChangeMaps
open Go.Proofs.Tryz
open Go renaming World->KX,Value->J3,Calls->K1
open Go.RowKit renaming Below->Lg,Hid->Lk,intOf->Lo
open Go.Value renaming int->Kx
open Go.Obj renaming cells->Mi
open Go.Ending renaming returned->Mk
open Go.IntKind renaming i64->Mm,u8->MM
open Go.IntKind renaming wrap->cf
open Go.Value renaming int->tb
variable {w:KX}
def OJ(n:Nat)(w:KX)(e:Ending)(w':KX):Prop:=∃a:Nat,a<=n/\e=Mk (.tuple #[a,Kx Mm 0])/\Lg w w w'
theorem aac{b db n:Nat}{o:ay}{d:Dsk}{L:aL}(h:aU w b db n o d L):K1 prog 13 #[ptrTo b] w (OJ n w):=by
 obtain⟨m,k,l,hand,f,a,rfl,-⟩:=h;have c:=ae a.full;obtain⟨⟨e,i,g,j,p,q⟩,-⟩:=a.head.cells;clear a;unfold ptrTo at *;go_enter func13,ntmps13;go_wp2;go_quiet (fail)
 go_wp2;go_ret2;exact⟨f,c.out,rfl,below_drewN aq _⟩
theorem RH{db:Nat}{o:ay}{d:Dsk}(h:cI w db o d)(k:d.loose=[]):K1 prog 12 #[ptrTo db] w λe w'=>e=Mk (.slice KK 0 0)/\Lg w w w':=by
 obtain⟨z,a,l,h⟩:=h;have x:=ae h;have c:=h.loose;rw[k]at c;have q:=ae c;obtain⟨⟨b,s,g,j,u⟩,i,f,r⟩:=h.head.cells;clear h b g j u i f r c k;unfold ptrTo;go_enter func12,ntmps12;go_wp2_with (at_range;refine lU _ rfl _ _ rfl 4 Tryz.underlying82 a [] rfl q.out ?_;intro y m);go_frame
 go_loopw [3] (λv wr=>v=.slice KK 0 0/\cL prog 90 eZ (λ_:Unit=>.bool Jd) wr a w.heap.size [] []/\Lg w w wr) (λ_ wr=>wr.rangeLeft a w.heap.size)
 case atStart=>exact⟨rfl,m,aq.alloc (cg _) _⟩
 case round=>generalize wr=W at *;obtain⟨rfl,hi,n⟩:=hrel;have t:=ae n;have p:=ae (AnyF.slices_SortFunc_none Tryz.sortPlaces KK 0 (.func (.func 32) #[] #[]) W);clear n m;go_wp2_with (at_next;refine lV _ rfl _ rfl a w.heap.size [] [] rfl hi ?_ ?_);go_wp2_with fail;go_call p.out as e w2⟨rfl,rfl⟩;go_wp2;go_ret;exact⟨rfl,t.out⟩
section
variable {q:Nat}{w0 w':KX}{pb db n:Nat}{o:ay}{d:Dsk}{L:aL}
theorem Kept.tight(h:Kept q w0 w pb db n o d L)(a:∀x f,aI L x=IT f->∃ps,f=.inl (ps,Jd)):d.loose=[]:=by obtain⟨_,_,_,_,_,_,_,e⟩:=h.bh;rw[List.eq_nil_iff_forall_not_mem];rintro⟨⟨x,s⟩,⟨⟩⟩b;obtain⟨f,c⟩:=Option.isSome_iff_exists.1 (e.dI x s b);obtain⟨ps,rfl⟩:=a x f c;obtain⟨_,_,k⟩:=e.ej _ _ _ c;exact(k.iY rfl).2.2.1 s b
theorem Kept.l6(h:Kept q w0 w pb db n o d L):cI w db o d:=by obtain⟨_,_,_,_,_,g,_,_⟩:=h.bh;exact g.l6
end
structure rX(w0 wT W:KX)(pb db n:Nat)(oT o:ay)(dT d:Dsk)(L:aL)(N:Nat)(l:List aJ)(k:Nat):Prop where
 Bv:uL w0 W pb db n o d L N k (b8 N l k).done (b8 N l k).es (b8 N l k).vs
 full:Full L (3+5*k)
 mv:Moved (λ_=>False) n pb db wT oT dT W o d L
section
variable {w0 wT W a:KX}{pb db n N k:Nat}{oT o o':ay}{dT d d':Dsk}{L L':aL}{l:List aJ}
theorem rX.moved(h:rX w0 wT W pb db n oT o dT d L N l k)(b:Moved (λ_=>False) n pb db W o d a o' d' L):rX w0 wT a pb db n oT o' dT d' L N l k:=
 ⟨h.Bv.moved b,h.full,h.mv.trans b λ_ _ e=>e⟩
theorem rX.below(h:rX w0 wT W pb db n oT o dT d L N l k)(b:Lg W W a):rX w0 wT a pb db n oT o dT d L N l k:=h.moved (Moved.aZ h.Bv.held.bh b)
theorem rX.next(h:rX w0 wT W pb db n oT o dT d L N l k)(g:Moved (λ_=>False) n pb db W o d a o' d' L')(f:kg L L' k (b8 N l k).raw (rh (b8 N l k).es (b8 N l k).ch) (dU (b8 N l k).es (b8 N l k).ch) ((b8 N l k).V0 k))(b:uL w0 a pb db n o' d' L' N (k+1) (b8 N l (k+1)).done (b8 N l (k+1)).es (b8 N l (k+1)).vs):rX w0 wT a pb db n oT o' dT d' L' N l (k+1):=
 ⟨b,Va h.full h.Bv.held.bh.keys b.held.bh.keys (λc=>h.Bv.free c _ af) f,h.mv.trans g λ_ _ e=>e⟩
end
theorem qX{base size n:Nat}{e:TypeId}{v:J3}{xs:List J3}(h:w.ownsRow base e size v n xs)(c:0<n):∃(g cap:Nat),v=.slice (IT ⟨g,0,KK⟩) n cap:=by
 obtain⟨_,⟨-,d⟩|⟨g,cap,a,b,-⟩⟩:=h
 .omega
 .exact⟨g,cap,b⟩
theorem xw(HW:aV)(CB:eW 2400){ev:J3}{l0:List aJ}(K F:Nat)(hK:K<256)(hF:F<256)(he:gR w ev l0):K1 prog 3 #[.agg #[Kx MM K,ev,Kx MM F]] w λe w'=>e=Mk (.bool Jd)/\Lg w w w':=by
 have O5:=ae (λW(hW:Lg w w W)=>IW K F hK (he.below hW));have J:=ae (λW(hW:Lg w w W)=>Ri HW CB K F hK hF (he.below hW));have dl:=ae (λW=>OI HW CB ag W);obtain⟨T,Y,rfl,-⟩:=id he;generalize l0.length=U at *;obtain⟨V,hV⟩:=ac (K%25);rw[<- hV]at O5 J;have r:Lk (V<=24/\(iV V l0).length<=80/\∀x∈iV V l0,x.t.toNat<V/\x.h.toNat<V):=ae ⟨af,qW _ _,λx hx=>Fp hx⟩;generalize 8+F%40=n at *;generalize iV V l0=l at *;have ff:=ae (λW v(h:gR W v l)=>Vt r.out.1 r.out.2.1 r.out.2.2 h);have GQ:=ae (λk=>SX (k:=k) r.out.1 r.out.2.2);have Jw:=ae (λk=>ZW r.out.1 r.out.2.1 r.out.2.2 k);have Lh:Lk (∀k,(b8 V l k).done+(b8 V l k).ch.length<=V):=ae λk=>Bp (yg r.out.1 r.out.2.2 k).1 r.out.1;have fF:Lk (Lg w w (w.alloc (Mi #[Kx MM K,.slice T U Y,Kx MM F] 24))/\(w.alloc (Mi #[Kx MM K,.slice T U Y,Kx MM F] 24)).heap[w.heap.size]? = IT (Mi #[Kx MM K,.slice T U Y,Kx MM F] 24)):=ae ⟨aq.alloc (cg _) _,heap_alloc_new _ _⟩;obtain⟨du,hP⟩:∃P,P=λ(e:Ending)(w':KX)=>e=Mk (.bool Jd)/\Lg w w w':=⟨_,rfl⟩;have HP:Lk (∀w',Lg w w w'->du (Mk (.bool Jd)) w'):=ae (λw' h=>by rw[hP];exact⟨rfl,h⟩);rw[<- hP];clear he hV hK hF hP;go_enter func3,ntmps3;go_wp2_with fail;generalize ce:w.heap.size=wb at *;have HT:Lk (∀W a,Lg wb w W->Lg W W a->Lg wb w a):=ae (λW a h h'=>h.trans (h'.mono (by rw[<- ce];exact h.size)));clear ce;generalize w.alloc (Mi #[Kx MM K,.slice T U Y,Kx MM F] 24)=W0 at *;have aE:=ae (O5.out W0 fF.out.1);go_call aE.out as e w1⟨v1,rfl,hb1,mJ⟩;obtain⟨la,lc,rfl⟩:=aw mJ;have f:wb<W0.heap.size:=(Array.getElem?_eq_some_iff.1 fF.out.2).1;have xJ:w1.heap[wb]? = IT (Mi #[Kx MM K,.slice T U Y,Kx MM F] 24):=(hb1.block _ f).trans fF.out.2;have cD:Lk (Lg wb w w1):=ae (fF.out.1.trans (hb1.mono (Nat.le_of_lt f)));have JY:=ae (fG mJ);have I:=ae (J.out w1 cD.out);unfold ZV at I;have b0:w1.cell? wb=IT (Kx MM K):=by rw[au xJ];rfl
 have b1:w1.cell? ⟨wb,1,KK⟩=IT (.slice T U Y):=by rw[au xJ];rfl
 have b2:w1.cell? ⟨wb,2,KK⟩=IT (Kx MM F):=by rw[au xJ];rfl
 clear hb1 f aE O5 J fF xJ mJ;go_wp2_with fail;go_call I.out as e w2⟨db,pb,o2,d2,L2,rfl,hg2,hf2⟩;have kT:Lk (rX w1 w2 w2 pb db n o2 o2 d2 d2 L2 V l 0):=ae ⟨hg2,hf2,Moved.refl _ hg2.held.bh⟩;have nB:=ae (ff.out w2 _ (JY.out.below hg2.held.below));unfold K5 at nB;generalize l.length=LN at *;clear hg2 hf2 I b0 b1 b2;unfold ptrTo at *;go_wp2_with fail;go_call nB.out as e w3⟨wv,ys,rfl,hro,hyl,VU,hne,hst,hb3⟩;have eM:Lk (rX w1 w3 w3 pb db n o2 o2 d2 d2 L2 V l 0/\∀b,w2.heap.size<=b->o2 b=KK):=ae ⟨by have h:=kT.out.below hb3;exact⟨h.Bv,h.full,Moved.refl _ h.Bv.held.bh⟩,λb hb=>kT.out.Bv.held.bh.fresh hb⟩
 obtain⟨M,hM⟩:=ac ys.length;have Q:Lk (M=ys.length/\(b8 V l M).done=V/\(∀k,k<M->(b8 V l k).ch≠[])/\∀(W:KX)(o:ay)(d:Dsk)(L:aL),Moved (λ_=>False) n pb db w3 o2 d2 W o d L->∀(k:Nat)(y:mY),ys[k]? = IT y->iO W w2.heap.size y (b8 V l k) k):=ae ⟨hM,by rw[hM];exact VU,λk hk=>hne k af,λW o d L O k y s=>(hst k y s).moved O eM.out.2⟩;have FN:=ae hro;obtain⟨wa,wc,rfl⟩:=aw hro;rw[<- hM]at FN ⊢;have S:Lk (M<=24):=ae (Nm r.out.1);clear hro hyl VU hne hst hb3 kT nB hM;go_wp2_with fail;go_loopw [8,9,10] (λvd vf vg W=>∃(k:Nat)(o:ay)(d:Dsk)(L:aL),vd=Kx .u32 (b8 V l k).done/\vf=(3+5*k:Nat)/\vg=k/\k<=M/\Lk (rX w1 w3 W pb db n o2 o d2 d L V l k)) (λ_ _ vg _=>M-(Lo vg).toNat)
 case atStart=>exact⟨0,o2,d2,L2,rfl,rfl,rfl,Nat.zero_le _,ae eM.out.1⟩
 case round=>
  obtain⟨k,o,d,L,rfl,rfl,rfl,hk,Z⟩:=hrel;generalize wr=W1 at *;obtain⟨D,hD⟩:=ac ((b8 V l k).done);obtain⟨KN,GK⟩:=ac ((b8 V l k).ch.length);obtain⟨F,hF⟩:=ac (3+5*k);have m:Lk (D=(b8 V l k).done/\KN=(b8 V l k).ch.length/\D+KN<=24/\F=3+5*k):=ae ⟨hD,GK,No (Lh.out k) r.out.1,hF⟩;have X:=ae (Rf HW CB Z.out.Bv);unfold Fo ptrTo at X;rw[<- hD,<- GK]at X;rw[<- hD,<- hF];clear hD GK hF;by_cases f:k<M
  .have qO:(k:Int)<M:=af;obtain⟨y,s⟩:∃y,ys[k]? = IT y:=⟨_,bk (Nm Q.out.1)⟩;obtain⟨g,cap,VW⟩:=qX FN.out (Nm Q.out.1);obtain⟨rfl,-,rfl⟩:=Value.slice.inj VW;have R:Lk (∀W o d L,Moved (λ_=>False) n pb db w3 o2 d2 W o d L->iO W w2.heap.size y (b8 V l k) k/\W.cell? ⟨g,k*6,KK⟩=IT y.g.v/\W.cell? ⟨g,k*6+1,KK⟩=IT y.h.v/\W.cell? ⟨g,k*6+2,KK⟩=IT y.u.v/\W.cell? ⟨g,k*6+3,KK⟩=IT y.d.v/\W.cell? ⟨g,k*6+4,KK⟩=IT y.k.v/\W.cell? ⟨g,k*6+5,KK⟩=IT (Kx Mm y.c)):=ae (λW o d L O=>by have h:=O.ownsRow FN.out (λb hb=>⟨eM.out.2 b (aD FN.out b hb),λe=>e⟩);exact⟨Q.out.2.2.2 W o d L O k y s,iu h s (j:=0) rfl,iu h s (j:=1) rfl,iu h s (j:=2) rfl,iu h s (j:=3) rfl,iu h s (j:=4) rfl,iu h s (j:=5) rfl⟩)
   have al:Lk (∀W,iO W w2.heap.size y (b8 V l k) k->K1 prog 9 #[.agg #[y.g.v,y.h.v,y.u.v,y.d.v,y.k.v,Kx Mm y.c],k] W (nY W (Cj (b8 V l k) k))):=ae (λW h=>Hb h (Jw.out k) (Nm S.out));have fm:y.k.n=KN:=(R.out _ _ _ _ Z.out.mv).1.n.trans m.out.2.1.symm;obtain⟨⟨ga,gn,gc⟩,⟨ha,hn,hc⟩,⟨ua,un,uc⟩,⟨da,dn,dc⟩,⟨ka,kn,kc⟩,c⟩:=y;obtain rfl:kn=KN:=fm;have bd:=Q.out.2.2.1 k f;have E:Lk (k<M):=ae f;have gE:cf Mm (kn:Int)=kn:=by have:=m.out;rw[ax]<;>omega
   have gt:cf .u32 ((D:Int)+kn)=(D+kn:Nat):=by have:=m.out;rw[cM _ af af];omega
   have wF:cf Mm ((F:Int)+5)=(F+5:Nat):=by have:=m.out;have:=S.out;rw[ax]<;>omega
   have wk:cf Mm ((k:Int)+1)=(k+1:Nat):=by have:=S.out;rw[ax]<;>omega
   clear s VW hk f;go_wp2_with fail;go_call X.out as e w4⟨d4,o4,L4,rfl,fZ,-,amv⟩;obtain⟨G,z⟩:=amv bd;rw[m.out.1]at G z;rw[m.out.2.1]at z;have t:Lk (rX w1 w3 w4 pb db n o2 o4 d2 d4 L4 V l (k+1)):=ae (Z.out.next fZ G z);have am:=ae (Z9 G);obtain⟨-,-,-,-,-,s4,-⟩:=R.out _ _ _ _ t.out.mv;have Za:=ae (Qs t.out.Bv.held.kept (by rw[t.out.full.len];have:=S.out;omega));unfold ptrTo at Za;clear fZ amv G z bd X Z;go_wp2_with fail;go_call Za.out as e w5⟨v5,l5,rfl,ahw,S7,kR,VH,-,amw,Py⟩;have H:=ae (t.out.below kR);have FE:Lk (∀q∈Cj (b8 V l k) k,q.1∈l5.map (·.1)/\∀p∈l5,p.1=q.1->p.2.2=q.2):=ae (λq N=>by obtain⟨ps,h1,h2⟩:=am.out q N;exact⟨(amw q.1).2 (by rw[h1];rfl),λp hp e=>by rw[h2,<- e];exact S7.told Py hp (by rw[e];exact h1)⟩)
   have C:Lk (l5.length=F+5/\F+5<=1000):=ae ⟨by rw[VH,t.out.full.len];have:=m.out.2.2.2;omega,NE m.out.2.2.2 E.out S.out⟩;have Ur:=ae ahw;obtain⟨g5,c5,rfl⟩:=qX ahw.row (Nm C.out);have P5:=C.out.1;rw[P5];obtain⟨s0,q0,q1,q2,q3,q4,q5⟩:=R.out _ _ _ _ H.out.mv;have B:=ae (al.out _ s0);have CX:(k:Int)<M:=Nm E.out;dsimp only[Slc.v]at q0 q1 q2 q3 q4 q5 B;unfold nY at B;clear ahw S7 kR VH amw Py Za s4 am t s0 P5 al;go_wp2_with fail;go_call B.out as e w6⟨fv,lf,rfl,ahx,aad,amx,Cr⟩;have co:lf.length=5:=by have:=congrArg List.length aad;rw[List.length_map]at this;exact this
   have oz:=ae (H.out.below Cr);have SE:=ae (Ur.out.below Cr);obtain⟨f6,c6,rfl⟩:=qX ahx af;have A:Lk (∀(i:Nat),i<5->∃p:kL,w6.cell? ⟨f6,i*2,KK⟩=IT (.string p.1)/\w6.cell? ⟨f6,i*2+1,KK⟩=IT p.2.1/\K1 prog 10 #[.slice (IT ⟨g5,0,KK⟩) l5.length c5,.string p.1] w6 (sQ w6 l5 p.1)/\∀q∈l5,q.1=p.1->K1 prog 11 #[q.2.1,p.2.1] w6 λe w'=>e=Mk (.bool Jd)/\w6=w'):=ae (λi hi=>by
    obtain⟨p,hp⟩:∃p,lf[i]? = IT p:=⟨_,bk af⟩;have O:=List.mem_of_getElem? hp;obtain⟨t1,t2⟩:=FE.out (p.1,p.2.2) (by rw[<- aad];exact List.mem_map.2 ⟨p,O,rfl⟩);obtain⟨e1,e2⟩:=NA hp;have hc:∀(j:Nat)(u:J3),(tM lf)[j]? = IT u->w6.cell? ⟨f6,j,KK⟩=IT u:=λj u hj=>by have:=World.ownsRow.cells ahx (g:=f6) rfl j u hj;rwa [br,Nat.zero_add]at this
    refine⟨p,hc _ _ e1,hc _ _ e2,K6 SE.out (Nm C.out) p.1 t1,λq N e=>?_⟩;have h1:=fp (SE.out.each q N);rw[t2 q N e]at h1;exact Kj h1 (amx p O).rd)
   rw[C.out.1]at A;rw[co];clear ahx aad amx Cr B co H Ur FE q0 q1 q2 q3 q4 q5 CX;unfold sQ at A;go_wp2_with fail;go_loopw [15] (λvi W=>∃i:Nat,vi=i/\i<=5/\W=w6) (λvi _=>5-(Lo vi).toNat)
   case atStart=>exact⟨0,rfl,ag,rfl⟩
   case round=>
    obtain⟨i,rfl,hi,rfl⟩:=hrel;by_cases R4:i<5
    .have el:(i:Int)<5:=af;have wi:cf Mm ((i:Int)+1)=(i+1:Nat):=by rw[ax]<;>omega
     obtain⟨p,p0,p1,de,ci⟩:=A.out i R4;have eS:=ae ci;have ee:=ae de;have HI:=ae R4;obtain⟨nm,bv,bs⟩:=p;clear hi R4 de ci;go_wp2_with fail;go_call ee.out as e w7⟨q,N,hqn,rfl,rfl⟩;have HQ:=ae (eS.out q N hqn);clear N hqn;go_wp2_with fail;go_call HQ.out as e w8⟨rfl,rfl⟩;go_wp2;exact⟨⟨i+1,rfl,HI.out,trivial⟩,Xd HI.out⟩
    .have el:¬(i:Int)<5:=af;have CP:=ae (RH oz.out.Bv.held.kept.l6 (oz.out.Bv.held.kept.tight oz.out.full.all));unfold ptrTo at CP;clear hi R4 A SE;go_wp2_with fail;go_call CP.out as e w7⟨rfl,xH⟩;have nu:=ae (oz.out.below xH);clear xH CP oz;go_wp2;exact⟨⟨k+1,o4,d4,L4,congrArg (tb .u32) (by rw[m.out.1,m.out.2.1];rfl),congrArg (tb Mm) (Nm m.out.2.2.2),rfl,E.out,nu⟩,Xd E.out⟩
  .have qO:¬(k:Int)<M:=af;obtain rfl:k=M:=af
   have K7:KN=0:=by rw[m.out.2.1,(GQ.out k).2 Q.out.2.1];rfl
   subst K7;have dq:Lk (D=V):=ae (m.out.1.trans Q.out.2.1);clear hk f;go_wp2_with fail;go_call X.out as e w4⟨d4,o4,L4,rfl,fZ,hL4,-⟩;obtain rfl:=hL4 ((GQ.out k).2 Q.out.2.1);have t:=ae (Z.out.moved fZ);have I6:=ae (aac t.out.Bv.held.bh);unfold OJ ptrTo at I6;clear fZ hL4 X Z;go_wp2_with fail;go_call I6.out as e w5⟨mf,hmf,rfl,kR⟩;have H:=ae (t.out.below kR);have rF:=ae (Qi H.out.Bv.held.kept (by rw[H.out.full.len];have:=S.out;omega));rw[H.out.full.len,<- m.out.2.2.2]at rF;have wD:cf Mm (D:Int)=D:=by have:=m.out;rw[ax]<;>omega
   have gx:((D:Int) == V)=true:=by rw[dq.out];simp
   have en:(mf:Int)<=n:=af;have fI:decide ((mf:Int)<=n)=true:=decide_eq_true en;unfold ptrTo at rF;clear kR I6 t hmf;go_wp2_with fail;go_call rF.out as e w6⟨a6,c6,rfl,hk6⟩;have ew:=ae (js hk6.bh);have mo:=ae (HT.out _ _ cD.out hk6.below);unfold ptrTo at ew;clear hk6 rF H;go_wp2_with fail;go_call ew.out as e w7⟨rfl,rfl⟩;go_wp2_with fail;go_call(dl.out _) as e w8⟨rfl,vF⟩;have HQ:=ae (HP.out _ (HT.out _ _ mo.out vF));clear vF ew;go_wp2;exact HQ.out
end Go.Proofs.YtofigggbapdfhaaGreatDoor
namespace Go.Proofs.YtofigggbapdfhaaGreatDoor.ContractRounds
open Go.Proofs.Tryz
open Go.ChangeShapes Go.WideShapes Go.ChangeAt Go.RowKit Go.Joins
theorem closed:joinedFacts Tryz.pinned.checked.prog 3 Tryz.f3 (OpenSpec.ofChange Rows.contractRoundsSpec).bare Rows.contractRoundsRow=true:=by
 unfold joinedFacts;repeat' with_reducible apply anZ
 all_goals as_aux_lemma=>kernel_rfl
end Go.Proofs.YtofigggbapdfhaaGreatDoor.ContractRounds
