/-
  Joined.
-/
import Derived.Test.YtofigggbapdfhaaGreatDoorR07
set_option maxRecDepth 100000
set_option maxHeartbeats 64000000
open Option renaming some->IT,none->KK
open Bool renaming true->Jd,false->J0
open List renaming getElem?_eq_getElem->bk,mem_of_getElem?->cx,length_map->dj,length_append->eh,replicate->ei,length_take->et,take_of_length_le->ey,mem_map->gl,take_succ_cons->ii,eq_nil_of_length_eq_zero->jJ,take_zero->j2,mem_range->j3,range->kk,length_filter_le->kq,length_filterMap_le->kt,length_set->k9,length_singleton->lr,append_nil->nw,drop_succ_cons->ot,append_assoc->o0,ext_getElem?->p5,drop_zero->qd,mem_cons->qk,not_mem_nil->tl,filter_append->yk,foldl_append->B1,getElem?_append_left->FD,length_pos_iff->If
open Nat renaming le_refl->cg,le_trans->cp,lt_of_lt_of_le->eg,zero_le->em,lt_or_ge->lb,not_lt_zero->Dc
open UInt32 renaming ofNat->h9,toNat_ofNat'->n9,lt_iff_toNat_lt->F2
namespace Go.Proofs.YtofigggbapdfhaaGreatDoor
open Go.RowKit Go.Maps Go.MapKept
open Go.Proofs.Tryz
open Go renaming World->KX,Value->J3,Calls->K1,Ending->Lp,heap_alloc_new->Lw
open Go.RowKit renaming Below->Lg,Hid->Lk,intOf->Lo
open Go.Value renaming int->Kx,agg->LV
open Go.Obj renaming cells->Mi
open Go.Ending renaming returned->Mk
open Go.IntKind renaming i64->Mm,u32->Mo,u64->MJ
open Go.IntKind renaming wrap->cf
open Go.RowKit.Below renaming heap_setCell->e8,refl->kp
open Go.Value renaming slice->fz
open Go.World renaming ownsRow_nil->gp,block_lt_of_cell?->jK
variable {ops:Array Oper}{f:Oper}{Q:Exit->Act->KX->Prop}{w':KX}{L':aL}{o':ay}{d':Dsk}{α β:Type}{u p:J3}{xs:List J3}{q:Array J3}
def zV(w:KX)(r:Rg)(gen:Nat)(e:Lp)(w':KX):Prop:=
 ∃gv hv uv dv a d c,e=Mk (LV #[gv,hv,uv,dv,.slice a r.ch.length d,Kx Mm c])/\gR w' gv (aH J0 r.raw)/\xV w' hv (r.V0 gen)/\gR w' uv (rh r.es r.ch)/\gR w' dv (dU r.es r.ch)/\Lg w w w'/\∀x∈[gv,hv,uv,dv],∀b,x.ownBlock=IT b->w.heap.size<=b
def KZ(c j V:Nat)(b d a:J3)(O:List aJ):Nat->J3->KX->Prop
 |0,v,_=>v=.pointer (IT ⟨c,j,KK⟩)
 |1,v,_=>v=a
 |2,v,_=>v=LV #[b,d]
 |3,v,_=>v=Kx Mo V
 |_+4,v,W=>gR W v O
theorem I3{c j V:Nat}{b d a:J3}{O:List aJ}(i:Nat)(v:J3)(w w':KX)(e:Lg w w w')(h:KZ c j V b d a O i v w):KZ c j V b d a O i v w':=by
 match i,h with
 |0,h=>exact h
 |1,h=>exact h
 |2,h=>exact h
 |3,h=>exact h
 |_+4,h=>exact gR.below h e
theorem lI{w:KX}{rest:List Oper}{a:Act}(g:f.guard=KK)(s x:Operand)(o:f.op=.call { callee:=.builtin .append,args:=#[s,x],argTypes:=#[22,22] })(base:Nat)(v:J3)(l:List aJ)(p:a.eval s=v)(e:aG w base v l)(u:J3)(es:List aJ)(n:a.eval x=u)(j:gR w u es)(m:l.length+es.length<=100000)(b:base<=w.heap.size)(k:∀d c w',aG w' base (.slice d (l++es).length c) (l++es)->gP v w w' (.slice d (l++es).length c)->wpList prog ops Q rest (a.put f.dst (.slice d (l++es).length c)) w'):wpList prog ops Q (f::rest) a w:=
 gL g s x o base v l p e u es n j m b λv' w' h i=>by obtain⟨d,c,rfl⟩:=aw h;exact k d c w' h i
noncomputable def rW(es:List aJ)(was:List bZ)(done gen:Nat)(ch:List Nat)(j:Nat):List bZ:=(ch.take j).zipIdx.foldl (λvs p=>gq es was done gen vs p.2 p.1) was
section
variable {es:List aJ}{was:List bZ}{done gen j v:Nat}{ch:List Nat}
theorem RF(h:ch[j]? = IT v):rW es was done gen ch (j+1)=gq es was done gen (rW es was done gen ch j) j v:=by unfold rW;have a:=aK h;rw[take_one h,List.zipIdx_append,B1,et,show min j ch.length=j by omega];simp
theorem K0:(rW es was done gen ch j).length=was.length:=zK _ 0 was
theorem RG{lv:UInt32}{l:List Nat}{k w:Nat}(h:l[k]? = IT w)(vs:List bZ):(l.take (k+1)).foldl (eX lv) vs=eX lv ((l.take k).foldl (eX lv) vs) w:=by rw[take_one h,B1];rfl
theorem Z6{lv:UInt32}{vs:List bZ}{w:Nat}{x:bZ}(h:vs[w]? = IT x):((cz vs).set (w*3+2) ((x.g+1:UInt32):J3)).set (w*3+1) (((if x.l<lv then lv else x.l):UInt32):J3)=cz (eX lv vs w):=by
 have e:eX lv vs w=(vs.set w ⟨x.r,x.l,x.g+1⟩).set w ⟨x.r,if x.l<lv then lv else x.l,x.g+1⟩:=by unfold eX;apply p5;intro i;rw[List.getElem?_modify];grind
 have b:=aK h;have a:(vs.set w ⟨x.r,x.l,x.g+1⟩)[w]? = IT ⟨x.r,x.l,x.g+1⟩:=by simp[b]
 rw[qA (x.g+1) h,qy _ a,e]
end
theorem ag1{W:KX}{b:Nat}{t:TypeId}{f c1 c2 c3 c4 c5:J3}(v0 e v2 v3 v4 v5:J3)(h:W.heap[b]? = IT (Mi #[f,c1,c2,c3,c4,c5] t)) :
 ∀T,T=((((((W.setCell ⟨b,0,KK⟩ v0).setCell ⟨b,1,KK⟩ e).setCell ⟨b,2,KK⟩ v2).setCell ⟨b,3,KK⟩ v3).setCell ⟨b,4,KK⟩ v4).setCell ⟨b,5,KK⟩ v5)->T.heap[b]? = IT (Mi #[v0,e,v2,v3,v4,v5] t)/\(∀k,k≠b->T.heap[k]? = W.heap[k]?)/\∀(B:Nat)(a:KX),B<=b->Lg B a W->Lg B a T:=by
 rintro T rfl;refine⟨?_,λk d=>?_,λB a c h=>(((((h.setCell c _).setCell c _).setCell c _).setCell c _).setCell c _).setCell c _⟩
 .rw[aS (aS (aS (aS (aS (aS h 0 v0) 1 e) 2 v2) 3 v3) 4 v4) 5 v5];rfl
 .rw[e8 _ _ _ _ (show k≠b from d),e8 _ _ _ _ (show k≠b from d),e8 _ _ _ _ (show k≠b from d),e8 _ _ _ _ (show k≠b from d),e8 _ _ _ _ (show k≠b from d),e8 _ _ _ _ (show k≠b from d)]
section
variable {w:KX}{es:List aJ}{vs:List bZ}{gv hv:J3}
theorem OG(h:tG w gv hv es vs)(h0:0<vs.length)(gen done:Nat)(hg:gen<1000)(hd:done<1000)(zA:(gB es (aP es vs)).length<=2400):K1 prog 21 #[LV #[gv,hv],gen,Kx Mo done] w (zV w ⟨done,es,vs⟩ gen):=by
 obtain⟨s,p,rfl,-⟩:=id h.e;obtain⟨r,n,rfl,-⟩:=id h.v;have H:=ae h;obtain⟨E,hE⟩:=ac es.length;obtain⟨N,hN⟩:=ac vs.length;obtain⟨CH,SK⟩:=ac (aP es vs);have xz:=ae (eL h.e).2;have AT:=ae (A9 h.v).2;have X:Lk (N=vs.length/\N<=24/\0<N/\E=es.length/\E<=600):=ae ⟨hN,Nm h.l2,af,hE,Nm h.l1⟩;have Q7:Lk (CH.length<=24/\∀v∈CH,v<N):=ae (by
  have de:∀v∈CH,v<N:=λv hv=>by rw[hN];rw[SK]at hv;exact kN hv
  refine⟨?_,de⟩;have A:=lz (l₁:=CH) (l₂:=kk N) (by rw[SK];exact(jy es vs).imp λh=>Nat.ne_of_lt h) (λv hv=>j3.2 (de v hv));rw[List.length_range]at A;have:=h.l2;omega)
 have O5:Lk (gen<1000/\done<1000):=ae ⟨hg,hd⟩;rw[<- SK]at zA;have yT:=ae zA;obtain⟨kd,hP⟩:=ac (zV w ⟨done,es,vs⟩ gen);have HP:Lk (∀w' gv hv uv dv G d c,gR w' gv (aH J0 (gB es CH))->xV w' hv (dE es vs done gen CH)->gR w' uv (rh es CH)->gR w' dv (dU es CH)->Lg w w w'->(∀x∈[gv,hv,uv,dv],∀b,x.ownBlock=IT b->w.heap.size<=b)->kd (Mk (LV #[gv,hv,uv,dv,.slice G CH.length d,Kx Mm c])) w'):=ae (by rw[hP,SK];exact λw' gv hv uv dv G d c A Z h3 h4 h5 h6=>⟨gv,hv,uv,dv,G,d,c,rfl,A,Z,h3,h4,h5,h6⟩)
 rw[<- hE,<- hN]at H ⊢;rw[show zV w ⟨done,es,vs⟩ gen=kd from hP.symm];have Lf:Lk (tG w (.slice s E p) (.slice r N n) es vs):=H;have co:=ae (λW(hW:Lg w w W)=>KW (H.out.below hW));rw[<- SK]at co;obtain⟨W0,mw⟩:=ac ((w.alloc (Mi #[.slice s E p,.slice r N n] 39)).alloc (Mi #[.slice KK 0 0,.slice KK 0 0,.slice KK 0 0,.slice KK 0 0,.slice KK 0 0,Kx Mm 0] 42));obtain⟨bb,r9⟩:=ac w.heap.size;obtain⟨rb,Fl⟩:=ac (bb+1);have Z7:Lk (Lg w w W0/\W0.heap[bb]? = IT (Mi #[.slice s E p,.slice r N n] 39)/\W0.heap[rb]? = IT (Mi #[.slice KK 0 0,.slice KK 0 0,.slice KK 0 0,.slice KK 0 0,.slice KK 0 0,Kx Mm 0] 42)/\w.heap.size<=bb):=ae (by
  have e:(w.alloc (Mi #[.slice s E p,.slice r N n] 39)).heap.size=rb:=by rw[Fl,r9];simp
  rw[mw,r9];refine⟨aj.alloc ai _,?_,?_,cg _⟩
  .rw[(MapKept.heap_alloc _ _).2 _ ai];exact Lw _ _
  .rw[<- e];exact Lw _ _)
 have ZI:Lk (w.heap.size<=rb):=ae (by rw[Fl,r9];omega);clear h h0 hE hN SK hP hg hd H zA;go_enter func21,ntmps21;go_upto_region 1 with fail
 rw[<- mw,<- r9];rw[<- Fl];clear mw r9 Fl;have c0:W0.cell? bb=IT (.slice s E p):=by rw[au Z7.out.2.1];rfl
 have c1:W0.cell? ⟨bb,1,KK⟩=IT (.slice r N n):=by rw[au Z7.out.2.1];rfl
 have pt:=ae (co.out W0 Z7.out.1);go_wp2_with fail;go_call pt.out as e W1⟨OE,rfl,hch,hb1⟩;obtain⟨G,d,rfl⟩:=aw hch;obtain⟨K,hK⟩:=ac CH.length;obtain⟨Q,ff⟩:=ac (W1.alloc (Mi #[.slice KK 0 0,.slice KK 0 0,.slice KK 0 0,.slice KK 0 0,.slice G K d,Kx Mm 0] 42));obtain⟨sb,zi⟩:=ac W1.heap.size;have HK:Lk (K=CH.length/\K<=24):=ae ⟨hK,Nm Q7.out.1⟩;have Gw:Lk (Lg w w Q/\Q.heap[bb]? = IT (Mi #[.slice s E p,.slice r N n] 39)/\Q.heap[rb]? = IT (Mi #[.slice KK 0 0,.slice KK 0 0,.slice KK 0 0,.slice KK 0 0,.slice KK 0 0,Kx Mm 0] 42)/\Q.heap[sb]? = IT (Mi #[.slice KK 0 0,.slice KK 0 0,.slice KK 0 0,.slice KK 0 0,.slice G K d,Kx Mm 0] 42)/\aT Q w.heap.size (.slice G K d) CH/\w.heap.size<=bb/\w.heap.size<=sb/\rb≠sb):=ae (by
  have tc:Lg W1 W1 Q:=by rw[ff];exact aq.alloc (cg _) _
  have ks:=hb1.trans (tc.mono hb1.size);have l1:=bD Z7.out.2.1;have l2:=bD Z7.out.2.2.1;have s1:=hb1.size;have s0:=Z7.out.1.size;refine⟨Z7.out.1.trans (ks.mono s0),(ks.block _ l1).trans Z7.out.2.1,(ks.block _ l2).trans Z7.out.2.2.1,by rw[ff,zi];exact Lw _ _,?_,Z7.out.2.2.2,af,af⟩;rw[<- hK]at hch;exact aQ (aB hch tc) s0)
 clear hch hb1 co pt c0 c1 Z7;go_upto_region 3 with fail
 rw[<- hK,<- ff,<- zi];clear ff zi hK;have ti:Lk (∀W,Lg Q Q W->W.cell? bb=IT (.slice s E p)/\W.cell? ⟨bb,1,KK⟩=IT (.slice r N n)/\aT W 0 (.slice G K d) CH):=ae (λW hW=>by have hx:=(hW.block _ (bD Gw.out.2.1)).trans Gw.out.2.1;exact⟨by rw[au hx];rfl,by rw[au hx];rfl,aQ (aB Gw.out.2.2.2.2.1 hW) (em _)⟩)
 obtain⟨KP,nl⟩:∃f:aJ->Bool,f=λx=>decide (x.t.toNat ∉ CH/\x.h.toNat ∉ CH):=⟨_,rfl⟩;have FX:Lk (∀x,KP x=decide (x.t.toNat ∉ CH/\x.h.toNat ∉ CH)):=ae (λx=>by rw[nl]);have vm:Lk (es.filter KP=fe es CH):=ae (by unfold fe;rw[Lf.out.zo,nl]);clear nl;go_wp2_with fail;go_loopw [9,10] (λrv iv W=>∃i:Nat,iv=i/\i<=E/\Lk (aG W Q.heap.size rv ((es.take i).filter KP)/\Lg Q Q W)) (λ_ iv _=>E-(Lo iv).toNat)
 case atStart=>exact⟨0,rfl,em _,ae ⟨gp _ _ _ _,kp _ _⟩⟩
 case round=>
  generalize u9=rv at *;generalize wr=P at *;obtain⟨i,rfl,hi,HX⟩:=hrel;obtain⟨c0,c1,ke⟩:=ti.out P HX.out.2;have ke:=ae ke;by_cases de:i<E
  .have qO:(i:Int)<E:=af;have wi:cf Mm ((i:Int)+1)=(i+1:Nat):=by have:=X.out;rw[ax]<;>omega
   obtain⟨x,hx⟩:∃x,es[i]? = IT x:=⟨_,bk (Nm X.out)⟩;obtain⟨eb,eo,rfl,e0,e1,e2,e3⟩:=xz.out P (Gw.out.1.trans (HX.out.2.mono Gw.out.1.size)) i x hx;have nT:Lk ((es.take (i+1)).filter KP=(es.take i).filter KP++if KP x=Jd then [x] else []):=ae (by rw[im hx,yk];by_cases e:KP x=Jd<;>simp[e]);have tr:Lk (KP x=J0->(es.take (i+1)).filter KP=(es.take i).filter KP):=ae (λe=>by rw[nT.out,if_neg (by rw[e];decide),nw]);have rU:=ae de;have kl:=ae (FX.out x);have rt:Lk (((es.take i).filter KP).length<=100000/\Q.heap.size<=P.heap.size):=ae ⟨by refine cp (kq _ _) ?_;rw[et];have:=X.out;omega,HX.out.2.size⟩;have du:=ae (λv=>Bu ke.out (Nm HK.out) v);clear hx de hi;go_wp2_with fail;go_call(du.out x.t.toNat) as e W4⟨rfl,rfl⟩;by_cases g1:x.t.toNat∈CH
   .as_aux_lemma=>have HQ:=ae (tr.out (by rw[kl.out];exact decide_eq_false λh=>h.1 g1));rw[decide_eq_true g1];clear g1 du;go_wp2;exact⟨⟨i+1,rfl,rU.out,ae (by rw[HQ.out];exact HX.out)⟩,Xd rU.out⟩
   rw[decide_eq_false g1];have K9:=ae g1;clear g1;go_wp2_with fail;go_call(du.out x.h.toNat) as e W5⟨rfl,rfl⟩;by_cases g2:x.h.toNat∈CH
   .as_aux_lemma=>have HQ:=ae (tr.out (by rw[kl.out];exact decide_eq_false λh=>h.2 g2));rw[decide_eq_true g2];clear g2 du;go_wp2;exact⟨⟨i+1,rfl,rU.out,ae (by rw[HQ.out];exact HX.out)⟩,Xd rU.out⟩
   rw[decide_eq_false g2];have HQ:Lk ((es.take (i+1)).filter KP=(es.take i).filter KP++[x]):=ae (by rw[nT.out,if_pos (by rw[kl.out];exact decide_eq_true ⟨K9.out,g2⟩)]);clear g2 du;go_wp2_with (at_builtin;refine bR rfl _ _ rfl Q.heap.size _ _ rfl HX.out.1 x 1 rfl rt.out.1 rt.out.2 ?_);intro v6 w6 pm uB;have oz:Lk (aG w6 Q.heap.size v6 ((es.take (i+1)).filter KP)/\Lg Q Q w6):=ae ⟨by rw[HQ.out];exact pm,(bH (HX.out.2.alloc HX.out.2.size _) (λy hy=>aD HX.out.1 y hy) uB).1⟩;clear pm uB e0 e1 e2 e3 c0 c1;go_wp2;exact⟨⟨i+1,rfl,rU.out,oz⟩,Xd rU.out⟩
  .have qO:¬(i:Int)<E:=af;have uT:Lk (aG P Q.heap.size rv (fe es CH)):=ae (by have:=HX.out.1;rwa [ey (Nm X.out),vm.out]at this)
   have gU:=ae HX.out.2;have CR:=ae ((Lf.out.v.below Gw.out.1).below gU.out);have qS:vs.length<=100000:=Nm X.out;have m8:bb<P.heap.size:=jK _ _ c0;have OS:Lk (dr (P.alloc (Mi #[] 110)) w.heap.size (.slice P.heap.size 0 0) []/\xV (P.alloc (Mi #[] 110)) (.slice r N n) vs/\w.heap.size<=(P.alloc (Mi #[] 110)).heap.size/\Lg P P (P.alloc (Mi #[] 110))):=ae (by have D:Lg P P (P.alloc (Mi #[] 110)):=aq.alloc (cg _) _;have hz:w.heap.size<=P.heap.size:=cp Gw.out.1.size gU.out.size;exact⟨aQ (tE P 110 3) hz,CR.out.below D,cp hz D.size,D⟩)
   have BC:=ae qS;clear de hi HX qS;go_wp2_with (at_builtin;refine zU rfl _ _ rfl w.heap.size _ [] rfl OS.out.1 (.slice r N n) vs rfl OS.out.2.1 (by have:=BC.out;simp;omega) OS.out.2.2.1 ?_);intro v5 w5 JU J6;try rw[List.nil_append]at JU
   obtain⟨g,vk,rfl⟩:∃g k,v5=.slice (IT ⟨g,0,KK⟩) N k:=by
    obtain⟨-,⟨-,e⟩|⟨g,k,_,e,_⟩⟩:=id JU
    .have:=X.out;omega
    .exact⟨g,k,by rw[X.out.1];exact e⟩
   have uY:Lk (Lg P P w5):=ae (bH OS.out.2.2.2 (λy hy=>by cases hy;exact cg _) J6).1;have OT:=ae JU;have e0:w5.cell? bb=IT (.slice s E p):=bq uY.out c0;clear JU J6 m8 c0 c1 OS;obtain⟨W6,nF⟩:=ac (w5.alloc (Mi #[.slice s E p,.slice KK 0 0,.slice G K d] 124));obtain⟨nb,OM⟩:=ac w5.heap.size;have mo:Lk (Lg w5 w5 W6/\W6.heap[nb]? = IT (Mi #[.slice s E p,.slice KK 0 0,.slice G K d] 124)):=ae (by rw[nF,OM];exact⟨aq.alloc (cg _) _,Lw _ _⟩);have sC:=ae OM;go_upto_region 11 with fail
   rw[<- nF,<- OM];clear nF OM e0;have iF:Lk (jQ w W6 bb rb sb nb g vk #[.slice KK 0 0,.slice KK 0 0,.slice KK 0 0,.slice KK 0 0,.slice G K d,Kx Mm 0] (.slice s E p) (.slice r N n) (.slice G K d) rv (.slice KK 0 0) (.slice KK 0 0) CH (fe es CH) [] [] vs):=ae (by
    obtain⟨q1,q2,q3,q4,q5,q6,q7,q8⟩:=Gw.out;have ph:Lg P P W6:=uY.out.trans (mo.out.1.mono uY.out.size);have lP:Lg Q Q W6:=gU.out.trans (ph.mono gU.out.size);have hk:∀{b:Nat}{o:Obj},Q.heap[b]? = IT o->W6.heap[b]? = IT o:=λh=>(lP.block _ (bD h)).trans h;have hz:=q1.size;refine⟨q1.trans (lP.mono hz),hk q2,hk q4,mo.out.2,aB q5 lP,aQ (aB uT.out ph) hz,gp _ _ _ _,gp _ _ _ _,?_,(λb _=>⟨(λe=>nomatch e),λe=>nomatch e⟩),(λb e=>nomatch e),⟨q6,q7,?_⟩,hk q3,q8⟩
    .have:=aB OT.out mo.out.1;rw[X.out.1]at this;exact this
    .rw[sC.out];exact cp hz (cp gU.out.size uY.out.size))
   clear Gw gU uT CR uY OT mo sC ti FX vm;have AC:Lk (∀j,(rW es vs done gen CH j).length=N):=ae (λj=>by rw[K0,X.out.1]);have el:=ae (λW(hW:Lg w w W)=>Lf.out.below hW);go_wp2_with fail;go_loopw [9,13] (λrv jv W=>∃(j:Nat)(uv dv:J3)(c:Int),jv=j/\j<=K/\Lk (jQ w W bb rb sb nb g vk #[.slice KK 0 0,.slice KK 0 0,uv,dv,.slice G K d,Kx Mm c] (.slice s E p) (.slice r N n) (.slice G K d) rv uv dv CH (fe es CH++(CH.take j).flatMap (eK es CH)) ((CH.take j).flatMap (aY es)) ((CH.take j).flatMap (eD es)) (rW es vs done gen CH j))) (λ_ jv _=>K-(Lo jv).toNat)
   case atStart=>exact⟨0,_,_,0,rfl,em _,ae (by rw[j2,List.flatMap_nil,nw];exact iF.out)⟩
   case round=>
    generalize u9=rv at *;generalize wr=W7 at *;obtain⟨j,uv,dv,c,rfl,hj,HX⟩:=hrel;clear iF;by_cases mT:j<K
    .have CV:(j:Int)<K:=af;have wj:cf Mm ((j:Int)+1)=(j+1:Nat):=by have:=HK.out;rw[ax]<;>omega
     obtain⟨v,hv⟩:∃v,CH[j]? = IT v:=⟨_,bk (Nm HK.out)⟩;have JP:Lk (v<N):=ae (Q7.out.2 v (cx hv));obtain⟨V,hV⟩:=ac (h9 v);have HV:Lk (V.toNat=v/\V=h9 v):=ae ⟨by rw[hV,n9];have:=JP.out;have:=X.out;omega,hV⟩;have RP:Lk ((CH.take (j+1)).flatMap (eK es CH)=(CH.take j).flatMap (eK es CH)++eK es CH v/\(CH.take (j+1)).flatMap (aY es)=(CH.take j).flatMap (aY es)++aY es v/\(CH.take (j+1)).flatMap (eD es)=(CH.take j).flatMap (eD es)++eD es v/\rW es vs done gen CH (j+1)=gq es vs done gen (rW es vs done gen CH j) j v):=ae (by refine⟨?_,?_,?_,RF hv⟩<;>(rw[take_one hv,List.flatMap_append];simp))
     have Iq:=ae mT;have en:Lk ((fe es CH++(CH.take j).flatMap (eK es CH)).length+(eK es CH v).length<=100000/\((CH.take j).flatMap (aY es)).length+(aY es v).length<=100000/\((CH.take j).flatMap (eD es)).length+(eD es v).length<=100000):=ae (by
      have hd:∀k,(aY es k).length<=24/\(eD es k).length<=24:=λk=>by have A:=Lf.out.deg k;rw[(Lf.out.out k).1,(Lf.out.out k).2]at A;exact⟨A.1,A.2.1⟩
      have hcut:∀k∈CH,(eK es CH k).length<=576:=λk hk=>by
       have By:(h9 k).toNat=k:=by rw[n9];have:=Q7.out.2 k hk;have:=X.out;omega
       unfold eK ju;refine cp (pC (m:=24) λa _=>cp (kt _ _) (by rw[By];exact(hd k).1)) ?_;have:=(hd k).2;omega
      have hm:∀k∈CH.take j,k∈CH:=λk hk=>List.mem_of_mem_take hk;have A:=pC (l:=CH.take j) (f:=eK es CH) (m:=576) λk hk=>hcut k (hm k hk);have Z:=pC (l:=CH.take j) (f:=aY es) (m:=24) λk _=>(hd k).1;have h3:=pC (l:=CH.take j) (f:=eD es) (m:=24) λk _=>(hd k).2;have h4:(fe es CH).length<=600:=by unfold fe;refine cp (kq _ _) ?_;rw[Lf.out.zo];exact Lf.out.l1
      have h5:=hcut v (cx hv);have:=hd v;have:=Q7.out.1;rw[et]at A Z h3;rw[eh];omega)
     obtain⟨Rj,i7⟩:=ac (fe es CH++(CH.take j).flatMap (eK es CH));obtain⟨Uj,gt⟩:=ac ((CH.take j).flatMap (aY es));obtain⟨Dj,fI⟩:=ac ((CH.take j).flatMap (eD es));obtain⟨Vj,ee⟩:=ac (rW es vs done gen CH j);have pu:Lk (Vj.length=N):=ae (by rw[ee];exact AC.out j);have mE:Lk (fe es CH++(CH.take (j+1)).flatMap (eK es CH)=Rj++eK es CH v/\(CH.take (j+1)).flatMap (aY es)=Uj++aY es v/\(CH.take (j+1)).flatMap (eD es)=Dj++eD es v/\rW es vs done gen CH (j+1)=gq es vs done gen Vj j v):=ae (by obtain⟨q1,q2,q3,q4⟩:=RP.out;exact⟨by rw[q1,i7,o0],by rw[q2,gt],by rw[q3,fI],by rw[q4,ee]⟩)
     rw[<- i7,<- gt,<- fI,<- ee]at HX;rw[<- i7,<- gt,<- fI]at en;obtain⟨S,rfl,k0⟩:=(mB (aQ HX.out.ch (em _))).2 W7 aq j v hv;have AI:Lk (∀(k x:Nat),CH[k]? = IT x->True):=ae (λ_ _ _=>trivial);clear hv hj mT hV i7 gt fI ee RP AI;go_upto_region 15 with fail
     clear k0;have Bs:Lk (∀W,Lg w w W->K1 prog 50 #[LV #[.slice s E p,.slice r N n],Kx Mo v] W (mS W (aY es v))):=ae (λW hW=>by have:=QL (.slice s E p) (.slice r N n) es v W (el.out W hW).e (Nm X.out);rwa [(Lf.out.out v).1]at this)
     have yW:Lk (∀W,Lg w w W->K1 prog 51 #[LV #[.slice s E p,.slice r N n],Kx Mo v] W (mS W (eD es v))):=ae (λW hW=>by have:=UK (.slice s E p) (.slice r N n) es v W (el.out W hW).e (Nm X.out);rwa [(Lf.out.out v).2]at this)
     refine lA (Lg W7 W7) (KZ sb 2 v (.slice s E p) (.slice r N n) uv (aY es v)) 5 ah ah aq.drew (λw1 B A Z=>A.trans (Z.mono A.size)) I3 ?_ ?_
     .intro i o C a t hC dJ;have hX:=HX.out.below hC;match i,C with
      |0,C=>cases C;have h0:=dJ.old 8 rfl rfl;refine⟨rfl,bS (v:=.pointer (IT ⟨sb,2,KK⟩)) (w':=t) ?_ aq rfl⟩;go_simp
      |1,C=>
        cases C;obtain⟨u,Y,rfl⟩:=dJ.get 0 rfl rfl rfl;have c0:t.cell? ⟨sb,2,KK⟩=IT uv:=by rw[au hX.vJ];rfl
        refine⟨rfl,bS (v:=uv) (w':=t) ?_ aq rfl⟩;go_simp
      |2,C=>
        cases C;have h0:=dJ.old 3 rfl rfl;have c0:t.cell? bb=IT (.slice s E p):=by rw[au hX.gen];rfl
        have c1:t.cell? ⟨bb,1,KK⟩=IT (.slice r N n):=by rw[au hX.gen];rfl
        refine⟨rfl,bS (v:=LV #[.slice s E p,.slice r N n]) (w':=t) ?_ aq rfl⟩;go_simp
      |3,C=>cases C;have h0:=dJ.old 14 rfl rfl;refine⟨rfl,bS (v:=Kx Mo v) (w':=t) ?_ aq rfl⟩;go_simp
      |4,C=>
        cases C;obtain⟨u2,T7,rfl⟩:=dJ.get 2 rfl rfl rfl;obtain⟨u3,ww,rfl⟩:=dJ.get 3 rfl rfl rfl;refine⟨rfl,gC (f:=50) (args:=#[LV #[.slice s E p,.slice r N n],Kx Mo v]) ?_ ((Bs.out t hX.bl).mono ?_)⟩
        .go_simp
        .rintro e w'⟨v,rfl,A,Z⟩;exact⟨v,rfl,Z,fG A⟩
      |_+5,C=>cases C
     intro us CE vF aE Y;match us,aE with
     | [u0,u1,u2,u3,u4],_=>
     obtain rfl:=Y 0 u0 rfl;have q1:uv=u1:=(show u1=uv from Y 1 u1 rfl).symm;subst q1;obtain rfl:=Y 2 u2 rfl;obtain rfl:=Y 3 u3 rfl;have oR:=ae (Y 4 u4 rfl);have FZ:=ae (HX.out.below vF);clear Y vF aE;simp only[jt,ii,j2,ot,qd];go_simp;have ol:=FZ.out.bl.size;go_wp2_with (at_builtin;refine lI rfl _ _ rfl w.heap.size _ Uj rfl FZ.out.up u4 (aY es v) rfl oR.out en.out.2.1 ol ?_);intro J M mm li O6;have vI:=ae (FZ.out.amf li O6);generalize At:Uj.length+(aY es v).length=L at *;have d0:mm.cell? ⟨sb,2,KK⟩=IT uv:=by rw[au vI.out.vJ];rfl
     have d1:=aO vI.out.vJ 2;have rx:Lk (jQ w (mm.setCell ⟨sb,2,KK⟩ (.slice J L M)) bb rb sb nb g vk #[.slice KK 0 0,.slice KK 0 0,.slice J L M,dv,.slice (IT ⟨S,0,KK⟩) K d,Kx Mm c] (.slice s E p) (.slice r N n) (.slice (IT ⟨S,0,KK⟩) K d) rv (.slice J L M) dv CH Rj (Uj++aY es v) Dj Vj):=ae (vI.out.Z5 2 _);clear li O6 At vI FZ oR ol;go_upto_region 16 with fail
     generalize mm.setCell ⟨sb,2,KK⟩ (.slice J L M)=W8 at *;clear d0 d1;refine lA (Lg W8 W8) (KZ sb 3 v (.slice s E p) (.slice r N n) dv (eD es v)) 5 ah ah aq.drew (λw1 B A Z=>A.trans (Z.mono A.size)) I3 ?_ ?_
     .intro i o C a t hC dJ;have hX:=rx.out.below hC;match i,C with
      |0,C=>cases C;have h0:=dJ.old 8 rfl rfl;refine⟨rfl,bS (v:=.pointer (IT ⟨sb,3,KK⟩)) (w':=t) ?_ aq rfl⟩;go_simp
      |1,C=>
        cases C;obtain⟨u,Y,rfl⟩:=dJ.get 0 rfl rfl rfl;have c0:t.cell? ⟨sb,3,KK⟩=IT dv:=by rw[au hX.vJ];rfl
        refine⟨rfl,bS (v:=dv) (w':=t) ?_ aq rfl⟩;go_simp
      |2,C=>
        cases C;have h0:=dJ.old 3 rfl rfl;have c0:t.cell? bb=IT (.slice s E p):=by rw[au hX.gen];rfl
        have c1:t.cell? ⟨bb,1,KK⟩=IT (.slice r N n):=by rw[au hX.gen];rfl
        refine⟨rfl,bS (v:=LV #[.slice s E p,.slice r N n]) (w':=t) ?_ aq rfl⟩;go_simp
      |3,C=>cases C;have h0:=dJ.old 14 rfl rfl;refine⟨rfl,bS (v:=Kx Mo v) (w':=t) ?_ aq rfl⟩;go_simp
      |4,C=>
        cases C;obtain⟨u2,T7,rfl⟩:=dJ.get 2 rfl rfl rfl;obtain⟨u3,ww,rfl⟩:=dJ.get 3 rfl rfl rfl;refine⟨rfl,gC (f:=51) (args:=#[LV #[.slice s E p,.slice r N n],Kx Mo v]) ?_ ((yW.out t hX.bl).mono ?_)⟩
        .go_simp
        .rintro e w'⟨v,rfl,A,Z⟩;exact⟨v,rfl,Z,fG A⟩
      |_+5,C=>cases C
     intro us BT J8 aE Y;match us,aE with
     | [u0,u1,u2,u3,u4],_=>
     obtain rfl:=Y 0 u0 rfl;have q1:dv=u1:=(show u1=dv from Y 1 u1 rfl).symm;subst q1;obtain rfl:=Y 2 u2 rfl;obtain rfl:=Y 3 u3 rfl;have sn:=ae (Y 4 u4 rfl);have II:=ae (rx.out.below J8);clear Y J8 aE;simp only[jt,ii,j2,ot,qd];go_simp;have sc:=II.out.bl.size;go_wp2_with (at_builtin;refine lI rfl _ _ rfl w.heap.size _ Dj rfl II.out.dn u4 (eD es v) rfl sn.out en.out.2.2 sc ?_);intro a9 U mu wn tw;have tF:=ae (II.out.amg wn tw);generalize AS:Dj.length+(eD es v).length=R at *;have d0:mu.cell? ⟨sb,3,KK⟩=IT dv:=by rw[au tF.out.vJ];rfl
     have d1:=aO tF.out.vJ 3;have gE:Lk (jQ w (mu.setCell ⟨sb,3,KK⟩ (.slice a9 R U)) bb rb sb nb g vk #[.slice KK 0 0,.slice KK 0 0,.slice J L M,.slice a9 R U,.slice (IT ⟨S,0,KK⟩) K d,Kx Mm c] (.slice s E p) (.slice r N n) (.slice (IT ⟨S,0,KK⟩) K d) rv (.slice J L M) (.slice a9 R U) CH Rj (Uj++aY es v) (Dj++eD es v) Vj):=ae (tF.out.Z5 3 _);clear wn tw AS tF II sn sc;go_upto_region 17 with fail
     generalize mu.setCell ⟨sb,3,KK⟩ (.slice a9 R U)=W9 at *;clear d0 d1;have tX:=ae (Fv (gE.out.amh (el.out W9 gE.out.bl) (Nm Q7.out.1)) (Nm Q7.out.1) V (by rw[HV.out.1];exact(Lf.out.deg v).2.2));have An:Lk (ju (λu=>eJ J0 u es) (λu=>decide (u∈CH)) (eJ Jd V.toNat es) V=eK es CH v):=ae (by unfold eK;rw[HV.out.1,(Lf.out.out v).2,HV.out.2,show(λu=>eJ J0 u es)=aY es from funext λu=>(Lf.out.out u).1])
     rw[An.out,HV.out.1]at tX;unfold ptrTo at tX;go_wp2_with fail;go_call tX.out as e VP⟨cv,rfl,Na,M9⟩;obtain⟨zc,zh,rfl⟩:=aw Na;have io:=ae (gE.out.below M9);have Zr:=ae (fG Na);clear Na M9 tX gE;obtain⟨cn,me⟩:=ac ((eK es CH v).length);rw[<- me]at Zr;rw[<- me];clear me;have ul:=io.out.bl.size;go_wp2_with (at_builtin;refine lI rfl _ _ rfl w.heap.size _ Rj rfl io.out.raw (.slice zc cn zh) (eK es CH v) rfl Zr.out en.out.1 ul ?_);intro al bd lE rm wd;have iS:=ae (io.out.ahq rm wd);generalize AN:Rj.length+(eK es CH v).length=am at *;obtain⟨I,te⟩:=ac (cf Mm (c+cn));have AD:cf Mm (c+(cn:Int))=I:=te.symm;have d0:lE.cell? ⟨sb,5,KK⟩=IT (Kx Mm c):=by rw[au iS.out.vJ];rfl
     have d1:=aO iS.out.vJ 5;have fm:Lk (jQ w (lE.setCell ⟨sb,5,KK⟩ (Kx Mm I)) bb rb sb nb g vk #[.slice KK 0 0,.slice KK 0 0,.slice J L M,.slice a9 R U,.slice (IT ⟨S,0,KK⟩) K d,Kx Mm I] (.slice s E p) (.slice r N n) (.slice (IT ⟨S,0,KK⟩) K d) (.slice al am bd) (.slice J L M) (.slice a9 R U) CH (Rj++eK es CH v) (Uj++aY es v) (Dj++eD es v) Vj):=ae (iS.out.Z5 5 _);clear rm wd AN te io iS Zr ul;go_upto_region 20 with fail
     generalize lE.setCell ⟨sb,5,KK⟩ (Kx Mm I)=qe at *;clear d0 d1 AD;obtain⟨x,hx⟩:∃x,Vj[v]? = IT x:=⟨_,bk (No pu.out JP.out)⟩;obtain⟨y,hy⟩:∃y,vs[v]? = IT y:=⟨_,bk (No X.out JP.out)⟩;obtain⟨ra,nn⟩:=ac (h9 (done+j));obtain⟨la,ld⟩:=ac (h9 (gen+1));have kE:=Iq.out;have zd:cf Mo (j:Int)=j:=cM _ af (Nm HK.out);have yd:cf Mo ((done:Int)+j)=(ra.toNat:Int):=by rw[nn,n9,cM _ af (No O5.out HK.out)];have:=O5.out;have:=HK.out;omega
     have zp:cf Mm ((gen:Int)+1)=(gen+1:Nat):=by have:=O5.out;rw[ax]<;>omega
     have zs:((gen:Int)+1)%4294967296=(la.toNat:Int):=by rw[ld,n9];have:=O5.out;omega
     have wt:(v:Int)<N:=Nm JP.out;have Tz:Lk ((Vj.set v ⟨ra,x.l,x.g⟩)[v]? = IT ⟨ra,x.l,x.g⟩):=ae (by have:=aK hx;simp[this]);have qr:Lk ((Vj.set v ⟨ra,x.l,x.g⟩).set v ⟨ra,la,x.g⟩=Vj.modify v λx=>⟨h9 (done+j),h9 (gen+1),x.g⟩):=ae (by rw[<- nn,<- ld];apply p5;intro i;rw[List.getElem?_modify];have:=aK hx;grind)
     obtain⟨d0,d1,d2⟩:=eY fm.out.F0 hx;have f0:=World.ownsRow.frozenAt fm.out.F0 (v*3);have jj:Lk (jQ w (qe.setCell ⟨g,v*3,KK⟩ ra) bb rb sb nb g vk #[.slice KK 0 0,.slice KK 0 0,.slice J L M,.slice a9 R U,.slice (IT ⟨S,0,KK⟩) K d,Kx Mm I] (.slice s E p) (.slice r N n) (.slice (IT ⟨S,0,KK⟩) K d) (.slice al am bd) (.slice J L M) (.slice a9 R U) CH (Rj++eK es CH v) (Uj++aY es v) (Dj++eD es v) (Vj.set v ⟨ra,x.l,x.g⟩)):=ae (fm.out.ac4 (v*3) ra (Ch ra hx) ai);have tp:=ae hy;clear hx hy nn ld kE fm;go_upto_region 21 with fail
     generalize qe.setCell ⟨g,v*3,KK⟩ (Kx Mo (ra.toNat:Int))=tg at *;have e1:=World.ownsRow.frozenAt jj.out.F0 (v*3+1);clear d0 d1 d2 f0;obtain⟨d0,d1,d2⟩:=eY jj.out.F0 Tz.out;obtain⟨V2,i6⟩:∃V,V=(Vj.modify v λx=>⟨h9 (done+j),h9 (gen+1),x.g⟩):=⟨_,rfl⟩;have Vp:Lk (jQ w (tg.setCell ⟨g,v*3+1,KK⟩ la) bb rb sb nb g vk #[.slice KK 0 0,.slice KK 0 0,.slice J L M,.slice a9 R U,.slice (IT ⟨S,0,KK⟩) K d,Kx Mm I] (.slice s E p) (.slice r N n) (.slice (IT ⟨S,0,KK⟩) K d) (.slice al am bd) (.slice J L M) (.slice a9 R U) CH (Rj++eK es CH v) (Uj++aY es v) (Dj++eD es v) V2):=ae (by rw[i6,<- qr.out];exact jj.out.ac4 (v*3+1) la (qy la Tz.out) ai)
     have Az:Lk (V2=(Vj.modify v λx=>⟨h9 (done+j),h9 (gen+1),x.g⟩)/\V2.length=N):=ae ⟨i6,by rw[i6,List.length_modify];exact pu.out⟩;clear jj qr Tz i6;go_upto_region 22 with fail
     generalize tg.setCell ⟨g,v*3+1,KK⟩ (Kx Mo (la.toNat:Int))=kw at *;clear d0 d1 d2 e1 zd yd zp zs;have c0:kw.cell? bb=IT (.slice s E p):=by rw[au Vp.out.gen];rfl
     have c1:kw.cell? ⟨bb,1,KK⟩=IT (.slice r N n):=by rw[au Vp.out.gen];rfl
     have U7:=ae (Fx (el.out kw Vp.out.bl).e (Nm X.out) (.slice r N n) v);go_wp2_with fail;go_call U7.out as e w15⟨nv,rfl,ahu,amp⟩;obtain⟨na,nk,rfl⟩:=aw ahu;have Bm:Lk (∀w∈fC es v,w<N):=ae (λw hw=>by have A:=yo es v;rw[Lf.out.zo]at A;rw[X.out.1];exact KD Lf.out.ends w (A.mem_iff.1 hw))
     obtain⟨NL,dq⟩:=ac ((fC es v).length);have gx:Lk (NL=(fC es v).length/\NL<=100000):=ae ⟨dq,by rw[dq];have:=s8 v es;have:=X.out;omega⟩;have th:Lk (jQ w w15 bb rb sb nb g vk #[.slice KK 0 0,.slice KK 0 0,.slice J L M,.slice a9 R U,.slice (IT ⟨S,0,KK⟩) K d,Kx Mm I] (.slice s E p) (.slice r N n) (.slice (IT ⟨S,0,KK⟩) K d) (.slice al am bd) (.slice J L M) (.slice a9 R U) CH (Rj++eK es CH v) (Uj++aY es v) (Dj++eD es v) V2/\w15.ownsRow w.heap.size 33 1 (.slice na NL nk) NL ((fC es v).map jf)):=ae ⟨Vp.out.below amp,by rw[dq];exact aQ ahu Vp.out.bl.size⟩;rw[<- dq];clear ahu amp U7 Vp c0 c1 dq;obtain⟨lv,mh⟩:=ac (y.l+1);have tf:Lk (lv=y.l+1/\cf Mo ((y.l.toNat:Int)+1)=(lv.toNat:Int)):=ae ⟨mh,by rw[mh];exact uJ y.l⟩;clear mh;go_wp2_with fail;go_loopw [18] (λkv W=>∃k:Nat,kv=k/\k<=NL/\Lk (jQ w W bb rb sb nb g vk #[.slice KK 0 0,.slice KK 0 0,.slice J L M,.slice a9 R U,.slice (IT ⟨S,0,KK⟩) K d,Kx Mm I] (.slice s E p) (.slice r N n) (.slice (IT ⟨S,0,KK⟩) K d) (.slice al am bd) (.slice J L M) (.slice a9 R U) CH (Rj++eK es CH v) (Uj++aY es v) (Dj++eD es v) (((fC es v).take k).foldl (eX lv) V2)/\W.ownsRow w.heap.size 33 1 (.slice na NL nk) NL ((fC es v).map jf))) (λkv _=>NL-(Lo kv).toNat)
     case atStart=>exact⟨0,rfl,em _,th⟩
     case round=>
      obtain⟨k,rfl,hk,HY⟩:=hrel;generalize wr=dl at *;clear th;by_cases yL:k<NL
      .have CX:(k:Int)<NL:=af;have wk:cf Mm ((k:Int)+1)=(k+1:Nat):=by have:=gx.out;rw[ax]<;>omega
       obtain⟨q,hq⟩:∃q,(fC es v)[k]? = IT q:=⟨_,bk (Nm gx.out)⟩;have oE:Lk (q<N):=ae (Bm.out q (cx hq));have sl:=ae (RG (lv:=lv) hq V2);obtain⟨pe,rfl,k0⟩:=(mB (by have:=aQ HY.out.2 (em _);rwa [gx.out.1]at this)).2 dl aq k q hq;have JV:=ae yL;have ZB:Lk ((((fC es v).take k).foldl (eX lv) V2).length=N):=ae (by rw[sZ];exact Az.out.2);clear hq hk yL;obtain⟨Vk,ue⟩:=ac (((fC es v).take k).foldl (eX lv) V2);rw[<- ue]at HY sl ZB;obtain⟨z,hz⟩:∃z,Vk[q]? = IT z:=⟨_,bk (No ZB.out oE.out)⟩;obtain⟨d0,d1,d2⟩:=eY HY.out.1.F0 hz;have f0:=World.ownsRow.frozenAt HY.out.1.F0 (q*3+2);have wz:=uJ z.g;have BY:(q:Int)<N:=Nm oE.out;obtain⟨zg,mx⟩:=ac (z.g+1);rw[<- mx]at wz;have XO:Lk ((Vk.set q ⟨z.r,z.l,zg⟩)[q]? = IT ⟨z.r,z.l,zg⟩):=ae (by have:=aK hz;simp[this]);obtain⟨ml,Ck⟩:=ac (if z.l<lv then lv else z.l);have oS:Lk (max (z.l.toNat:Int) (lv.toNat:Int)=(ml.toNat:Int)):=ae (by
        rw[Ck];by_cases e:z.l<lv
        .rw[if_pos e];have:=F2.1 e;omega
        .rw[if_neg e];have Z:¬z.l.toNat<lv.toNat:=λh=>e (F2.2 h);omega)
       have pr:Lk ((cz (Vk.set q ⟨z.r,z.l,zg⟩)).set (q*3+1) ml=cz (((fC es v).take (k+1)).foldl (eX lv) V2)):=ae (by rw[sl.out,<- qA zg hz,mx,Ck];exact Z6 hz)
       have OH:Lk (jQ w (dl.setCell ⟨g,q*3+2,KK⟩ zg) bb rb sb nb g vk #[.slice KK 0 0,.slice KK 0 0,.slice J L M,.slice a9 R U,.slice (IT ⟨S,0,KK⟩) K d,Kx Mm I] (.slice s E p) (.slice r N n) (.slice (IT ⟨S,0,KK⟩) K d) (.slice al am bd) (.slice J L M) (.slice a9 R U) CH (Rj++eK es CH v) (Uj++aY es v) (Dj++eD es v) (Vk.set q ⟨z.r,z.l,zg⟩)/\(dl.setCell ⟨g,q*3+2,KK⟩ zg).ownsRow w.heap.size 33 1 (.slice (IT ⟨pe,0,KK⟩) NL nk) NL ((fC es v).map jf)):=ae (by obtain⟨cs,co⟩:=s9 HY.out.1.F0 (b:=g) rfl;exact⟨HY.out.1.ac4 (q*3+2) zg (qA zg hz) ai,jI co _ _ HY.out.2 ag⟩)
       clear hz ue mx Ck;go_upto_region 28 with fail
       generalize dl.setCell ⟨g,q*3+2,KK⟩ (Kx Mo (zg.toNat:Int))=ci at *;clear d0 d1 d2 f0 wz k0 HY;obtain⟨d0,d1,d2⟩:=eY OH.out.1.F0 XO.out;have f0:=World.ownsRow.frozenAt OH.out.1.F0 (q*3+1);have c1:ci.cell? ⟨bb,1,KK⟩=IT (.slice r N n):=by rw[au OH.out.1.gen];rfl
       obtain⟨AF,j5,rfl,y0,y1,y2⟩:=AT.out ci OH.out.1.bl v y tp.out;have wl:=tf.out.2;have wm:=oS.out;have wt:(v:Int)<N:=Nm JP.out;have yp:Lk (∀t,t.heap=(ci.setCell ⟨g,q*3+1,KK⟩ (Kx Mo (ml.toNat:Int))).heap->t.os=ci.os->t.tape=ci.tape->t.output=ci.output->jQ w t bb rb sb nb g vk #[.slice KK 0 0,.slice KK 0 0,.slice J L M,.slice a9 R U,.slice (IT ⟨S,0,KK⟩) K d,Kx Mm I] (.slice s E p) (.slice (IT ⟨AF,j5,KK⟩) N n) (.slice (IT ⟨S,0,KK⟩) K d) (.slice al am bd) (.slice J L M) (.slice a9 R U) CH (Rj++eK es CH v) (Uj++aY es v) (Dj++eD es v) (((fC es v).take (k+1)).foldl (eX lv) V2)/\t.ownsRow w.heap.size 33 1 (.slice (IT ⟨pe,0,KK⟩) NL nk) NL ((fC es v).map jf)):=ae (λt A Z h3 h4=>by obtain⟨cs,co⟩:=s9 OH.out.1.F0 (b:=g) rfl;have D:Lg (ci.setCell ⟨g,q*3+1,KK⟩ (Kx Mo (ml.toNat:Int))).heap.size (ci.setCell ⟨g,q*3+1,KK⟩ (Kx Mo (ml.toNat:Int))) t:=⟨Z,h3,h4,by rw[A];exact cg _,λk _=>by rw[A]⟩;exact⟨(OH.out.1.ac4 (q*3+1) ml pr.out (by rw[sZ,k9,Az.out.2,ZB.out])).below D,aB (jI co _ _ OH.out.2 ag) D⟩)
       clear OH pr XO oS;go_region
       go_wp2;exact⟨⟨k+1,rfl,JV.out,ae (yp.out _ rfl rfl rfl rfl)⟩,Xd JV.out⟩
      .have CX:¬(k:Int)<NL:=af;have GC:Lk (jQ w dl bb rb sb nb g vk #[.slice KK 0 0,.slice KK 0 0,.slice J L M,.slice a9 R U,.slice (IT ⟨S,0,KK⟩) K d,Kx Mm I] (.slice s E p) (.slice r N n) (.slice (IT ⟨S,0,KK⟩) K d) (.slice al am bd) (.slice J L M) (.slice a9 R U) CH (fe es CH++(CH.take (j+1)).flatMap (eK es CH)) ((CH.take (j+1)).flatMap (aY es)) ((CH.take (j+1)).flatMap (eD es)) (rW es vs done gen CH (j+1))):=ae (by
        have A:=HY.out.1;rw[ey (Nm gx.out)]at A;have Z:(fC es v).foldl (eX lv) V2=gq es vs done gen Vj j v:=by have h3:=yo es v;rw[Lf.out.zo]at h3;unfold gq;rw[Rn h3,Az.out.1,tp.out,tf.out.1];rfl
        rw[Z]at A;obtain⟨q1,q2,q3,q4⟩:=mE.out;rw[q1,q2,q3,q4];exact A)
       clear hk yL HY;go_wp2;exact⟨⟨j+1,_,_,_,rfl,Iq.out,GC⟩,Xd Iq.out⟩
    .have CV:¬(j:Int)<K:=af;have Vq:Lk (jQ w W7 bb rb sb nb g vk #[.slice KK 0 0,.slice KK 0 0,uv,dv,.slice G K d,Kx Mm c] (.slice s E p) (.slice r N n) (.slice G K d) rv uv dv CH (gB es CH) (rh es CH) (dU es CH) (dE es vs done gen CH)/\(dE es vs done gen CH).length=N):=ae (by have A:=HX.out;have Z:CH.take j=CH:=ey (Nm HK.out);rw[show rW es vs done gen CH j=dE es vs done gen CH from by unfold rW dE;rw[Z],Z]at A;exact⟨A,by rw[zL,X.out.1]⟩)
     clear hj mT HX;obtain⟨VE,tm⟩:=ac (dE es vs done gen CH);rw[<- tm]at Vq HP;clear tm;obtain⟨ra,rk,rfl⟩:=aw Vq.out.1.raw;have VR:=ae (Fm (.slice ra (gB es CH).length rk) (.slice g N vk) (gB es CH) VE W7 (fG Vq.out.1.raw) (by have:=(jY Vq.out.1.F0).1.rd;rwa [Vq.out.2]at this) (Nm yT.out) (No Vq.out.2 X.out));generalize FH:(gB es CH).length=RL at *;have BE:=ae FH;clear FH;go_wp2_with fail;go_call VR.out as e w8⟨gv8,li,rfl,hg8,hh8,vF,ams,amt⟩;obtain⟨Vr,Vs,rfl,-⟩:=id hg8;obtain⟨O6,LM,rfl,-⟩:=id hh8;have JK:=ae (Vq.out.1.below vF);obtain⟨ua,uk,rfl⟩:=aw JK.out.up;obtain⟨da,dk,rfl⟩:=aw JK.out.dn;have lw:=ae (show _/\_/\_/\_ from⟨hg8,hh8,ams,amt⟩);have PU:Lk (sb<W7.heap.size/\rb<W7.heap.size):=ae ⟨bD Vq.out.1.vJ,bD Vq.out.1.res.1⟩;obtain⟨M1,Lc⟩:=ac ((aH J0 (gB es CH)).length);obtain⟨M3,eS⟩:=ac ((rh es CH).length);obtain⟨M4,i8⟩:=ac ((dU es CH).length);rw[<- Lc,Vq.out.2]at lw;rw[<- eS,<- i8]at JK;rw[<- Lc,Vq.out.2];have Cd:Lk (M1=(aH J0 (gB es CH)).length/\M3=(rh es CH).length/\M4=(dU es CH).length):=ae ⟨Lc,eS,i8⟩;try rw[<- eS]
     try rw[<- i8]
     have d0:w8.cell? sb=IT (.slice KK 0 0):=by rw[au JK.out.vJ];rfl
     have d1:w8.cell? ⟨sb,1,KK⟩=IT (.slice KK 0 0):=by rw[au JK.out.vJ];rfl
     have f0:=aO JK.out.vJ 0;have f1:=aO JK.out.vJ 1;have F:=ae ((JK.out.Z5 0 (.slice Vr M1 Vs)).Z5 1 (.slice O6 N LM));clear hg8 hh8 vF ams amt VR JK Lc eS i8;have qt:Lk (gR ((w8.setCell ⟨sb,0,KK⟩ (.slice Vr M1 Vs)).setCell ⟨sb,1,KK⟩ (.slice O6 N LM)) (.slice Vr M1 Vs) (aH J0 (gB es CH))/\xV ((w8.setCell ⟨sb,0,KK⟩ (.slice Vr M1 Vs)).setCell ⟨sb,1,KK⟩ (.slice O6 N LM)) (.slice O6 N LM) VE/\(∀b,(fz Vr M1 Vs).ownBlock=IT b->W7.heap.size<=b)/\∀b,(fz O6 N LM).ownBlock=IT b->W7.heap.size<=b):=ae (by
      obtain⟨q1,q2,q3,q4⟩:=lw.out;have l1:=PU.out.1;exact⟨q1.other λb D=>by
       have:=q3 b D;rw[e8 _ _ _ _ (show b≠sb by omega),e8 _ _ _ _ (show b≠sb by omega)],q2.rd.other λb D=>by
       have:=q4 b D;rw[e8 _ _ _ _ (show b≠sb by omega),e8 _ _ _ _ (show b≠sb by omega)],q3,q4⟩)
     go_upto_region 30 with fail
     generalize (w8.setCell ⟨sb,0,KK⟩ (.slice Vr M1 Vs)).setCell ⟨sb,1,KK⟩ (.slice O6 N LM)=W9 at *;clear d0 d1 f0 f1 lw;have s0:W9.cell? sb=IT (.slice Vr M1 Vs):=by rw[au F.out.vJ];rfl
     have s1:W9.cell? ⟨sb,1,KK⟩=IT (.slice O6 N LM):=by rw[au F.out.vJ];rfl
     have s2:W9.cell? ⟨sb,2,KK⟩=IT (.slice ua M3 uk):=by rw[au F.out.vJ];rfl
     have s3:W9.cell? ⟨sb,3,KK⟩=IT (.slice da M4 dk):=by rw[au F.out.vJ];rfl
     have s4:W9.cell? ⟨sb,4,KK⟩=IT (.slice G K d):=by rw[au F.out.vJ];rfl
     have s5:W9.cell? ⟨sb,5,KK⟩=IT (Kx Mm c):=by rw[au F.out.vJ];rfl
     have r0:W9.cell? rb=IT (.slice KK 0 0):=by rw[au F.out.res.1];rfl
     have r1:W9.cell? ⟨rb,1,KK⟩=IT (.slice KK 0 0):=by rw[au F.out.res.1];rfl
     have r2:W9.cell? ⟨rb,2,KK⟩=IT (.slice KK 0 0):=by rw[au F.out.res.1];rfl
     have r3:W9.cell? ⟨rb,3,KK⟩=IT (.slice KK 0 0):=by rw[au F.out.res.1];rfl
     have r4:W9.cell? ⟨rb,4,KK⟩=IT (.slice KK 0 0):=by rw[au F.out.res.1];rfl
     have r5:W9.cell? ⟨rb,5,KK⟩=IT (Kx Mm 0):=by rw[au F.out.res.1];rfl
     have z0:=aO F.out.res.1 0;have z1:=aO F.out.res.1 1;have z2:=aO F.out.res.1 2;have z3:=aO F.out.res.1 3;have z4:=aO F.out.res.1 4;have z5:=aO F.out.res.1 5;have HT:Lk (∀T,T=((((((W9.setCell ⟨rb,0,KK⟩ (.slice Vr M1 Vs)).setCell ⟨rb,1,KK⟩ (.slice O6 N LM)).setCell ⟨rb,2,KK⟩ (.slice ua M3 uk)).setCell ⟨rb,3,KK⟩ (.slice da M4 dk)).setCell ⟨rb,4,KK⟩ (.slice G K d)).setCell ⟨rb,5,KK⟩ (Kx Mm c))->T.heap[rb]? = IT (Mi #[.slice Vr M1 Vs,.slice O6 N LM,.slice ua M3 uk,.slice da M4 dk,.slice G K d,Kx Mm c] 42)/\kd (Mk (LV #[.slice Vr M1 Vs,.slice O6 N LM,.slice ua M3 uk,.slice da M4 dk,.slice G K d,Kx Mm c])) T):=ae (by
      intro T hT;obtain⟨ce,hk,m8⟩:=ag1 _ _ _ _ _ _ F.out.res.1 T hT;have l2:=PU.out.2;have As:w.heap.size<=rb:=ZI.out;have tz:w.heap.size<=W7.heap.size:=Vq.out.1.bl.size;obtain⟨q1,q2,q3,q4⟩:=qt.out;have C:∀{v:J3}{O:List aJ},aG W9 w.heap.size v O->∀b,v.ownBlock=IT b->b≠rb:=λh b D e=>by obtain⟨cs,A⟩:=s9 h D;rw[e,F.out.res.1]at A;cases A
      have Y:=F.out.up;have hd:=F.out.dn;refine⟨ce,?_⟩;rw[HK.out.1];refine HP.out _ _ _ _ _ _ _ _ (q1.other λb D=>hk b (Nm (q3 b D))) (q2.other λb D=>hk b (Nm (q4 b D))) ((fG Y).other λb D=>hk b (C Y b D)) ((fG hd).other λb D=>hk b (C hd b D)) ?_ ?_
      .exact m8 _ _ As F.out.bl
      .intro x hx b D;simp only[qk,tl,or_false]at hx;rcases hx with rfl | rfl | rfl | rfl
       .exact cp tz (q3 b D)
       .exact cp tz (q4 b D)
       .exact(aA Y b D).2
       .exact(aA hd b D).2)
     obtain⟨T,hT⟩:=ac ((((((W9.setCell ⟨rb,0,KK⟩ (.slice Vr M1 Vs)).setCell ⟨rb,1,KK⟩ (.slice O6 N LM)).setCell ⟨rb,2,KK⟩ (.slice ua M3 uk)).setCell ⟨rb,3,KK⟩ (.slice da M4 dk)).setCell ⟨rb,4,KK⟩ (.slice G K d)).setCell ⟨rb,5,KK⟩ (Kx Mm c));obtain⟨ce,ut⟩:=HT.out T hT;have mE:=ae ut;clear HT F qt Vq ut;go_wp2_with fail;rw[<- hT];have q0:T.cell? rb=IT (.slice Vr M1 Vs):=by rw[au ce];rfl
     have q1:T.cell? ⟨rb,1,KK⟩=IT (.slice O6 N LM):=by rw[au ce];rfl
     have q2:T.cell? ⟨rb,2,KK⟩=IT (.slice ua M3 uk):=by rw[au ce];rfl
     have q3:T.cell? ⟨rb,3,KK⟩=IT (.slice da M4 dk):=by rw[au ce];rfl
     have q4:T.cell? ⟨rb,4,KK⟩=IT (.slice G K d):=by rw[au ce];rfl
     have q5:T.cell? ⟨rb,5,KK⟩=IT (Kx Mm c):=by rw[au ce];rfl
     exact bodyPost_ret (v:=LV #[.slice Vr M1 Vs,.slice O6 N LM,.slice ua M3 uk,.slice da M4 dk,.slice G K d,Kx Mm c]) (by simp[results,Tryz.results21,go_sem,q0,q1,q2,q3,q4,q5]) rfl mE.out
end
def K5(w:KX)(N:Nat)(l:List aJ)(e:Lp)(w':KX):Prop:=
 ∃(v:J3)(ys:List mY),e=Mk v/\rT w' w.heap.size v ys/\ys.length<=N/\(b8 N l ys.length).done=N/\(∀k,k<ys.length->(b8 N l k).ch≠[])/\(∀(k:Nat)(y:mY),ys[k]? = IT y->iO w' w.heap.size y (b8 N l k) k)/\Lg w w w'
section
variable {w W t:KX}{a:Option Addr}{n c base k j gb N:Nat}{es l:List aJ}{vs:List bZ}{y:mY}{r:Rg}{ov gv hv:J3}{ys:List mY}{z:Obj}
theorem Fy(h:gR w (.slice a n c) es):n=0\/∀b,(fz a n c).ownBlock=IT b->b<w.heap.size:=by
 obtain⟨j,cap,e,h⟩:=h;obtain⟨rfl,rfl,rfl⟩:=Value.slice.inj e;rcases h with h |⟨b,d,rfl,f⟩
 .exact .inl h
 .match es with
  | []=>exact .inl rfl
  |x::t=>exact .inr λi g=>by cases g;exact jK _ _ (f 0 x rfl).1
theorem Z8(h:xV w (.slice a n c) vs):n=0\/∀b,(fz a n c).ownBlock=IT b->b<w.heap.size:=by
 obtain⟨j,cap,e,h⟩:=h;obtain⟨rfl,rfl,rfl⟩:=Value.slice.inj e;rcases h with h |⟨b,d,rfl,f⟩
 .exact .inl h
 .match vs with
  | []=>exact .inl rfl
  |x::t=>exact .inr λi g=>by cases g;exact jK _ _ (f 0 x rfl).1
theorem gR.app(h:gR w (.slice a n c) es)(d:n=0\/∀b,(fz a n c).ownBlock=IT b->W.heap[b]? = w.heap[b]?):gR W (.slice a n c) es:=by
 rcases d with rfl | d
 .obtain⟨g,cap,e,-⟩:=h;obtain⟨rfl,f,rfl⟩:=Value.slice.inj e;exact⟨a,c,by rw[<- f],.inl f.symm⟩
 .exact h.other d
theorem xV.app(h:xV w (.slice a n c) vs)(d:n=0\/∀b,(fz a n c).ownBlock=IT b->W.heap[b]? = w.heap[b]?):xV W (.slice a n c) vs:=by
 rcases d with rfl | d
 .obtain⟨g,cap,e,-⟩:=h;obtain⟨rfl,f,rfl⟩:=Value.slice.inj e;exact⟨a,c,by rw[<- f],.inl f.symm⟩
 .exact h.other d
def Lone(W:KX)(S:Nat->Prop)(y:mY):Prop:=∀s∈[y.g,y.h,y.u,y.d],s.n=0\/∀b,s.v.ownBlock=IT b->b<W.heap.size/\¬S b
theorem iO.lone{S:Nat->Prop}(h:iO w base y r k)(g:∀b,S b->b<base):Lone w S y:=by
 have d:∀s∈[y.g,y.h,y.u,y.d],(s.n=0\/∀b,s.v.ownBlock=IT b->b<w.heap.size)->s.n=0\/∀b,s.v.ownBlock=IT b->b<w.heap.size/\¬S b:=λs a c=>c.imp id λc b f=>⟨c b f,λe=>No (g b e) (h.new s.v (by simp only[qk,tl,or_false]at a ⊢;rcases a with rfl | rfl | rfl | rfl<;>simp) b f)⟩
 intro s a;refine d s a ?_;simp only[qk,tl,or_false]at a;rcases a with rfl | rfl | rfl | rfl
 .exact Fy h.g
 .exact Z8 h.h
 .exact Fy h.u
 .exact Fy h.d
theorem iO.mono{a:Nat}(h:iO w base y r k)(d:a<=base):iO w a y r k:=⟨h.g,h.h,h.u,h.d,h.n,λx c b e=>cp d (h.new x c b e)⟩
theorem iO.app(h:iO w base y r k)(a:∀s∈[y.g,y.h,y.u,y.d],s.n=0\/∀b,s.v.ownBlock=IT b->W.heap[b]? = w.heap[b]?):iO W base y r k:=
 ⟨h.g.app (a _ ai),h.h.app (a _ ai),h.u.app (a _ ai),h.d.app (a _ ai),h.n,h.new⟩
structure uN(w W:KX)(N:Nat)(l:List aJ)(k gb:Nat)(ov gv hv:J3)(ys:List mY):Prop where
 row:rT W w.heap.size ov ys
 len:ys.length=k
 nz:∀j,j<k->(b8 N l j).ch≠[]
 each:∀(j:Nat)(y:mY),ys[j]? = IT y->iO W w.heap.size y (b8 N l j) j/\Lone W (λb=>ov.ownBlock=IT b\/b=gb) y
 g:gR W gv (b8 N l k).es
 h:xV W hv (b8 N l k).vs
 bl:Lg w w W
 le:k<=(b8 N l k).done
 box:W.heap[gb]? = IT (Mi #[gv,hv] 39)
 new:w.heap.size<=gb
theorem Lone.below{S:Nat->Prop}(h:Lone W S y)(a:Lg W W t):Lone t S y:=λs c=>(h s c).imp id λh b e=>⟨eg (h b e).1 a.size,(h b e).2⟩
theorem uN.below(h:uN w W N l k gb ov gv hv ys)(a:Lg W W t):uN w t N l k gb ov gv hv ys:=
 ⟨aB h.row a,h.len,h.nz,λj y b=>⟨(h.each j y b).1.below a,(h.each j y b).2.below a⟩,h.g.below a,h.h.below a,h.bl.trans (a.mono h.bl.size),h.le,(a.block _ (bD h.box)).trans h.box,h.new⟩
theorem uN.next(h:uN w W N l k gb ov gv hv ys)(f:(b8 N l k).ch≠[])(F:iO W w.heap.size y (b8 N l k) k)(E:Lone W (λb=>ov.ownBlock=IT b\/b=gb) y)(I:rT t w.heap.size p (ys++[y]))(g:gP ov (W.alloc z) t p):uN w ((t.setCell ⟨gb,0,KK⟩ y.g.v).setCell ⟨gb,1,KK⟩ y.h.v) N l (k+1) gb p y.g.v y.h.v (ys++[y]):=by
 have M:(W.alloc z).heap.size=W.heap.size+1:=ai;have o:=g.1.size;have B:=bD h.box;have C:ov.ownBlock≠IT gb:=λe=>by obtain⟨cs,a⟩:=s9 h.row e;rw[h.box]at a;cases a
 have H:∀b,b<W.heap.size->¬(ov.ownBlock=IT b\/b=gb)->((t.setCell ⟨gb,0,KK⟩ y.g.v).setCell ⟨gb,1,KK⟩ y.h.v).heap[b]? = W.heap[b]? := λb L A=>by rw[e8 _ _ _ _ (λe=>A (.inr e)),e8 _ _ _ _ (λe=>A (.inr e))];exact(g.1.block b af λc=>A (.inl c.symm)).trans ((MapKept.heap_alloc _ _).2 b L)
 have G:((t.setCell ⟨gb,0,KK⟩ y.g.v).setCell ⟨gb,1,KK⟩ y.h.v).heap.size=t.heap.size:=by simp[World.setCell]
 have v:t.heap[gb]? = IT (Mi #[gv,hv] 39):=((g.1.block gb af λc=>C c.symm).trans ((MapKept.heap_alloc _ _).2 gb B)).trans h.box;have i:∀{m:mY}{r:Rg}{j:Nat},iO W w.heap.size m r j->Lone W (λb=>ov.ownBlock=IT b\/b=gb) m->iO ((t.setCell ⟨gb,0,KK⟩ y.g.v).setCell ⟨gb,1,KK⟩ y.h.v) w.heap.size m r j/\Lone ((t.setCell ⟨gb,0,KK⟩ y.g.v).setCell ⟨gb,1,KK⟩ y.h.v) (λb=>p.ownBlock=IT b\/b=gb) m:=λa n=>
  ⟨a.app λs o=>(n s o).imp id λh b e=>H b (h b e).1 (h b e).2,
   λs o=>(n s o).imp id λh b e=>⟨Nm ((h b e).1),λc=>by
    rcases c with c | c
    .rcases g.2 with q | q
     .exact(h b e).2 (.inl (q▸c))
     .rw[q]at c;have:=Option.some.inj c;have:=(h b e).1;omega
    .exact(h b e).2 (.inr c)⟩⟩
 obtain⟨u,K⟩:=i F E;refine⟨jI (aS v 0 _) 1 _ (jI v 0 _ I ag) ag,by rw[eh,h.len];rfl,λj d=>?_,λj D d=>?_,u.g,u.h,(((bH (h.bl.alloc h.bl.size _) (λx J=>aD h.row x J) g).1.setCell h.new _).setCell h.new _),?_,?_,h.new⟩
 .rcases lb j k with a | a
  .exact h.nz j a
  .obtain rfl:j=k:=af
   exact f
 .rcases lb j ys.length with a | a
  .rw[FD a]at d;exact i (h.each j D d).1 (h.each j D d).2
  .rw[List.getElem?_append_right a]at d;have n:=aK d;obtain rfl:j=k:=by have:=h.len;rw[lr]at n;omega
   rw[h.len,Nat.sub_self]at d;cases d;exact⟨u,K⟩
 .have:=If.2 f;have:=h.le;show k+1<=(b8 N l k).done+(b8 N l k).ch.length;omega
 .rw[aS (aS v 0 _) 1 _];rfl
end
theorem Vt{w:KX}{ev:J3}{l:List aJ}{N:Nat}(C:N<=24)(hl:l.length<=80)(X:∀x∈l,x.t.toNat<N/\x.h.toNat<N)(Qg:gR w ev l):K1 prog 6 #[N,ev] w (K5 w N l):=by
 have T:=ae (xe N af w Qg af);have am:Lk (∀(W:KX)(k:Nat)(gv hv:J3),0<N->k<=(b8 N l k).done->gR W gv (b8 N l k).es->xV W hv (b8 N l k).vs->K1 prog 21 #[LV #[gv,hv],k,Kx Mo (b8 N l k).done] W (zV W (b8 N l k) k)):=ae (λW k gv hv h0 hk G V=>by obtain⟨Z,m⟩:=yg C X k;have U:=IX C hl X k;have hd:=Bp Z C;exact OG ⟨G,V,m,U.1,by rw[Z.len];exact C,λx hx=>by obtain⟨a,c,g,i,-⟩:=Z.ends x hx;exact⟨aK g,aK i⟩⟩ (by rw[Z.len];exact h0) k _ af af U.2)
 have GQ:=ae (λk=>SX (k:=k) C X);have Lh:Lk (∀k,(b8 N l k).done+(b8 N l k).ch.length<=N):=ae λk=>Bp (yg C X k).1 C;have t:Lk (N<=24):=ae C;obtain⟨al,hP⟩:=ac (K5 w N l);have HP:Lk (∀(w':KX)(k gb:Nat)(ov gv hv:J3)(ys:List mY),uN w w' N l k gb ov gv hv ys->(b8 N l k).done=N->al (Mk ov) w'):=ae (λw' k gb ov gv hv ys h hd=>by rw[hP];obtain⟨G,rfl,R,P,-,-,h7,h8,-,-⟩:=h;exact⟨ov,ys,rfl,G,af,hd,R,λk y hk=>(P k y hk).1,h7⟩)
 rw[<- hP];have HE:=ae Qg;clear hl X Qg hP C;go_enter func6,ntmps6;go_wp2_with fail;go_call T.out as e w1⟨gv,hv,rfl,hg1,Dg,hb1,as0,as1⟩;obtain⟨v,z,rfl,-⟩:=id hg1;obtain⟨B,A,rfl,-⟩:=id Dg.rd;generalize (aH J0 l).length=n1 at *;generalize (ei N iW).length=n2 at *;have lu:Lk (uN w (w1.alloc (Mi #[.slice v n1 z,.slice B n2 A] 39)) N l 0 w1.heap.size (.slice KK 0 0) (.slice v n1 z) (.slice B n2 A) []):=ae (by have m:Lg w1 w1 (w1.alloc (Mi #[.slice v n1 z,.slice B n2 A] 39)):=aq.alloc (cg _) _;exact⟨gp _ _ _ _,rfl,λj hj=>absurd hj (Dc _),λj y hj=>(by cases hj),hg1.below m,Dg.rd.below m,hb1.trans (m.mono hb1.size),em _,Lw _ _,hb1.size⟩)
 clear hg1 Dg hb1 as0 as1 T;go_wp2_with fail;generalize w1.alloc (Mi #[.slice v n1 z,.slice B n2 A] 39)=W1 at *;generalize w1.heap.size=gb at *;go_loopw [5,7,8] (λov vd vk W=>∃(k:Nat)(gv hv:J3)(ys:List mY),vd=Kx Mo (b8 N l k).done/\vk=k/\Lk (uN w W N l k gb ov gv hv ys)) (λ_ vd _ _=>N-(Lo vd).toNat)
 case atStart=>exact⟨0,_,_,[],rfl,rfl,lu⟩
 case round=>
  generalize u5=ov at *;obtain⟨k,gv,hv,ys,rfl,rfl,s⟩:=hrel;generalize wr=I at *;clear lu;obtain⟨D,H⟩:=ac ((b8 N l k).done);obtain⟨f,Q⟩:=ac ((b8 N l k).ch.length);have o:Lk (D=(b8 N l k).done/\f=(b8 N l k).ch.length/\D+f<=N/\k<=D):=ae ⟨H,Q,by rw[H,Q];exact Lh.out k,by rw[H];exact s.out.le⟩;rw[<- H];have ce:cf Mm (D:Int)=D:=by have:=o.out;have:=t.out;rw[ax]<;>omega
  have r:I.heap[gb]? = IT (Mi #[gv,hv] 39):=s.out.box;by_cases Y:D<N
  .have qO:(D:Int)<N:=af;have vP:=ae (am.out I k gv hv af s.out.le s.out.g s.out.h);obtain⟨ga,gc,VW,-⟩:=id s.out.g;obtain⟨ha,hc,aE,-⟩:=id s.out.h;have c0:I.cell? gb=IT gv:=by rw[au r];rfl
   have c1:I.cell? ⟨gb,1,KK⟩=IT hv:=by rw[au r];rfl
   unfold zV at vP;rw[<- H,<- Q]at vP;clear H Q r Y VW aE;go_wp2_with fail;go_call vP.out as e w3⟨gv3,hv3,uv3,dv3,ca,ck,c,rfl,G,V,R,P,hb3,hn3⟩;obtain⟨q,p,rfl,-⟩:=id G;obtain⟨a2,u,rfl,-⟩:=id V;obtain⟨a3,M,rfl,-⟩:=id R;obtain⟨a4,J,rfl,-⟩:=id P;generalize (aH J0 (b8 N l k).raw).length=g at *;generalize ((b8 N l k).V0 k).length=i at *;generalize (rh (b8 N l k).es (b8 N l k).ch).length=L at *;generalize (dU (b8 N l k).es (b8 N l k).ch).length=K at *;obtain⟨n,E⟩:=ac (w3.alloc (Mi #[.slice q g p,.slice a2 i u,.slice a3 L M,.slice a4 K J,.slice ca f ck,Kx Mm c] 42));obtain⟨sb,zi⟩:=ac w3.heap.size;obtain⟨y,hy⟩:∃y:mY,y=⟨⟨q,g,p⟩,⟨a2,i,u⟩,⟨a3,L,M⟩,⟨a4,K,J⟩,⟨ca,f,ck⟩,c⟩:=⟨_,rfl⟩;have d:Lk (uN w n N l k gb ov gv hv ys/\iO n w.heap.size y (b8 N l k) k/\Lone n (λb=>ov.ownBlock=IT b\/b=gb) y/\n.heap[sb]? = IT (Mi #[.slice q g p,.slice a2 i u,.slice a3 L M,.slice a4 K J,.slice ca f ck,Kx Mm c] 42)/\∀b,ov.ownBlock=IT b->b<sb):=ae (by
    have ha:Lg w3 w3 n:=by rw[E];exact aq.alloc (cg _) _
    have U:iO w3 I.heap.size y (b8 N l k) k:=by rw[hy];exact⟨G,V,R,P,o.out.2.1,hn3⟩
    have ho:∀b,ov.ownBlock=IT b->b<I.heap.size:=λb m=>(aA s.out.row b m).1;have O:=hb3.size;refine⟨(s.out.below hb3).below ha,(U.mono s.out.bl.size).below ha,(U.lone λb m=>?_).below ha,by rw[E,zi];exact Lw _ _,λb m=>Nm (ho b m)⟩;rcases m with m | rfl
    .exact ho b m
    .exact bD s.out.box)
   have S:=ae hy;have s4:n.cell? ⟨sb,4,KK⟩=IT (.slice ca f ck):=by rw[au d.out.2.2.2.1];rfl
   clear G V R P hb3 hn3 hy vP c0 c1;go_upto_region 8 with fail
   rw[<- E,<- zi];clear E zi;by_cases O:f=0
   .have bd:((f:Int) == 0)=true:=by simp[O]
    have HQ:=ae (HP.out _ _ _ _ _ _ _ d.out.1 ((GQ.out k).1 (jJ (by rw[<- o.out.2.1];exact O))));clear O;go_wp2;exact HQ.out
   .have bd:((f:Int) == 0)=false:=by simp;omega
    have pW:Lk ((b8 N l k).ch≠[]/\ys.length<=1000/\w.heap.size<=n.heap.size):=ae ⟨λe=>O (by rw[o.out.2.1,e];rfl),NE d.out.1.len o.out t.out,d.out.1.bl.size⟩;have UH:Lk ((b8 N l (k+1)).done=D+f):=ae (by rw[o.out.1,o.out.2.1];rfl);have wD:cf Mo ((D:Int)+f)=(D+f:Nat):=by have:=o.out;have:=t.out;rw[cM _ af af];omega
    have wN:cf Mo (f:Int)=f:=by have:=o.out;have:=t.out;rw[cM _ af af]
    have wk:cf Mm ((k:Int)+1)=(k+1:Nat):=by have:=o.out;have:=t.out;rw[ax]<;>omega
    have s0:n.cell? sb=IT (.slice q g p):=by rw[au d.out.2.2.2.1];rfl
    have s1:n.cell? ⟨sb,1,KK⟩=IT (.slice a2 i u):=by rw[au d.out.2.2.2.1];rfl
    have s2:n.cell? ⟨sb,2,KK⟩=IT (.slice a3 L M):=by rw[au d.out.2.2.2.1];rfl
    have s3:n.cell? ⟨sb,3,KK⟩=IT (.slice a4 K J):=by rw[au d.out.2.2.2.1];rfl
    have s5:n.cell? ⟨sb,5,KK⟩=IT (Kx Mm c):=by rw[au d.out.2.2.2.1];rfl
    clear O;go_wp2_with (at_builtin;refine zR rfl _ _ rfl w.heap.size ov ys rfl d.out.1.row ⟨⟨q,g,p⟩,⟨a2,i,u⟩,⟨a3,L,M⟩,⟨a4,K,J⟩,⟨ca,f,ck⟩,c⟩ 1 rfl pW.out.2.1 pW.out.2.2 ?_);intro v6 F h6 uB;have nu:Lk (uN w ((F.setCell ⟨gb,0,KK⟩ (.slice q g p)).setCell ⟨gb,1,KK⟩ (.slice a2 i u)) N l (k+1) gb v6 (.slice q g p) (.slice a2 i u) (ys++[y])):=ae (by have h:=d.out.1.next pW.out.1 d.out.2.1 d.out.2.2.1 (by rw[S.out];exact h6) uB;rw[S.out]at h ⊢;exact h)
    have r:F.heap[gb]? = IT (Mi #[gv,hv] 39):=fo (World.ownsRow.alloc d.out.1.row _) uB (((MapKept.heap_alloc _ _).2 _ (bD d.out.1.box)).trans d.out.1.box) ag;have iF:Lk (F.heap[sb]? = IT (Mi #[.slice q g p,.slice a2 i u,.slice a3 L M,.slice a4 K J,.slice ca f ck,Kx Mm c] 42)):=ae (by have hl:=bD d.out.2.2.2.1;exact((uB.1.block sb (by simp;omega) λe=>absurd (d.out.2.2.2.2 sb e.symm) (Nat.lt_irrefl _)).trans ((MapKept.heap_alloc _ _).2 _ hl)).trans d.out.2.2.2.1)
    have lL:=ae (mZ (aS r 0 (.slice q g p)) 1 (.slice a2 i u) (mZ r 0 (.slice q g p) iF.out ag) ag);have b0:F.cell? gb=IT gv:=by rw[au r];rfl
    have b1:F.cell? ⟨gb,1,KK⟩=IT hv:=by rw[au r];rfl
    have f0:=aO r 0;have f1:=aO r 1;clear s0 s1 s2 s3 s4 s5 h6 uB r;have s0:F.cell? sb=IT (.slice q g p):=by rw[au iF.out];rfl
    have s1:F.cell? ⟨sb,1,KK⟩=IT (.slice a2 i u):=by rw[au iF.out];rfl
    go_upto_region 11 with fail
    generalize (F.setCell ⟨gb,0,KK⟩ (.slice q g p)).setCell ⟨gb,1,KK⟩ (.slice a2 i u)=W7 at *;clear s0 s1 b0 b1 f0 f1;have s4:W7.cell? ⟨sb,4,KK⟩=IT (.slice ca f ck):=by rw[au lL.out];rfl
    go_wp2;exact⟨⟨k+1,_,_,_,by rw[UH.out,Int.natCast_add],rfl,nu⟩,by have:=o.out;have:=If.2 pW.out.1;simp[Lo];omega⟩
  .have qO:¬(D:Int)<N:=af;have HQ:=ae (HP.out _ _ _ _ _ _ _ s.out (Nm o.out));clear H Q r Y;go_wp2;exact HQ.out
noncomputable def Cj(r:Rg)(k:Nat):List (Name×List UInt8):=
 [(aF 101 (k+1),cC (aF 101 (k+1)) 20 ((aH J0 r.raw).map aJ.bytes)),(aF 114 (k+1),cC (aF 114 (k+1)) 20 ((aH Jd r.raw).map aJ.bytes)),(aF 118 (k+1),cC (aF 118 (k+1)) 12 ((r.V0 k).map bZ.bytes)),
  (aF 117 (k+1),cC (aF 117 (k+1)) 20 ((rh r.es r.ch).map aJ.bytes)),(aF 100 (k+1),cC (aF 100 (k+1)) 20 ((dU r.es r.ch).map aJ.bytes))]
def nY(w:KX)(a:List (Name×List UInt8))(e:Lp)(w':KX):Prop:=
 ∃(v:J3)(l:List kL),e=Mk v/\w'.ownsRow w.heap.size 50 2 v l.length (tM l)/\l.map (λp=>(p.1,p.2.2))=a/\(∀p∈l,lF w' p.2.1 p.2.2)/\Lg w w w'
section
variable {L:aL}{r:Rg}{k:Nat}
theorem Z9(a:kg L L' k r.raw (rh r.es r.ch) (dU r.es r.ch) (r.V0 k)):∀q∈Cj r k,∃ps,aI L' q.1=IT (.inl (ps,Jd))/\q.2=bC (fO q.1) 0 ps:=by
 intro q b;unfold Cj at b;simp only[qk,tl,or_false]at b;rcases b with rfl | rfl | rfl | rfl | rfl
 .exact⟨_,a.e,rfl⟩
 .exact⟨_,a.r,rfl⟩
 .exact⟨_,a.v,rfl⟩
 .exact⟨_,a.u,rfl⟩
 .exact⟨_,a.d,rfl⟩
theorem lF.app{W:KX}{base n:Nat}{xs bs}{v a:J3}{b:Obj}(h:lF W v bs)(c:W.ownsRow base 50 2 a n xs)(d:gP a (W.alloc b) w' p):lF w' v bs:=
 h.imp λ_ h=>ix d (World.ownsRow.alloc h b) (cr h c ag)
theorem Hb{w:KX}{base:Nat}{y:mY}(h:iO w base y r k)(hl:(aH J0 r.raw).length<=1000/\(r.V0 k).length<=1000/\(rh r.es r.ch).length<=1000/\(dU r.es r.ch).length<=1000)(hk:k<=1000):K1 prog 9 #[LV #[y.g.v,y.h.v,y.u.v,y.d.v,y.k.v,Kx Mm y.c],k] w (nY w (Cj r k)):=by
 obtain⟨G,hG⟩:=ac (k+1);have J:G<=1048576:=af;have tQ:=ae (λW=>mU 117 G J W);have VM:=ae (λW=>mU 100 G J W);have T:=bO (ly 117 ag J);have U:=bO (ly 100 ag J);have Za:Lk (∀W,Lg w w W->K1 prog 28 #[LV #[y.g.v,y.h.v],G] W (NZ W (aF 101 G) (aF 114 G) (aF 118 G) (cC (aF 101 G) 20 ((aH J0 r.raw).map aJ.bytes)) (cC (aF 114 G) 20 ((aH Jd r.raw).map aJ.bytes)) (cC (aF 118 G) 12 ((r.V0 k).map bZ.bytes)))):=ae (λW j=>by have:=Ks y.g.v y.h.v (aH J0 r.raw) (r.V0 k) G W (h.g.below j) (h.h.below j) hl.1 hl.2.1 J;rwa [mQ,uA]at this)
 obtain⟨aE,hP⟩:=ac (nY w (Cj r k));have HP:Lk (∀(w':KX)(v:J3)(l:List kL),w'.ownsRow w.heap.size 50 2 v l.length (tM l)->l.map (λp=>(p.1,p.2.2))=Cj r k->(∀p∈l,lF w' p.2.1 p.2.2)->Lg w w w'->aE (Mk v) w'):=ae (λw' v l h1 h2 h3 h4=>by rw[hP];exact⟨v,l,rfl,h1,h2,h3,h4⟩);rw[<- hP];unfold Cj at HP;rw[<- hG]at HP;have wk:cf Mm ((k:Int)+1)=G:=by rw[ax]<;>omega
 have bd:Lk (∀W,Lg w w W->K1 prog 30 #[y.u.v] W (sS W ((rh r.es r.ch).map aJ.bytes))):=ae (λW j=>lD _ _ W (h.u.below j) af);have co:Lk (∀W,Lg w w W->K1 prog 30 #[y.d.v] W (sS W ((dU r.es r.ch).map aJ.bytes))):=ae (λW j=>lD _ _ W (h.d.below j) af);have ci:Lk (∀W u,iq W u ((rh r.es r.ch).map aJ.bytes)->K1 prog 29 #[.string (aF 117 G),u,Kx Mm 12] W (A8 W (cC (aF 117 G) 20 ((rh r.es r.ch).map aJ.bytes)))):=ae (λW u hu=>iL _ T u 12 20 _ W hu (dN _) (by rw[dj];omega) ag ag);have de:Lk (∀W u,iq W u ((dU r.es r.ch).map aJ.bytes)->K1 prog 29 #[.string (aF 100 G),u,Kx Mm 12] W (A8 W (cC (aF 100 G) 20 ((dU r.es r.ch).map aJ.bytes)))):=ae (λW u hu=>iL _ U u 12 20 _ W hu (dN _) (by rw[dj];omega) ag ag);clear hl hk J T U hG hP h;generalize (aH J0 r.raw).map aJ.bytes=E1 at *;generalize (aH Jd r.raw).map aJ.bytes=E2 at *;generalize (r.V0 k).map bZ.bytes=E3 at *;generalize (rh r.es r.ch).map aJ.bytes=E4 at *;generalize (dU r.es r.ch).map aJ.bytes=E5 at *;generalize aF 101 G=nE at *;generalize aF 114 G=nR at *;generalize aF 118 G=nV at *;generalize aF 117 G=nU at *;generalize aF 100 G=nD at *;obtain⟨⟨F,D,L⟩,⟨H,K,C⟩,⟨I,E,A⟩,⟨n,z,q⟩,⟨S,O,R⟩,c⟩:=y;dsimp only[Slc.v]at *;have fF:Lk (Lg w w (w.alloc (Mi #[.slice F D L,.slice H K C,.slice I E A,.slice n z q,.slice S O R,Kx Mm c] 42))):=ae aj;have UJ:Lk ((w.alloc (Mi #[.slice F D L,.slice H K C,.slice I E A,.slice n z q,.slice S O R,Kx Mm c] 42)).heap[w.heap.size]? = IT (Mi #[.slice F D L,.slice H K C,.slice I E A,.slice n z q,.slice S O R,Kx Mm c] 42)):=ae (Lw w _);go_enter func9,ntmps9;go_wp2_with fail;generalize w.alloc (Mi #[.slice F D L,.slice H K C,.slice I E A,.slice n z q,.slice S O R,Kx Mm c] 42)=b at *;have HK:Lk (∀W,Lg b b W->W.cell? w.heap.size=IT (.slice F D L)/\W.cell? ⟨w.heap.size,1,KK⟩=IT (.slice H K C)/\W.cell? ⟨w.heap.size,2,KK⟩=IT (.slice I E A)/\W.cell? ⟨w.heap.size,3,KK⟩=IT (.slice n z q)):=ae (λW j=>by have P:=(j.block _ (bD UJ.out)).trans UJ.out;refine⟨?_,?_,?_,?_⟩<;>rw[au P]<;>rfl)
 have HT:Lk (∀W t,Lg b b W->Lg W W t->Lg b b t):=ae (λW t h h'=>h.trans (h'.mono h.size));have HW:Lk (∀W,Lg b b W->Lg w w W):=ae (λW h=>fF.out.trans (h.mono fF.out.size));have al:Lk (∀W,Lg b b W->W.heap[w.heap.size]? = IT (Mi #[.slice F D L,.slice H K C,.slice I E A,.slice n z q,.slice S O R,Kx Mm c] 42)):=ae (λW j=>(j.block _ (bD UJ.out)).trans UJ.out);obtain⟨bb,r9⟩:=ac w.heap.size;rw[<- r9]at HK al ⊢;clear r9;go_call(tQ.out b) as e w1⟨rfl,hb1⟩;have cD:=ae hb1;clear hb1;go_wp2_with fail;go_call(VM.out w1) as e B⟨rfl,hb2⟩;have cA:=ae (HT.out _ _ cD.out hb2);obtain⟨c0,c1,-,-⟩:=HK.out B cA.out;have Z:=ae (Za.out B (HW.out _ cA.out));clear hb2;go_wp2_with fail;go_call Z.out as e w3⟨g,b1,b2,b3,rfl,hq,hr1,hr2,hr3,hb3,hg⟩;have gU:=ae (HT.out _ _ cA.out hb3);have uT:Lk (w3.ownsRow w.heap.size 50 2 (.slice g 3 3) 3 (tM [(nE,b1,cC nE 20 E1),(nR,b2,cC nR 20 E2),(nV,b3,cC nV 12 E3)])):=ae ⟨rfl,.inr ⟨g,3,_,rfl,No fF.out.size cA.out.size,hq,cg _,ag,rfl,rfl⟩⟩;have Dw:=ae (And.intro hr1 (And.intro hr2 hr3));obtain⟨-,-,c2,-⟩:=HK.out w3 gU.out;have Q:=ae (bd.out w3 (HW.out _ gU.out));clear hq hr1 hr2 hr3 hb3 hg c0 c1 Z;go_wp2_with fail;go_call Q.out as e w4⟨u4,rfl,hu4,hb4⟩;have Cl:=ae (ci.out w4 u4 hu4);have oZ:=ae (HT.out _ _ gU.out hb4);have Gi:=ae (aB uT.out hb4);have OP:=ae (show _/\_/\_ from⟨Dw.out.1.below hb4,Dw.out.2.1.below hb4,Dw.out.2.2.below hb4⟩);clear hu4 hb4 c2 Q uT Dw;go_wp2_with fail;go_call Cl.out as e w5⟨v5,rfl,JU,kR⟩;obtain⟨va,vc,rfl⟩:=aw JU;have uY:=ae (HT.out _ _ oZ.out kR);have m:=ae (aB Gi.out kR);have i:=ae (show _/\_/\_/\lF _ _ _ from⟨OP.out.1.below kR,OP.out.2.1.below kR,OP.out.2.2.below kR,⟨_,JU⟩⟩);have V:Lk (w.heap.size<=w5.heap.size):=ae (HW.out _ uY.out).size;generalize (cC nU 20 E4).length=q4 at *;clear JU kR Cl Gi OP;go_wp2_with (at_builtin;refine kA rfl _ _ rfl w.heap.size _ [(nE,b1,cC nE 20 E1),(nR,b2,cC nR 20 E2),(nV,b3,cC nV 12 E3)] rfl m.out (nU,.slice va q4 vc,cC nU 20 E4) 1 rfl ai V.out rfl ?_);intro v6 w6 Ca o;have mo:=ae (bH ((HW.out _ uY.out).alloc V.out _) (λx P=>aD m.out x P) o).1;have Hs:=ae Ca;have d:=ae (show _/\_/\_/\_ from⟨i.out.1.app m.out o,i.out.2.1.app m.out o,i.out.2.2.1.app m.out o,i.out.2.2.2.app m.out o⟩);have c3:w6.cell? ⟨bb,3,KK⟩=IT (.slice n z q):=by have h5:=al.out w5 uY.out;rw[au (fo (World.ownsRow.alloc m.out _) o (((MapKept.heap_alloc _ _).2 _ (bD h5)).trans h5) ag)];rfl
 have Y:=ae (co.out w6 mo.out);clear Ca o m i;go_wp2_with fail;go_call Y.out as e w7⟨u7,rfl,hu7,xH⟩;have N:=ae (de.out w7 u7 hu7);have tN:=ae (mo.out.trans (xH.mono mo.out.size));have FV:=ae (aB Hs.out xH);have M:=ae (show _/\_/\_/\_ from⟨d.out.1.below xH,d.out.2.1.below xH,d.out.2.2.1.below xH,d.out.2.2.2.below xH⟩);clear hu7 xH c3 Y Hs d;go_wp2_with fail;go_call N.out as e w8⟨v8,rfl,hv8,vF⟩;obtain⟨am,ce,rfl⟩:=aw hv8;have vI:=ae (tN.out.trans (vF.mono tN.out.size));have s:=ae (aB FV.out vF);have f:=ae (show _/\_/\_/\_/\lF _ _ _ from⟨M.out.1.below vF,M.out.2.1.below vF,M.out.2.2.1.below vF,M.out.2.2.2.below vF,⟨_,hv8⟩⟩);generalize (cC nD 20 E5).length=q5 at *;clear hv8 vF N FV M;go_wp2_with (at_builtin;refine kA rfl _ _ rfl w.heap.size _ _ rfl s.out (nD,.slice am q5 ce,cC nD 20 E5) 1 rfl ai vI.out.size rfl ?_);intro v9 w9 X a;have HQ:=ae (HP.out w9 v9 _ X rfl (by
  intro p hp;simp only[qk,tl,or_false]at hp;rcases hp with rfl | rfl | rfl | rfl | rfl
  .exact f.out.1.app s.out a
  .exact f.out.2.1.app s.out a
  .exact f.out.2.2.1.app s.out a
  .exact f.out.2.2.2.1.app s.out a
  .exact f.out.2.2.2.2.app s.out a) (bH (vI.out.alloc vI.out.size _) (λx P=>aD s.out x P) a).1)
 clear X a;go_wp2;exact HQ.out
end
theorem K6{w:KX}{base:Nat}{v:J3}{l:List kL}(h:j9 w base v l)(E:l.length<=1000)(name:Name)(f:name∈l.map (·.1)):K1 prog 10 #[v,.string name] w (sQ w l name):=by
 have H:=ae h;rcases h.shape with⟨rfl,_⟩|⟨g,cap,rfl,C,e⟩
 .cases f
 unfold maxLen at e;have D:Lk (∀i,i<l.length->∃p,l[i]? = IT p):=ae (λi hi=>⟨_,bk hi⟩);have B:Lk (¬∀(i:Nat)(p:kL),i<l.length->l[i]? = IT p->p.1≠name):=ae (λa=>by obtain⟨p,b,rfl⟩:=gl.1 f;obtain⟨i,hi,rfl⟩:=List.getElem_of_mem b;exact a i _ hi (bk hi) rfl)
 have z:Lk (∀(i:Nat)(p:kL),l[i]? = IT p->p∈l):=ae (λi p b=>cx b);clear h f;generalize s:l.length=N at *;have A:=ae s;clear s;go_enter func10,ntmps10;go_wp2;go_loopw [6] (λk W=>∃i:Nat,i<=N/\k=Kx Mm (i:Int)/\(∀(j:Nat)(p:kL),j<i->l[j]? = IT p->p.1≠name)/\W=w) (λk _=>N-(Lo k).toNat)
 case atStart=>exact⟨0,em _,rfl,(λj p x=>absurd x (Dc _)),rfl⟩
 case round=>
  obtain⟨i,hi,rfl,a,rfl⟩:=hrel;have u:=ae a;clear a;by_cases q:i<N
  .obtain⟨p,b⟩:=D.out i q;have t:=ae b;obtain⟨y,G⟩:=H.out.cells b;clear b;by_cases c:p.1=name
   .have o:=ae c;rw[c]at y;clear c;go_wp2;go_ret2;exact⟨p,z.out i p t.out,o.out,rfl,rfl⟩
   .have I:=rE c;have o:=ae c;clear c;generalize d:p.1=F at *;have m:=ae d;clear d;go_wp2;go_roundw
    case rel=>exact⟨i+1,af,by go_num,(λj r x n=>by
     rcases lb j i with h | h
     .exact u.out j r h n
     .obtain rfl:j=i:=af
      rw[t.out]at n;rw[<- Option.some.inj n,m.out];exact o.out),trivial⟩
    case measure=>simp[Lo];omega
  .obtain rfl:N=i:=af
   exact absurd u.out B.out
theorem OI(h:aV){m:Nat}(i:eW m)(r:2<=m)(w:KX):K1 prog 16 #[] w λe w'=>e=Mk (.bool Jd)/\Lg w w w':=by
 go_enter func16,ntmps16;have p:Lk (Lg w w (w.alloc (Mi #[Kx Mo 0,Kx Mo 1,Kx MJ 1,Kx Mo 0,Kx Mo 1,Kx Mo 2,Kx MJ 1,Kx Mo 0] 63))):=ae aj;have l:Lk (gR (w.alloc (Mi #[Kx Mo 0,Kx Mo 1,Kx MJ 1,Kx Mo 0,Kx Mo 1,Kx Mo 2,Kx MJ 1,Kx Mo 0] 63)) (.slice w.heap.size 2 2) [⟨0,1,1,0⟩,⟨1,2,1,0⟩]):=ae ⟨_,2,rfl,.inr ⟨w.heap.size,0,rfl,λj x b=>by
  match j,b with
  |0,b=>cases b;simp
  |1,b=>cases b;simp
  |j+2,b=>cases b⟩⟩
 go_wp2_with fail;generalize w.alloc (Mi #[Kx Mo 0,Kx Mo 1,Kx MJ 1,Kx Mo 0,Kx Mo 1,Kx Mo 2,Kx MJ 1,Kx Mo 0] 63)=u at *;have c:=ae (Ci h i 3 0 ag ag l.out (by rw[show 3%25=3 from rfl,ZO];exact r));unfold KO at c;go_call c.out as e w1⟨db,pb,o1,d1,L1,rfl,hh1,hg1⟩;rw[show 3%25=3 from rfl,ZO]at hg1;have d:Held u w1 pb db 8 o1 d1 L1:=hh1;have o:=ae hg1;have k:=ae d;have g:=ae (vE h i (asj d hg1 m));unfold rR at g;rw[zN,ZP,al3,ZR,acX]at g;clear hh1 d hg1 c;unfold ptrTo at *;go_wp2_with fail;go_call g.out as e B⟨d2,o2,L2,rfl,dA,-,hr2⟩;have q:=ae (hr2 ag);have f:=ae (k.out.moved dA (λ_ e=>e.elim));have a:=ae (vE h i (asl f.out o.out q.out m));unfold rR at a;rw[zO,ZQ,al4,ZT,acY]at a;clear dA hr2 g;unfold ptrTo at *;go_wp2_with fail;go_call a.out as e w3⟨d3,o3,L3,rfl,fD,-,hr3⟩;have t:=ae (hr3 ag);have n:=ae (f.out.moved fD (λ_ e=>e.elim));have hr2:=ae (vE h i (asm n.out o.out q.out t.out m));unfold rR at hr2;rw[zP]at hr2;clear fD hr3 a;unfold ptrTo at *;go_wp2_with fail;go_call hr2.out as e w4⟨d4,o4,L4,rfl,fZ,hr4,-⟩;have v:=ae (hr4 trivial);have s:Lk (Lg w w w4):=ae (by obtain rfl:=v.out;exact p.out.trans ((n.out.moved fZ (λ_ e=>e.elim)).below.mono p.out.size))
 clear fZ hr4 hr2;go_wp2;go_ret;exact⟨rfl,s.out⟩
end Go.Proofs.YtofigggbapdfhaaGreatDoor
