/-
  Joined.
-/
import Derived.Test.YtofigggbapdfhaaGreatDoorR02
import Derived.Sort.WalkA
import Derived.Shelf.SlicesQ.Load
import Derived.Shelf.SlicesQ.Reverse
import Derived.Shelf.RegionOpenPlain
import Derived.Sort.WalkB3
import Derived.Sort.LotD5
import Derived.Sort.Walk7
import Derived.Deep.CutBlock
import Derived.Sort.WalkC
import Derived.Sort.WalkA6
import Derived.Sort.AssemblyPlain
import Derived.Sort.Walk13a
set_option maxRecDepth 100000
set_option maxHeartbeats 32000000
open Option renaming some->IT,none->KK
open Bool renaming true->Jd,false->J0,and_eq_true->j4
open List renaming length_append->eh,length_cons->it,eq_nil_of_length_eq_zero->jJ,append_assoc->o0,cons_append->DD
open Nat renaming le_refl->cg,le_trans->cp,zero_le->em,zero_add->j0,add_sub_cancel->ta
open Array renaming getElem?_eq_some_iff->ds
open UInt64 renaming ofNat->nM
open Int renaming natCast_zero->DE
namespace Go.Proofs
open Go.Shelf
def Tryz.sortEdges_ren:Go.Shelf.Ren:=⟨λ| 6=>237 | 15=>72 | 14=>272 | 28=>134 | 29=>135 | 20=>289 | 21=>290 | 22=>291 | 23=>292 | 24=>293 | 25=>294 | 26=>295 | 27=>296 | 46=>301 | 47=>188 | 48=>189 | 49=>302 | 50=>303 | 57=>305 | n=>n,λ| 22=>22 | 24=>63 | 25=>280 | 3=>3 | 39=>156 | 0=>0 | 53=>33 | 55=>61 | 4=>4 | 46=>220 | 45=>219 | 50=>224 | 5=>5 | 9=>9 | 66=>264 | 70=>268 | 76=>307 | 77=>54 | n=>n,λ| n=>n⟩
theorem Tryz.sortEdges:Go.Proofs.SlLaysF0.n6 prog Tryz.sortEdges_ren:={
 mixed:=ah
 f6:=⟨Tryz.f237.name,ag,func237.trans ar⟩
 f14:=⟨Tryz.f272.name,ag,func272.trans ar⟩
 f15:=func72.trans ar
 f20:=⟨Tryz.f289.name,ag,func289.trans ar⟩
 f21:=⟨Tryz.f290.name,ag,func290.trans ar⟩
 f22:=⟨Tryz.f291.name,ag,func291.trans ar⟩
 f23:=⟨Tryz.f292.name,ag,func292.trans ar⟩
 f24:=⟨Tryz.f293.name,ag,func293.trans ar⟩
 f25:=⟨Tryz.f294.name,ag,func294.trans ar⟩
 f26:=⟨Tryz.f295.name,ag,func295.trans ar⟩
 f27:=⟨Tryz.f296.name,ag,func296.trans ar⟩
 f28:=func134.trans ar
 f29:=func135.trans ar
 f46:=⟨Tryz.f301.name,ag,func301.trans ar⟩
 f47:=func188.trans ar
 f48:=func189.trans ar
 f49:=⟨Tryz.f302.name,ag,func302.trans ar⟩
 f50:=⟨Tryz.f303.name,ag,func303.trans ar⟩
 f57:=⟨Tryz.f305.name,ag,func305.trans ar⟩
 t0:=Tryz.underlying0
 a0:=Tryz.isAgg0
 z0:=Tryz.sizeOf0
 v0:=Tryz.zeroValue0
 t3:=Tryz.underlying3
 a3:=Tryz.isAgg3
 z3:=Tryz.sizeOf3
 v3:=Tryz.zeroValue3
 t4:=Tryz.underlying4
 a4:=Tryz.isAgg4
 z4:=Tryz.sizeOf4
 v4:=Tryz.zeroValue4
 t5:=Tryz.underlying5
 a5:=Tryz.isAgg5
 z5:=Tryz.sizeOf5
 v5:=Tryz.zeroValue5
 t9:=Tryz.underlying9
 a9:=Tryz.isAgg9
 z9:=Tryz.sizeOf9
 v9:=Tryz.zeroValue9
 t22:=Tryz.underlying22
 a22:=Tryz.isAgg22
 z22:=Tryz.sizeOf22
 v22:=Tryz.zeroValue22
 t25:=Tryz.underlying280
 a25:=Tryz.isAgg280
 z25:=Tryz.sizeOf280
 v25:=Tryz.zeroValue280
 t39:=Tryz.underlying156
 a39:=Tryz.isAgg156
 z39:=Tryz.sizeOf156
 v39:=Tryz.zeroValue156
 t45:=Tryz.underlying219
 a45:=Tryz.isAgg219
 z45:=Tryz.sizeOf219
 v45:=Tryz.zeroValue219
 t46:=Tryz.underlying220
 a46:=Tryz.isAgg220
 z46:=Tryz.sizeOf220
 v46:=Tryz.zeroValue220
 t50:=Tryz.underlying224
 a50:=Tryz.isAgg224
 z50:=Tryz.sizeOf224
 v50:=Tryz.zeroValue224
 t53:=Tryz.underlying33
 a53:=Tryz.isAgg33
 z53:=Tryz.sizeOf33
 v53:=Tryz.zeroValue33
 t55:=Tryz.underlying61
 a55:=Tryz.isAgg61
 z55:=Tryz.sizeOf61
 v55:=Tryz.zeroValue61
 t66:=Tryz.underlying264
 a66:=Tryz.isAgg264
 z66:=Tryz.sizeOf264
 v66:=Tryz.zeroValue264
 t70:=Tryz.underlying268
 a70:=Tryz.isAgg268
 z70:=Tryz.sizeOf268
 v70:=Tryz.zeroValue268
 t76:=Tryz.underlying307
 a76:=Tryz.isAgg307
 z76:=Tryz.sizeOf307
 v76:=Tryz.zeroValue307
 t77:=Tryz.underlying54
 a77:=Tryz.isAgg54
 z77:=Tryz.sizeOf54
 v77:=Tryz.zeroValue54 }
end Go.Proofs
namespace Go.Proofs.YtofigggbapdfhaaGreatDoor
open Go.RowKit Go.Maps Go.MapKept Go.Sort
open Go.Proofs.Tryz
open Go renaming World->KX,Value->J3,Calls->K1,Ending->Lp,heap_alloc_new->Lw
open Go.RowKit renaming Below->Lg,Hid->Lk,intOf->Lo
open Go.Value renaming int->Kx,tuple->Ly,agg->LV
open Go.Obj renaming cells->Mi
open Go.Ending renaming returned->Mk
open Go.IntKind renaming i64->Mm,u32->Mo,u64->MJ
open Go.IntKind renaming wrap->cf
open Go.Value renaming ownBlock->B2
variable {e w':KX}{f B k X sz p:Nat}{Q:Exit->Act->KX->Prop}{ops:Array Oper}{h:Oper}{v':J3}{j:Obj}{xs:List J3}{J:aJ}{i:List Nat}{α:Type}{r:List aJ}
def dH:List aJ->List J3
 | []=>[]
 |e::l=>e.cells++dH l
theorem qM(l:List aJ):(dH l).length=l.length*4:=by
 induction l with
 |nil=>rfl
 |cons e l a=>rw[dH,eh,a,it];simp;omega
theorem qN(a b:List aJ):dH (a++b)=dH a++dH b:=by
 induction a with
 |nil=>rfl
 |cons e a c=>rw[DD,dH,dH,c,o0]
theorem oW{l:List aJ}{i:Nat}{e:aJ}(h:l[i]? = IT e){j:Nat}(b:j<4):(dH l)[i*4+j]? = e.cells[j]? := by
 induction l generalizing i with
 |nil=>cases h
 |cons q l a=>
   rw[dH];cases i with
   |zero=>cases h;rw[List.getElem?_append_left (by simp[aJ.cells];omega)];simp
   |succ i=>rw[List.getElem?_append_right (by simp[aJ.cells];omega),<- a (i:=i) (by simpa using h)];congr 1;simp[aJ.cells];omega
abbrev aG(w:KX)(base:Nat)(v:J3)(l:List aJ):Prop:=w.ownsRow base 63 4 v l.length (dH l)
theorem bX{w:KX}{base g cap:Nat}{l:List aJ}(h:aG w base (.slice g l.length cap) l){i:Nat}{e:aJ}(hi:l[i]? = IT e) :
 w.cell? ⟨g,i*4,KK⟩=e.t/\w.cell? ⟨g,i*4+1,KK⟩=e.h/\w.cell? ⟨g,i*4+2,KK⟩=e.x/\w.cell? ⟨g,i*4+3,KK⟩=e.m:=by
 have a:∀(j:Nat)(u:J3),(dH l)[j]? = IT u->w.cell? ⟨g,j,KK⟩=IT u:=λj u b=>by have:=World.ownsRow.cells h (g:=g) rfl j u b;rwa [br,j0]at this
 refine⟨a _ _ ?_,a _ _ ?_,a _ _ ?_,a _ _ ?_⟩
 .have:=oW hi (j:=0) ag;rw[Nat.add_zero]at this;rw[this];rfl
 .rw[oW hi ag];rfl
 .rw[oW hi ag];rfl
 .rw[oW hi ag];rfl
theorem cJ{w:KX}{base:Nat}{v:J3}{l:List aJ}(h:aG w base v l):(l=[]/\v=.slice KK 0 0)\/∃g cap,v=.slice (IT ⟨g,0,KK⟩) l.length cap/\base<=g/\l.length<=cap/\cap<=maxLen:=by
 obtain⟨_,⟨a,b⟩|⟨g,cap,e,a,b,f,c,d,_⟩⟩:=h
 .exact .inl ⟨jJ b,a⟩
 .exact .inr ⟨g,cap,a,b,c,d⟩
theorem uX:(prog.info? 63).map (λi=>(i.zero,i.size,i.bytes))=IT (IT (LV #[Kx Mo 0,Kx Mo 0,Kx MJ 0,Kx Mo 0]),4,24):=ah
def di(a:Nat):Value:=.func (.func 203) #[ptrTo a] #[]
def Ej(b:Bool)(w:KX)(base g cap:Nat)(es:List aJ)(e:Lp)(w':KX):Prop:=
 ∃ts,e=Mk (Ly #[])/\ts.Perm es/\ts.Pairwise (er b)/\aG w' base (.slice g es.length cap) ts/\aN (·=g) w w'
def um(m:Nat):Prop:=∀{w:KX}{jb pb bz made:Nat}{b:Bool},dC w jb pb bz made b->∀{base g cap:Nat}(es:List aJ),es.length<=m->aG w base (.slice g es.length cap) es->g≠jb->g≠bz ->
 Calls prog 237 #[.slice g es.length cap,di jb] w (Ej b w base g cap es)
theorem JD(p:Option Addr)(cap:Nat)(a:J3)(w:KX):K1 prog 237 #[.slice p 0 cap,a] w λe w'=>e=Mk (Ly #[])/\w=w':=
 (AnyF.slices_SortFunc_none (P:=prog) (ρ:=Tryz.sortEdges_ren) { Tryz.sortEdges with } p cap a w).mono λ_ _ ⟨c,b⟩=>⟨c,b.symm⟩
instance:Inhabited aJ:=⟨Ei⟩
structure gT(bt:Bool)(w0:KX)(jb pb bz made base g cap:Nat)(d:Array aJ)(W:KX):Prop where
 row:aG W base (.slice g d.size cap) d.toList
 JE:dC W jb pb bz made bt
 nj:g≠jb
 nb:g≠bz
 turn:aN (·=g) w0 W
section
variable {bt:Bool}{w0 W:KX}{jb pb bz made base g cap:Nat}{d:Array aJ}
theorem gT.below(h:gT bt w0 jb pb bz made base g cap d W)(a:Lg W W e):gT bt w0 jb pb bz made base g cap d e:=
 ⟨aB h.row a,h.JE.below a,h.nj,h.nb,h.turn.b7 a⟩
theorem gT.drew(h:gT bt w0 jb pb bz made base g cap d W):gT bt w0 jb pb bz made base g cap d W.drew:=h.below aq.drew
theorem gT.cells(h:gT bt w0 jb pb bz made base g cap d W){i:Nat}(hi:i<d.size) :
 W.cell? ⟨g,i*4,KK⟩=IT (Kx Mo (d[i]!.t.toNat:Int))/\W.cell? ⟨g,i*4+1,KK⟩=IT (Kx Mo (d[i]!.h.toNat:Int))/\W.cell? ⟨g,i*4+2,KK⟩=IT (Kx MJ (d[i]!.x.toNat:Int))/\W.cell? ⟨g,i*4+3,KK⟩=IT (Kx Mo (d[i]!.m.toNat:Int)):=by
 have a:d.toList[i]? = IT d[i]! := M2
 have:=bX (l:=d.toList) (by have:=h.row;simpa using this) a;omega
theorem gT.cmp(h:gT bt w0 jb pb bz made base g cap d W)(x y:aJ):K1 prog 203 #[ptrTo jb,LV #[x.t,x.h,x.x,x.m],LV #[y.t,y.h,y.x,y.m]] W
  λe w'=>e=Mk (Kx Mm (aW bt x y))/\Lg W W w':=
 (BP h.JE x y).mono λ_ _ ⟨b,a⟩=>⟨b,a.below⟩
theorem PJ(l:List aJ)(i:Nat)(x:aJ)(hi:i<l.length):((((dH l).set (i*4) x.t).set (i*4+1) x.h).set (i*4+2) x.x).set (i*4+3) x.m=dH (l.set i x):=by
 induction l generalizing i with
 |nil=>rfl
 |cons e l a=>
   cases i with
   |zero=>rfl
   |succ i=>have:=a i M2;simp only[List.set_cons_succ,dH];grind
theorem Gy{l:List aJ}(h:aG W base (.slice g l.length cap) l)(i:Nat)(x:aJ)(hi:i<l.length) :
 aG (W.setCells g (i*4) x.cells) base (.slice g l.length cap) (l.set i x):=by have d:=World.ownsRow.stored h (i*4) x.t;have c:=World.ownsRow.stored d.1 (i*4+1) x.h;have a:=World.ownsRow.stored c.1 (i*4+2) x.x;have b:=World.ownsRow.stored a.1 (i*4+3) x.m;unfold aG;rw[List.length_set,<- PJ l i x hi];exact b.1
theorem gT.put(h:gT bt w0 jb pb bz made base g cap d W){i:Nat}(hi:i<d.size)(x:aJ):gT bt w0 jb pb bz made base g cap (d.setIfInBounds i x) (W.setCells g (i*4) x.cells):=by
 refine⟨?_,?_,h.nj,h.nb,h.turn.setCells g (i*4) x.cells (.inl rfl)⟩
 .grind [Gy,row]
 .have a:aN (·=g) W (W.setCells g (i*4) x.cells):=(aN.refl _ _).setCells g (i*4) x.cells (.inl rfl);exact h.JE.kept (a.block _ h.JE.lt.1 (λe=>h.nj e.symm)) (a.block _ h.JE.lt.2 (λe=>h.nb e.symm))
theorem gT.swapped(h:gT bt w0 jb pb bz made base g cap d W){i j:Nat}(hi:i<d.size)(a:j<d.size):gT bt w0 jb pb bz made base g cap (swp d i j) ((W.setCells g (i*4) d[j]!.cells).setCells g (j*4) d[i]!.cells):=
 (h.put hi d[j]!).put M2 d[i]!
structure ape(bt:Bool)(w0:KX)(jb pb bz made base g cap:Nat)(d:Array aJ)(W:KX)(i j p q:Nat)(x y:aJ):Prop where
 hp:i*4=p
 hq:j*4=q
 p0:W.cell? ⟨g,p,KK⟩=x.t
 p1:W.cell? ⟨g,p+1,KK⟩=x.h
 p2:W.cell? ⟨g,p+2,KK⟩=x.x
 p3:W.cell? ⟨g,p+3,KK⟩=x.m
 q0:W.cell? ⟨g,q,KK⟩=y.t
 q1:W.cell? ⟨g,q+1,KK⟩=y.h
 q2:W.cell? ⟨g,q+2,KK⟩=y.x
 q3:W.cell? ⟨g,q+3,KK⟩=y.m
 fr:∀k,W.frozen? ⟨g,k,KK⟩=J0
 apart:i≠j->p≠q/\p≠q+1/\p≠q+2/\p≠q+3/\p+1≠q/\p+2≠q/\p+3≠q
 done:gT bt w0 jb pb bz made base g cap (swp d i j) (((((((((W.setCell ⟨g,p,KK⟩ y.t).setCell ⟨g,p+1,KK⟩ y.h).setCell ⟨g,p+2,KK⟩ y.x).setCell ⟨g,p+3,KK⟩ y.m).setCell ⟨g,q,KK⟩ x.t).setCell ⟨g,q+1,KK⟩ x.h).setCell ⟨g,q+2,KK⟩ x.x).setCell ⟨g,q+3,KK⟩ x.m)).drew
theorem gT.nQ(h:gT bt w0 jb pb bz made base g cap d W){i j:Nat}(hi:i<d.size)(b:j<d.size){x y:aJ}(o:d[i]! = x)(r:d[j]! = y):∃p q,ape bt w0 jb pb bz made base g cap d W i j p q x y:=by obtain⟨a0,m,a2,a3⟩:=h.cells hi;obtain⟨l,e,c,f⟩:=h.cells b;have a:=(h.swapped hi b).drew;rw[o]at a0 m a2 a3 a;rw[r]at l e c f a;exact⟨i*4,j*4,rfl,rfl,a0,m,a2,a3,l,e,c,f,λk=>World.ownsRow.frozenAt h.row k,λn=>af,a⟩
end
section
variable {bt:Bool}{w0 W:KX}{jb pb bz made base g cap:Nat}{d:Array aJ}
def pX(b:Bool)(w0:KX)(h c f a base g cap:Nat)(d:Array aJ)(e:Lp)(w':KX):Prop:=e=Mk (Ly #[])/\gT b w0 h c f a base g cap d w'
theorem pY(h:gT bt w0 jb pb bz made base g cap d W)(a b:Nat)(ci:a<=b)(hb:b<=d.size)(K:d.size<=1000000):K1 prog 289 #[.slice g d.size cap,a,b,di jb] W (pX bt w0 jb pb bz made base g cap (insertionSort (ltOf (aW bt)) d a b)):=by
 have H:=ae h;clear h;obtain⟨N,R⟩:=ac d.size;rw[<- R]at hb K ⊢;have HN:=ae R;clear R;unfold di ptrTo;go_enter func289,ntmps289;go_wp2;go_loopw [8] (λQ wr=>∃(i:Nat)(q:Array aJ),Q=i/\a<i/\i<=b+1/\q.size=N/\gT bt w0 jb pb bz made base g cap q wr/\Lk (insOuter (ltOf (aW bt)) a b i q=insOuter (ltOf (aW bt)) a b (a+1) d)) (λQ _=>b+1-(Lo Q).toNat)
 case atStart=>exact⟨a+1,d,by go_num,af,af,HN.out.symm,H.out,rfl⟩
 case round=>
  obtain⟨i,q,rfl,al,bd,s,Z,V⟩:=hrel;have X:=ae Z;have AJ:=ae s;clear Z s;by_cases A:i<b
  .have qO:(i:Int)<b:=af;go_wp2;go_loopw [9] (λJ L=>∃(j:Nat)(f:Array aJ),J=j/\a<=j/\j<=i/\f.size=N/\gT bt w0 jb pb bz made base g cap f L/\Lk (insInner (ltOf (aW bt)) a j f=insInner (ltOf (aW bt)) a i q)) (λJ _=>(Lo J).toNat)
   case atStart=>exact⟨i,q,rfl,af,cg _,AJ.out,X.out,rfl⟩
   case round=>
    obtain⟨j,f,rfl,ce,tO,w,v,Y⟩:=hrel;have r:=ae v;have t:=ae w;clear v w;have z:Lk ((j<=a\/ltOf (aW bt) f[j]! f[j-1]! = J0)->insOuter (ltOf (aW bt)) a b (i+1) f=insOuter (ltOf (aW bt)) a b (a+1) d):=ae (λhq=>by rw[<- V.out,insOuter_go _ _ _ _ _ A,<- Y.out,insInner_stop _ _ _ _ hq])
    generalize wr=k at *;by_cases G:a<j
    .obtain⟨jp,rfl⟩:∃jp,j=jp+1:=⟨j-1,af⟩;have S:(a:Int)<jp+1:=af;have am:cf Mm (jp:Int)=jp:=ax af af;have jz:(jp:Int)+1<(N:Int):=af;have aE:(jp:Int)<N:=af;have p0:(0:Int)<=jp+1:=af;have e0:((jp:Int)+1).toNat=jp+1:=af;have C:Lk (jp+1<f.size/\jp<f.size):=ae ⟨by rw[t.out];omega,by rw[t.out];omega⟩;obtain⟨l,o⟩:∃x,f[jp+1]! = x:=⟨_,rfl⟩;obtain⟨m,B⟩:∃x,f[jp]! = x:=⟨_,rfl⟩;have D:Lk (∀w',Lg k k w'->w'.cell? ⟨g,(jp+1)*4,KK⟩=l.t/\w'.cell? ⟨g,(jp+1)*4+1,KK⟩=l.h/\w'.cell? ⟨g,(jp+1)*4+2,KK⟩=l.x/\w'.cell? ⟨g,(jp+1)*4+3,KK⟩=l.m):=ae (λw' c=>by rw[<- o];exact(r.out.below c).cells C.out.1);have F:Lk (∀w',Lg k k w'->w'.cell? ⟨g,jp*4,KK⟩=m.t/\w'.cell? ⟨g,jp*4+1,KK⟩=m.h/\w'.cell? ⟨g,jp*4+2,KK⟩=m.x/\w'.cell? ⟨g,jp*4+3,KK⟩=m.m):=ae (λw' c=>by rw[<- B];exact(r.out.below c).cells C.out.2);have I:Lk (∀w',Lg k k w'->K1 prog 203 #[.pointer jb,LV #[l.t,l.h,l.x,l.m],LV #[m.t,m.h,m.x,m.m]] w' λe O=>e=Mk (Kx Mm (aW bt l m))/\Lg k k O):=ae (λw' c=>((r.out.below c).cmp l m).mono λ_ _ ⟨h1,h2⟩=>⟨h1,c.trans (h2.mono c.size)⟩);by_cases M:aW bt l m<0
     .go_wp2_with fail;refine wq k ?_;iterate 4 (refine qz ?_)
      iterate 4 (refine qz ?_)
      refine qz ?_ (λw' c=>by obtain⟨P,c1,c2,c3⟩:=D.out w' c;go_simp<;>rfl);iterate 4 (refine qz ?_)
      refine qz ?_ (λw' c=>by obtain⟨P,c1,c2,c3⟩:=F.out w' c;go_simp<;>rfl);refine qw (λw' c=>I.out w' c) ?_;iterate 2 (refine qz ?_)
      refine wpQuiet_nil ?_;intro E n;have T:=ae (r.out.below n);clear n;go_wp2_with fail;obtain⟨pp,qq,y⟩:=T.out.nQ C.out.1 C.out.2 o B;have sA:=ae y;obtain⟨pE,JF,x0,x1,x2,x3,y0,y1,y2,y3,ew,u,-⟩:=y;obtain⟨n0,n1,n2,n3,n4,n5,n6⟩:=u af;clear D F I u;go_big_region
      all_goals
       clear x0 x1 x2 x3 y0 y1 y2 y3 n0 n1 n2 n3 n4 n5 n6 ew;have p:=ae sA.out.done;go_wp2;have U:insInner (ltOf (aW bt)) a jp (swp f (jp+1) jp)=insInner (ltOf (aW bt)) a i q:=by have:=insInner_go (lt:=ltOf (aW bt)) a (jp+1) f G (by rw[ta,o,B];exact decide_eq_true M);rw[ta]at this;rw[<- Y.out,this]
       exact⟨⟨jp,swp f (jp+1) jp,rfl,af,af,by rw[size_swp];exact t.out,p.out,U⟩,by simp[Lo]⟩
     .go_wp2_with fail;refine wq k ?_;iterate 4 (refine qz ?_)
      iterate 4 (refine qz ?_)
      refine qz ?_ (λw' c=>by obtain⟨P,c1,c2,c3⟩:=D.out w' c;go_simp<;>rfl);iterate 4 (refine qz ?_)
      refine qz ?_ (λw' c=>by obtain⟨P,c1,c2,c3⟩:=F.out w' c;go_simp<;>rfl);refine qw (λw' c=>I.out w' c) ?_;iterate 2 (refine qz ?_)
      refine wpQuiet_nil ?_;intro E n;have T:=ae (r.out.below n);clear n;go_wp2;have pN:=ae (z.out (.inr (by rw[ta,o,B];exact decide_eq_false af)));exact⟨⟨i+1,f,by go_num,af,af,t.out,T.out,pN⟩,by simp[Lo];omega⟩
    .have S:¬(a:Int)<j:=af;go_wp2_with fail;go_quiet (fail)
     go_wp2;have z7:RowKit.Below k.heap.size k (k.drewN nq):=⟨rfl,rfl,rfl,cg _,λ_ _=>rfl⟩;exact⟨⟨i+1,f,by go_num,af,af,t.out,r.out.below z7,ae (z.out (.inl af))⟩,by simp[Lo];omega⟩
  .have qO:¬(i:Int)<b:=af;go_wp2;go_end0
   exact⟨rfl,by unfold insertionSort;rw[<- V.out,insOuter_stop _ _ _ _ _ A];exact X.out⟩
end
section
variable {bt:Bool}{w0 W:KX}{jb pb bz made base g cap:Nat}{d:Array aJ}
def Reads(b:Bool)(W:KX)(c g p q:Nat)(x y:aJ):Prop:=∀w',RowKit.Below W.heap.size W w' ->
 (w'.cell? ⟨g,p,KK⟩=x.t/\w'.cell? ⟨g,p+1,KK⟩=x.h/\w'.cell? ⟨g,p+2,KK⟩=x.x/\w'.cell? ⟨g,p+3,KK⟩=x.m) /\
 (w'.cell? ⟨g,q,KK⟩=y.t/\w'.cell? ⟨g,q+1,KK⟩=y.h/\w'.cell? ⟨g,q+2,KK⟩=y.x/\w'.cell? ⟨g,q+3,KK⟩=y.m) /\
 Calls prog 203 #[.pointer c,LV #[x.t,x.h,x.x,x.m],LV #[y.t,y.h,y.x,y.m]] w'
  λe a=>e=Mk (Kx Mm (aW b x y))/\RowKit.Below W.heap.size W a
theorem gT.reads(h:gT bt w0 jb pb bz made base g cap d W){i j:Nat}(hi:i<d.size)(b:j<d.size){x y:aJ}(f:d[i]! = x)(k:d[j]! = y):Reads bt W jb g (i*4) (j*4) x y:=λ_ a=>⟨f▸(h.below a).cells hi,k▸(h.below a).cells b,((h.below a).cmp x y).mono λ_ _ ⟨c,e⟩=>⟨c,a.trans (e.mono a.size)⟩⟩
end
section
variable {bt:Bool}{w0 W:KX}{jb pb bz made base g cap:Nat}{d:Array aJ}
theorem JG{lt:aJ->aJ->Bool}{hi first:Nat}{d:Array aJ}(h:hi<=2*f+1):siftDown lt hi first f d=d:=by unfold siftDown;rw[dif_pos h]
theorem Ek{lt:aJ->aJ->Bool}{hi first:Nat}{d:Array aJ}(h:2*f+2<hi)(a:lt d[first+(2*f+1)]! d[first+(2*f+1)+1]! = Jd) :
 siftDown lt hi first f d=if lt d[first+f]! d[first+(2*f+2)]! = Jd then siftDown lt hi first (2*f+2) (swp d (first+f) (first+(2*f+2))) else d:=by
 conv=>lhs;unfold siftDown
 rw[dif_neg af,if_pos (by rw[a];simp;omega)];cases lt d[first+f]! d[first+(2*f+2)]! <;> simp[h]
theorem Gz{lt:aJ->aJ->Bool}{hi first:Nat}{d:Array aJ}(h:2*f+1<hi)(a:¬2*f+2<hi\/lt d[first+(2*f+1)]! d[first+(2*f+1)+1]! = J0) :
 siftDown lt hi first f d=if lt d[first+f]! d[first+(2*f+1)]! = Jd then siftDown lt hi first (2*f+1) (swp d (first+f) (first+(2*f+1))) else d:=by
 conv=>lhs;unfold siftDown
 rw[dif_neg af,if_neg (by
  intro e;simp only[j4,decide_eq_true_eq]at e;rcases a with a | a
  .omega
  .rw[a]at e;simp at e)]
 cases lt d[first+f]! d[first+(2*f+1)]! <;> simp
theorem tB{lt:aJ->aJ->Bool}{hi first r b P Q a:Nat}{d:Array aJ}(g:b=2*r+2)(c:P=first+r)(e:Q=first+(2*r+1))(i:a=first+(2*r+2))(h:b<hi)(f:lt d[Q]! d[a]! = Jd) :
 siftDown lt hi first r d=if lt d[P]! d[a]! = Jd then siftDown lt hi first b (swp d P a) else d:=by subst g c e i;exact Ek h f
theorem lq{lt:aJ->aJ->Bool}{hi first r C P Q a:Nat}{d:Array aJ}(g:C=2*r+1)(b:P=first+r)(c:Q=first+(2*r+1))(f:a=first+(2*r+2))(h:C<hi)(e:¬2*r+2<hi\/lt d[Q]! d[a]! = J0) :
 siftDown lt hi first r d=if lt d[P]! d[Q]! = Jd then siftDown lt hi first C (swp d P Q) else d:=by subst g b c f;exact Gz h e
theorem JH(h:gT bt w0 jb pb bz made base g cap d W)(lo hi first:Nat)(CP:lo<=hi)(hb:first+hi<=d.size)(ci:d.size<=1000000):K1 prog 301 #[.slice g d.size cap,lo,hi,first,di jb] W (pX bt w0 jb pb bz made base g cap (siftDown (ltOf (aW bt)) hi first lo d)):=by
 have H:=ae h;clear h;obtain⟨N,hN⟩:=ac d.size;rw[<- hN]at hb ci ⊢;have HN:=ae hN;clear hN;unfold di ptrTo;go_enter func301,ntmps301;go_wp2;go_loopw [10] (λvi wr=>∃(r:Nat)(c:Array aJ),vi=r/\r<=hi/\c.size=N/\gT bt w0 jb pb bz made base g cap c wr/\Lk (siftDown (ltOf (aW bt)) hi first r c=siftDown (ltOf (aW bt)) hi first lo d)) (λvi _=>hi-(Lo vi).toNat)
 case atStart=>exact⟨lo,d,rfl,CP,HN.out.symm,H.out,rfl⟩
 case round=>
  obtain⟨r,c,rfl,hr,M,hs,K⟩:=hrel;generalize wr=R at *;have S:=ae hs;have AJ:=ae M;clear hs;obtain⟨R2,al⟩:=ac (2*r);obtain⟨C,hC⟩:=ac (R2+1);obtain⟨E,bd⟩:=ac (C+1);obtain⟨P,hP⟩:=ac (first+r);obtain⟨Q,hQ⟩:=ac (first+C);obtain⟨t,X⟩:=ac (Q+1);have el:cf Mm (2*(r:Int))=R2:=by rw[ax]<;>omega
  have wC:cf Mm ((R2:Int)+1)=C:=by rw[ax]<;>omega
  have dq:cf Mm ((C:Int)+1)=E:=by rw[ax]<;>omega
  have wP:cf Mm ((first:Int)+r)=P:=by rw[ax]<;>omega
  have wQ:cf Mm ((first:Int)+C)=Q:=by rw[ax]<;>omega
  have du:cf Mm ((Q:Int)+1)=t:=by rw[ax]<;>omega
  have ee:cf Mm ((first:Int)+E)=t:=by rw[ax]<;>omega
  have O:Lk (C=2*r+1/\E=2*r+2/\P=first+r/\Q=first+(2*r+1)/\t=first+(2*r+2)):=ae af;by_cases G:C<hi
  .have ce:¬(C:Int) >= hi:=af;have bP:(P:Int)<N:=af;have bQ:(Q:Int)<N:=af;by_cases T:E<hi
   .have co:(E:Int)<hi:=af;have de:(t:Int)<N:=af;have b:Lk (P<c.size/\Q<c.size/\t<c.size/\P≠Q/\P≠t/\C<hi/\E<hi/\r<C/\r<E):=ae af;clear al hC bd hP hQ X M;obtain⟨xq,B⟩:∃x,c[Q]! = x:=⟨_,rfl⟩;obtain⟨aE,Xw⟩:∃x,c[t]! = x:=⟨_,rfl⟩;have I:=ae (S.out.reads (i:=Q) (j:=t) (Nm b.out) (Nm b.out) B Xw);by_cases RU:aW bt xq aE<0
    .go_wp2_with fail;refine wq R ?_;iterate 11 (refine qz ?_)
     refine qz ?_ (λw' a=>by obtain⟨⟨p,c1,c2,c3⟩,-,-⟩:=I.out w' a;go_simp<;>rfl);iterate 6 (refine qz ?_)
     refine qz ?_ (λw' a=>by obtain⟨-,⟨p,c1,c2,c3⟩,-⟩:=I.out w' a;go_simp<;>rfl);refine qw (λw' a=>(I.out w' a).2.2) ?_;iterate 2 (refine qz ?_)
     refine wpQuiet_nil ?_;intro u w;have z:=ae (S.out.below w);clear w;go_wp2_with fail;obtain⟨J,s⟩:∃x,c[P]! = x:=⟨_,rfl⟩;obtain⟨xc,q⟩:∃x,c[t]! = x:=⟨_,rfl⟩;have f:=ae (z.out.reads (i:=P) (j:=t) (Nm b.out) (Nm b.out) s q);by_cases o:aW bt J xc<0
     .go_wp2_with fail;refine wq u ?_;iterate 6 (refine qz ?_)
      refine qz ?_ (λw' a=>by obtain⟨⟨p,c1,c2,c3⟩,-,-⟩:=f.out w' a;go_simp<;>rfl);iterate 5 (refine qz ?_)
      refine qz ?_ (λw' a=>by obtain⟨-,⟨p,c1,c2,c3⟩,-⟩:=f.out w' a;go_simp<;>rfl);refine qw (λw' a=>(f.out w' a).2.2) ?_;iterate 2 (refine qz ?_)
      refine wpQuiet_nil ?_;intro w5 l;have y:=ae (z.out.below l);clear l;go_wp2_with fail;obtain⟨pp,qq,n⟩:=y.out.nQ (i:=P) (j:=t) (Nm b.out) (Nm b.out) s q;have Z:=ae n;obtain⟨pE,JF,Y,x1,x2,x3,y0,y1,y2,y3,V,m,-⟩:=n;obtain⟨n0,n1,n2,n3,n4,U,n6⟩:=m (Nm b.out);clear f m I;go_big_region
      all_goals
       clear Y x1 x2 x3 y0 y1 y2 y3 n0 n1 n2 n3 n4 U n6 V;have k:=ae Z.out.done;go_wp2;refine⟨⟨E,swp c P t,rfl,?_,by rw[size_swp];exact AJ.out,k.out,?_⟩,?_⟩
       .have:=b.out;omega
       .exact(by obtain⟨F,L,D,A,v⟩:=O.out;show siftDown _ _ _ _ _=_;rw[<- K.out,tB L D A v T (by rw[B,Xw];exact decide_eq_true RU),s,q,if_pos (by exact decide_eq_true o)])
       .have:=b.out;simp[Lo];omega
     .have am:decide (aW bt J xc<0)=false:=decide_eq_false o;go_wp2_with fail;refine wq u ?_;iterate 6 (refine qz ?_)
      refine qz ?_ (λw' a=>by obtain⟨⟨p,c1,c2,c3⟩,-,-⟩:=f.out w' a;go_simp<;>rfl);iterate 5 (refine qz ?_)
      refine qz ?_ (λw' a=>by obtain⟨-,⟨p,c1,c2,c3⟩,-⟩:=f.out w' a;go_simp<;>rfl);refine qw (λw' a=>(f.out w' a).2.2) ?_;iterate 2 (refine qz ?_)
      refine wpQuiet_nil ?_;intro w5 l;have y:=ae (z.out.below l);clear l;go_wp2;go_returns;refine⟨rfl,?_⟩;rw[show siftDown (ltOf (aW bt)) hi first lo d=c from by obtain⟨F,L,D,A,v⟩:=O.out;rw[<- K.out,tB L D A v T (by rw[B,Xw];exact decide_eq_true RU),s,q,if_neg (by intro e;have:=of_decide_eq_true e;omega)]]
      exact y.out
    .have dl:decide (aW bt xq aE<0)=false:=decide_eq_false RU;go_wp2_with fail;refine wq R ?_;iterate 11 (refine qz ?_)
     refine qz ?_ (λw' a=>by obtain⟨⟨p,c1,c2,c3⟩,-,-⟩:=I.out w' a;go_simp<;>rfl);iterate 6 (refine qz ?_)
     refine qz ?_ (λw' a=>by obtain⟨-,⟨p,c1,c2,c3⟩,-⟩:=I.out w' a;go_simp<;>rfl);refine qw (λw' a=>(I.out w' a).2.2) ?_;iterate 2 (refine qz ?_)
     refine wpQuiet_nil ?_;intro u w;have z:=ae (S.out.below w);clear w;go_wp2_with fail;obtain⟨J,s⟩:∃x,c[P]! = x:=⟨_,rfl⟩;obtain⟨xc,q⟩:∃x,c[Q]! = x:=⟨_,rfl⟩;have f:=ae (z.out.reads (i:=P) (j:=Q) (Nm b.out) (Nm b.out) s q);by_cases o:aW bt J xc<0
     .go_wp2_with fail;refine wq u ?_;iterate 6 (refine qz ?_)
      refine qz ?_ (λw' a=>by obtain⟨⟨p,c1,c2,c3⟩,-,-⟩:=f.out w' a;go_simp<;>rfl);iterate 5 (refine qz ?_)
      refine qz ?_ (λw' a=>by obtain⟨-,⟨p,c1,c2,c3⟩,-⟩:=f.out w' a;go_simp<;>rfl);refine qw (λw' a=>(f.out w' a).2.2) ?_;iterate 2 (refine qz ?_)
      refine wpQuiet_nil ?_;intro w5 l;have y:=ae (z.out.below l);clear l;go_wp2_with fail;obtain⟨pp,qq,n⟩:=y.out.nQ (i:=P) (j:=Q) (Nm b.out) (Nm b.out) s q;have Z:=ae n;obtain⟨pE,JF,Y,x1,x2,x3,y0,y1,y2,y3,V,m,-⟩:=n;obtain⟨n0,n1,n2,n3,n4,U,n6⟩:=m (Nm b.out);clear f m I;go_big_region
      all_goals
       clear Y x1 x2 x3 y0 y1 y2 y3 n0 n1 n2 n3 n4 U n6 V;have k:=ae Z.out.done;go_wp2;refine⟨⟨C,swp c P Q,rfl,?_,by rw[size_swp];exact AJ.out,k.out,?_⟩,?_⟩
       .have:=b.out;omega
       .exact(by obtain⟨F,L,D,A,v⟩:=O.out;show siftDown _ _ _ _ _=_;rw[<- K.out,lq F D A v G (.inr (by rw[B,Xw];exact decide_eq_false af)),s,q,if_pos (by exact decide_eq_true o)])
       .have:=b.out;simp[Lo];omega
     .have am:decide (aW bt J xc<0)=false:=decide_eq_false o;go_wp2_with fail;refine wq u ?_;iterate 6 (refine qz ?_)
      refine qz ?_ (λw' a=>by obtain⟨⟨p,c1,c2,c3⟩,-,-⟩:=f.out w' a;go_simp<;>rfl);iterate 5 (refine qz ?_)
      refine qz ?_ (λw' a=>by obtain⟨-,⟨p,c1,c2,c3⟩,-⟩:=f.out w' a;go_simp<;>rfl);refine qw (λw' a=>(f.out w' a).2.2) ?_;iterate 2 (refine qz ?_)
      refine wpQuiet_nil ?_;intro w5 l;have y:=ae (z.out.below l);clear l;go_wp2;go_returns;refine⟨rfl,?_⟩;rw[show siftDown (ltOf (aW bt)) hi first lo d=c from by obtain⟨F,L,D,A,v⟩:=O.out;rw[<- K.out,lq F D A v G (.inr (by rw[B,Xw];exact decide_eq_false af)),s,q,if_neg (by intro e;have:=of_decide_eq_true e;omega)]]
      exact y.out
   .have co:¬(E:Int)<hi:=af;have b:Lk (P<c.size/\Q<c.size/\P≠Q/\C<hi/\¬E<hi/\r<C):=ae af;clear al hC bd hP hQ X M;go_wp2_with fail;go_quiet (fail)
    have z7:RowKit.Below R.heap.size R (R.drewN nq):=⟨rfl,rfl,rfl,cg _,λ_ _=>rfl⟩;have z:=ae (S.out.below z7);clear z7;generalize R.drewN nq=u at *;go_wp2_with fail;obtain⟨J,s⟩:∃x,c[P]! = x:=⟨_,rfl⟩;obtain⟨xc,q⟩:∃x,c[Q]! = x:=⟨_,rfl⟩;have f:=ae (z.out.reads (i:=P) (j:=Q) (Nm b.out) (Nm b.out) s q);by_cases o:aW bt J xc<0
    .go_wp2_with fail;refine wq u ?_;iterate 6 (refine qz ?_)
     refine qz ?_ (λw' a=>by obtain⟨⟨p,c1,c2,c3⟩,-,-⟩:=f.out w' a;go_simp<;>rfl);iterate 5 (refine qz ?_)
     refine qz ?_ (λw' a=>by obtain⟨-,⟨p,c1,c2,c3⟩,-⟩:=f.out w' a;go_simp<;>rfl);refine qw (λw' a=>(f.out w' a).2.2) ?_;iterate 2 (refine qz ?_)
     refine wpQuiet_nil ?_;intro w5 l;have y:=ae (z.out.below l);clear l;go_wp2_with fail;obtain⟨pp,qq,n⟩:=y.out.nQ (i:=P) (j:=Q) (Nm b.out) (Nm b.out) s q;have Z:=ae n;obtain⟨pE,JF,Y,x1,x2,x3,y0,y1,y2,y3,V,m,-⟩:=n;obtain⟨n0,n1,n2,n3,n4,U,n6⟩:=m (Nm b.out);clear f m;go_big_region
     all_goals
      clear Y x1 x2 x3 y0 y1 y2 y3 n0 n1 n2 n3 n4 U n6 V;have k:=ae Z.out.done;go_wp2;refine⟨⟨C,swp c P Q,rfl,?_,by rw[size_swp];exact AJ.out,k.out,?_⟩,?_⟩
      .have:=b.out;omega
      .exact(by obtain⟨F,L,D,A,v⟩:=O.out;show siftDown _ _ _ _ _=_;rw[<- K.out,lq F D A v G (.inl (Nm b.out)),s,q,if_pos (by exact decide_eq_true o)])
      .have:=b.out;simp[Lo];omega
    .have am:decide (aW bt J xc<0)=false:=decide_eq_false o;go_wp2_with fail;refine wq u ?_;iterate 6 (refine qz ?_)
     refine qz ?_ (λw' a=>by obtain⟨⟨p,c1,c2,c3⟩,-,-⟩:=f.out w' a;go_simp<;>rfl);iterate 5 (refine qz ?_)
     refine qz ?_ (λw' a=>by obtain⟨-,⟨p,c1,c2,c3⟩,-⟩:=f.out w' a;go_simp<;>rfl);refine qw (λw' a=>(f.out w' a).2.2) ?_;iterate 2 (refine qz ?_)
     refine wpQuiet_nil ?_;intro w5 l;have y:=ae (z.out.below l);clear l;go_wp2;go_returns;refine⟨rfl,?_⟩;rw[show siftDown (ltOf (aW bt)) hi first lo d=c from by obtain⟨F,L,D,A,v⟩:=O.out;rw[<- K.out,lq F D A v G (.inl (Nm b.out)),s,q,if_neg (by intro e;have:=of_decide_eq_true e;omega)]]
     exact y.out
  .have ce:(C:Int) >= hi:=af;go_wp2;go_returns;refine⟨rfl,?_⟩;rw[show siftDown (ltOf (aW bt)) hi first lo d=c from by rw[<- K.out,JG af]];exact S.out
end
section
variable {bt:Bool}{w0 W:KX}{jb pb bz made base g cap:Nat}{d:Array aJ}
theorem gT.jW(h:gT bt w0 jb pb bz made base g cap d W){i:Nat}(hi:i<d.size){x:aJ}(b:d[i]! = x):∃p,i*4=p /\
 (W.cell? ⟨g,p,KK⟩=x.t/\W.cell? ⟨g,p+1,KK⟩=x.h/\W.cell? ⟨g,p+2,KK⟩=x.x/\W.cell? ⟨g,p+3,KK⟩=x.m)/\(∀k,W.frozen? ⟨g,k,KK⟩=J0) /\
 gT bt w0 jb pb bz made base g cap (swp d i i) (((((((((W.setCell ⟨g,p,KK⟩ x.t).setCell ⟨g,p+1,KK⟩ x.h).setCell ⟨g,p+2,KK⟩ x.x).setCell ⟨g,p+3,KK⟩ x.m).setCell ⟨g,p,KK⟩ x.t).setCell ⟨g,p+1,KK⟩ x.h).setCell ⟨g,p+2,KK⟩ x.x).setCell ⟨g,p+3,KK⟩ x.m).drew):=by
 obtain⟨p,q,a⟩:=h.nQ hi hi b b;have e:p=q:=by rw[<- a.hp,<- a.hq]
 subst e;exact⟨p,a.hp,⟨a.p0,a.p1,a.p2,a.p3⟩,a.fr,a.done⟩
theorem JI(h:gT bt w0 jb pb bz made base g cap d W)(a b:Nat)(al:a<b)(hb:b<=d.size)(T:d.size<=1000000):K1 prog 290 #[.slice g d.size cap,a,b,di jb] W (pX bt w0 jb pb bz made base g cap (heapSort (ltOf (aW bt)) d a b)):=by
 obtain⟨n,hn⟩:∃n,b=a+n:=⟨b-a,af⟩;have H:=ae h;clear h;obtain⟨N,K⟩:=ac d.size;rw[<- K]at hb T ⊢;have HN:=ae K;clear K;have S:Lk (∀(W:KX)(c:Array aJ),c.size=N->gT bt w0 jb pb bz made base g cap c W->∀(lo hi:Nat),lo<=hi->hi<=n->K1 prog 301 #[.slice g N cap,lo,hi,a,di jb] W (pX bt w0 jb pb bz made base g cap (siftDown (ltOf (aW bt)) hi a lo c))):=ae (λW c t h lo hi h1 h2=>by rw[<- t];exact JH h lo hi a h1 af af)
 have U:Lk (heapSort (ltOf (aW bt)) d a b=heapPop (ltOf (aW bt)) a n (heapBuild (ltOf (aW bt)) n a ((n-1)/2+1) d)):=ae (by unfold heapSort;rw[show b-a=n by omega]);have D:cf Mm ((b:Int)-a)=n:=by rw[ax]<;>omega
 have C:cf Mm ((n:Int)-1)=n-1:=ax af af;have E:cf Mm (((n:Int)-1).tdiv 2)=(((n-1)/2:Nat):Int):=by rw[show((n:Int)-1)=((n-1:Nat):Int) by omega,show(((n-1:Nat):Int)).tdiv 2=(((n-1)/2:Nat):Int) from rfl];exact ax af af
 obtain⟨M,hM⟩:=ac ((n-1)/2);have bd:M<=n:=af;rw[<- hM]at E;have HM:=ae hM;clear hM;have ce:a+n<=N:=af;have aE:(a:Int)<N:=af;clear hn al hb;unfold di ptrTo at *;go_enter func290,ntmps290;go_wp2;go_loopw [11] (λs wr=>∃(z:Int)(k:Nat)(c:Array aJ),s=Kx Mm z/\z=(k:Int)-1/\k<=M+1/\c.size=N/\gT bt w0 jb pb bz made base g cap c wr/\Lk (heapBuild (ltOf (aW bt)) n a k c=heapBuild (ltOf (aW bt)) n a (M+1) d)) (λs _=>(Lo s+1).toNat)
 case atStart=>exact⟨(M:Int),M+1,d,rfl,af,cg _,HN.out.symm,H.out,rfl⟩
 case round=>
  obtain⟨z,k,c,rfl,I,X,m,t,r⟩:=hrel;generalize wr=Wr at *;have HS:=ae t;have V:=ae m;clear t m;cases k with
  |succ f=>
    obtain rfl:z=(f:Int):=af
    have J:¬(f:Int)<0:=af;have u:cf Mm ((f:Int)-1)=f-1:=ax af af;have p:=ae (S.out Wr c V.out HS.out f n af (cg _));clear I;go_wp2_with fail;go_call p.out as e w5⟨rfl,hs5⟩;have G:=ae hs5;clear hs5 p;go_wp2;refine⟨⟨(f:Int)-1,f,siftDown (ltOf (aW bt)) n a f c,rfl,rfl,af,by rw[size_siftDown _ n a n f c af];exact V.out,G.out,?_⟩,by simp[Lo]⟩;show heapBuild _ _ _ _ _=_;rw[<- r.out];rfl
  |zero=>
    obtain rfl:z=-1:=af
    have HB:Lk (heapBuild (ltOf (aW bt)) n a (M+1) d=c):=ae r.out.symm;clear I X r;go_wp2;go_loopw [12] (λs wr=>∃(z:Int)(k:Nat)(l:Array aJ),s=Kx Mm z/\z=(k:Int)-1/\k<=n/\l.size=N/\gT bt w0 jb pb bz made base g cap l wr/\Lk (heapPop (ltOf (aW bt)) a k l=heapPop (ltOf (aW bt)) a n c)) (λs _=>(Lo s+1).toNat)
    case atStart=>exact⟨(n:Int)-1,n,c,rfl,rfl,cg _,V.out,HS.out,rfl⟩
    case round=>
     obtain⟨z,k,l,rfl,I,X,m,t,r⟩:=hrel;generalize wr=am at *;have Z:=ae t;have v:=ae m;clear t m;cases k with
     |zero=>
       obtain rfl:z=-1:=af
       clear I X;go_wp2;go_end0
       refine⟨rfl,?_⟩;rw[U.out,<- HM.out,HB.out,<- r.out];exact Z.out
     |succ f=>
       obtain rfl:z=(f:Int):=af
       have J:¬(f:Int)<0:=af;have u:cf Mm ((f:Int)-1)=f-1:=ax af af;obtain⟨x,hx⟩:∃x,l[a]! = x:=⟨_,rfl⟩;clear I;cases f with
       |zero=>
         obtain⟨pp,pE,⟨L,x1,P,Y⟩,ew,o⟩:=Z.out.jW (i:=a) (by rw[v.out];omega) hx;have B:=ae o;have wQ:cf Mm ((a:Int)+0)=a:=by rw[ax]<;>omega
         clear o;have p:=ae (S.out _ (swp l a a) (by rw[size_swp];exact v.out) B.out 0 0 (cg _) (em _));simp only[DE]at p B;go_wp2_with fail;go_big_region
         all_goals
          clear L x1 P Y ew;go_wp2_with fail;go_call p.out as e w5⟨rfl,hs5⟩;have G:=ae hs5;clear hs5 p;go_wp2;refine⟨⟨-1,0,siftDown (ltOf (aW bt)) 0 a 0 (swp l a a),rfl,rfl,em _,by rw[size_siftDown _ 0 a 0 0 _ af,size_swp];exact v.out,G.out,?_⟩,by simp[Lo]⟩;show heapPop _ _ _ _=_;rw[<- r.out];rfl
       |succ q=>
         obtain⟨Q,hQ⟩:=ac (a+(q+1));have wQ:cf Mm ((a:Int)+((q:Int)+1))=(Q:Int):=by rw[ax]<;>omega
         have bQ:(Q:Int)<N:=af;have R:Lk (Q<l.size/\a<l.size/\a≠Q):=ae (Nm v.out);have O:=ae hQ;clear hQ;obtain⟨y,hy⟩:∃y,l[Q]! = y:=⟨_,rfl⟩;obtain⟨pp,qq,w⟩:=Z.out.nQ (i:=a) (j:=Q) R.out.2.1 R.out.1 hx hy;have sA:=ae w;obtain⟨pE,JF,L,x1,P,Y,y0,y1,y2,y3,ew,A,-⟩:=w;obtain⟨n0,n1,n2,n3,n4,n5,n6⟩:=A R.out.2.2;have p:=ae (S.out _ (swp l a Q) (by rw[size_swp];exact v.out) sA.out.done 0 (q+1) (em _) af);have F:((q+1:Nat):Int)=q+1:=af;simp only[DE,F]at p J u ⊢;clear A F;go_wp2_with fail;go_big_region
         all_goals
          clear L x1 P Y y0 y1 y2 y3 n0 n1 n2 n3 n4 n5 n6 ew;go_wp2_with fail;go_call p.out as e w5⟨rfl,hs5⟩;have G:=ae hs5;clear hs5 p;go_wp2;refine⟨⟨(q:Int),q+1,siftDown (ltOf (aW bt)) (q+1) a 0 (swp l a Q),rfl,af,af,by rw[size_siftDown _ (q+1) a (q+1) 0 _ af,size_swp];exact v.out,G.out,?_⟩,by simp[Lo];omega⟩;show heapPop _ _ _ _=_;rw[<- r.out,O.out];rfl
end
section
variable {bt:Bool}{w0 W:KX}{jb pb bz made base g cap:Nat}{d:Array aJ}
theorem El{i j:Nat}{d:Array aJ}(h:i<j):reverseLoop i j d=reverseLoop (i+1) (j-1) (swp d i j):=by
 conv=>lhs;unfold reverseLoop
 rw[if_pos h]
theorem AK{i j:Nat}{d:Array aJ}(h:¬i<j):reverseLoop i j d=d:=by unfold reverseLoop;rw[if_neg h]
theorem AO(h:gT bt w0 jb pb bz made base g cap d W)(a b:Nat)(Y:a<b)(hb:b<=d.size)(r:d.size<=1000000):K1 prog 293 #[.slice g d.size cap,a,b,di jb] W (pX bt w0 jb pb bz made base g cap (reverseRange d a b)):=by
 have H:=ae h;clear h;obtain⟨N,n⟩:=ac d.size;rw[<- n]at hb r ⊢;have V:=ae n;clear n;obtain⟨m,w⟩:=ac (b-1);have D:cf Mm ((b:Int)-1)=m:=by rw[ax]<;>omega
 have p:m<N:=af;have o:=ae w;clear w;unfold di ptrTo;go_enter func293,ntmps293;go_wp2;go_loopw [8,9] (λZ q wr=>∃(i j:Nat)(c:Array aJ),Z=i/\q=j/\i<=N/\j<N/\c.size=N/\gT bt w0 jb pb bz made base g cap c wr/\Lk (reverseLoop i j c=reverseLoop a m d)) (λ_ q _=>(Lo q).toNat)
 case atStart=>exact⟨a,m,d,rfl,rfl,af,p,V.out.symm,H.out,rfl⟩
 case round=>
  obtain⟨i,j,c,rfl,rfl,hi,hj,l,A,v⟩:=hrel;generalize wr=Wr at *;have z:=ae A;have t:=ae l;clear A l;by_cases S:i<j
  .obtain⟨j',k⟩:∃j',j=j'+1:=⟨j-1,af⟩;have B:(i:Int)<j:=af;have wi:cf Mm ((i:Int)+1)=i+1:=ax af af;have wj:cf Mm ((j:Int)-1)=j':=by rw[ax]<;>omega
   have bi:(i:Int)<N:=af;have bj:(j:Int)<N:=af;have u:j'<j/\i+1<=N:=af;obtain⟨x,M⟩:∃x,c[i]! = x:=⟨_,rfl⟩;obtain⟨y,F⟩:∃y,c[j]! = y:=⟨_,rfl⟩;obtain⟨pp,qq,e⟩:=z.out.nQ (i:=i) (j:=j) (by rw[t.out];omega) (by rw[t.out];omega) M F;have I:=ae e;obtain⟨pE,JF,E,U,G,O,Q,y1,y2,P,T,f,-⟩:=e;obtain⟨C,J,n2,X,L,R,K⟩:=f af;have s:=ae k;clear f k;go_wp2_with fail;go_big_region
   all_goals
    clear E U G O Q y1 y2 P C J n2 X L R K T;go_wp2;refine⟨⟨i+1,j',swp c i j,by go_num,rfl,u.2,af,by rw[size_swp];exact t.out,I.out.done,?_⟩,by simp[Lo];omega⟩;show reverseLoop _ _ _=_;rw[<- v.out,El S,show j-1=j' by have:=s.out;omega]
  .have B:¬(i:Int)<j:=af;go_wp2;go_end0
   refine⟨rfl,?_⟩;rw[show reverseRange d a b=c from by unfold reverseRange;rw[<- o.out,<- v.out,AK af]];exact z.out
structure GA(bt:Bool)(w0:KX)(jb pb bz made base g cap:Nat)(d:Array aJ)(c s:Nat)(W:KX):Prop where
 zj:gT bt w0 jb pb bz made base g cap d W
 box:∃T,W.heap[c]? = IT (Mi #[s] T (0,0))
 new:w0.heap.size<=c
 ng:c≠g
 nj:c≠jb
 nb:c≠bz
variable {c s:Nat}
theorem GA.below(h:GA bt w0 jb pb bz made base g cap d c s W)(a:RowKit.Below W.heap.size W e):GA bt w0 jb pb bz made base g cap d c s e:=by obtain⟨T,b⟩:=h.box;exact⟨h.zj.below a,⟨T,by rw[a.block c (ds.1 b).1];exact b⟩,h.new,h.ng,h.nj,h.nb⟩
theorem GA.cell(h:GA bt w0 jb pb bz made base g cap d c s W):W.cell? c=s/\W.frozen? ⟨c,0,KK⟩=false:=by obtain⟨T,a⟩:=h.box;exact⟨by rw[au a];rfl,aO a _⟩
theorem GA.bump(h:GA bt w0 jb pb bz made base g cap d c s W)(t:Nat):GA bt w0 jb pb bz made base g cap d c t (W.setCell c t):=by
 obtain⟨T,i⟩:=h.box;have a:aN (·=c) W (W.setCell c t):=aN.setCell (aN.refl _ _) _ _ (.inl rfl);refine⟨⟨a.ownsRow h.zj.row (λb f e=>?_),h.zj.JE.kept (a.block _ h.zj.JE.lt.1 (λe=>h.nj e.symm)) (a.block _ h.zj.JE.lt.2 (λe=>h.nb e.symm)),h.zj.nj,h.zj.nb,h.zj.turn.setCell _ _ (.inr h.new)⟩,⟨T,by rw[aS i];rfl⟩,h.new,h.ng,h.nj,h.nb⟩;have:b=g:=by have:=f;simp[B2]at this;exact this.symm
 exact h.ng (by rw[<- e,this])
def nS(b:Bool)(w0:KX)(i f h a base g cap:Nat)(d:Array aJ)(c s:Nat)(v:J3)(e:Lp)(w':KX):Prop:=e=Mk v/\GA b w0 i f h a base g cap d c s w'
theorem PK(h:GA bt w0 jb pb bz made base g cap d c s W)(a b:Nat)(q:a<d.size)(r:b<d.size)(B:s<=1000):K1 prog 305 #[.slice g d.size cap,a,b,ptrTo c,di jb] W
  (nS bt w0 jb pb bz made base g cap d c (order2 (ltOf (aW bt)) d a b s).2.2 (Ly #[(order2 (ltOf (aW bt)) d a b s).1,(order2 (ltOf (aW bt)) d a b s).2.1])):=by
 have H:=ae h;have w:(a:Int)<d.size:=af;have A:(b:Int)<d.size:=af;have z:cf Mm ((s:Int)+1)=(s+1:Nat):=by rw[ax]<;>omega
 obtain⟨x,p⟩:∃x,d[b]! = x:=⟨_,rfl⟩;obtain⟨y,o⟩:∃y,d[a]! = y:=⟨_,rfl⟩;have F:=ae (h.zj.reads (i:=b) (j:=a) r q p o);unfold order2;rw[p,o];clear h q r;unfold di ptrTo;by_cases n:aW bt x y<0
 .rw[if_pos (show ltOf (aW bt) x y=Jd from decide_eq_true n)];generalize d.size=N at *;go_enter func305,ntmps305;go_wp2_with fail;refine wq W ?_;iterate 4 (refine qz ?_)
  refine qz ?_ (λw' f=>by obtain⟨⟨m,c1,c2,c3⟩,-,-⟩:=F.out w' f;go_simp<;>rfl);iterate 3 (refine qz ?_)
  refine qz ?_ (λw' f=>by obtain⟨-,⟨m,c1,c2,c3⟩,-⟩:=F.out w' f;go_simp<;>rfl);refine qw (λw' f=>(F.out w' f).2.2) ?_;iterate 1 (refine qz ?_)
  refine wpQuiet_nil ?_;intro E k;have l:=ae (H.out.below k);clear k;have t:=ae (l.out.bump (s+1));obtain⟨v,u⟩:=l.out.cell;go_wp2;go_ret2;exact⟨rfl,t.out⟩
 .rw[if_neg (show ¬ltOf (aW bt) x y=Jd from λe=>n (of_decide_eq_true e))];generalize d.size=N at *;go_enter func305,ntmps305;go_wp2_with fail;refine wq W ?_;iterate 4 (refine qz ?_)
  refine qz ?_ (λw' f=>by obtain⟨⟨m,c1,c2,c3⟩,-,-⟩:=F.out w' f;go_simp<;>rfl);iterate 3 (refine qz ?_)
  refine qz ?_ (λw' f=>by obtain⟨-,⟨m,c1,c2,c3⟩,-⟩:=F.out w' f;go_simp<;>rfl);refine qw (λw' f=>(F.out w' f).2.2) ?_;iterate 1 (refine qz ?_)
  refine wpQuiet_nil ?_;intro E k;have l:=ae (H.out.below k);clear k;go_wp2;go_ret2;exact⟨rfl,l.out⟩
end
section
variable {bt:Bool}{w0 W:KX}{jb pb bz made base g cap c s:Nat}{d:Array aJ}
theorem rK(lt:aJ->aJ->Bool)(d:Array aJ){a b s N:Nat}(e:a<N)(c:b<N):(order2 lt d a b s).1<N/\(order2 lt d a b s).2.1<N/\(order2 lt d a b s).2.2<=s+1:=by unfold order2;split<;>exact⟨Nd,Nd,ai⟩
theorem TJ(lt:aJ->aJ->Bool)(d:Array aJ){a b c s N:Nat}(k:a<N)(l:b<N)(j:c<N):(median lt d a b c s).1<N/\(median lt d a b c s).2<=s+3:=by unfold median;obtain⟨f,h,m⟩:=rK lt d (s:=s) k l;obtain⟨i,o,p⟩:=rK lt d (s:=(order2 lt d a b s).2.2) h j;obtain⟨n,g,e⟩:=rK lt d (s:=(order2 lt d (order2 lt d a b s).2.1 c (order2 lt d a b s).2.2).2.2) f i;exact⟨g,cp e af⟩
theorem xM(h:GA bt w0 jb pb bz made base g cap d c s W)(a b k:Nat)(j:a<d.size)(l:b<d.size)(o:k<d.size)(p:s<=900):K1 prog 303 #[.slice g d.size cap,Kx Mm (a:Int),Kx Mm (b:Int),k,ptrTo c,di jb] W
  (nS bt w0 jb pb bz made base g cap d c (median (ltOf (aW bt)) d a b k s).2 (Kx Mm ((median (ltOf (aW bt)) d a b k s).1:Int))):=by
 have n:Lk (∀W a b s,GA bt w0 jb pb bz made base g cap d c s W->a<d.size->b<d.size->s<=1000->K1 prog 305 #[.slice g d.size cap,Kx Mm (a:Int),Kx Mm (b:Int),ptrTo c,di jb] W
  (nS bt w0 jb pb bz made base g cap d c (order2 (ltOf (aW bt)) d a b s).2.2 (Ly #[Kx Mm ((order2 (ltOf (aW bt)) d a b s).1:Int),Kx Mm ((order2 (ltOf (aW bt)) d a b s).2.1:Int)]))):=ae (λW a b s h j l p=>PK h a b j l p)
 have H:=ae h;unfold median;obtain⟨p1,p2,z⟩:=rK (ltOf (aW bt)) d (s:=s) j l;have i:=ae (n.out W a b s h j l af);generalize order2 (ltOf (aW bt)) d a b s=G at *;obtain⟨v,w,s1⟩:=G;dsimp only at *;obtain⟨q,F,y⟩:=rK (ltOf (aW bt)) d (s:=s1) p2 o;have f:Lk (∀W,GA bt w0 jb pb bz made base g cap d c s1 W->_):=ae (λW h=>n.out W w k s1 h p2 o af);generalize order2 (ltOf (aW bt)) d w k s1=A at *;obtain⟨t,K,s2⟩:=A;dsimp only at *;have m:Lk (∀W,GA bt w0 jb pb bz made base g cap d c s2 W->_):=ae (λW h=>n.out W v t s2 h p1 q af);generalize order2 (ltOf (aW bt)) d v t s2=B at *;obtain⟨I,J,s3⟩:=B;dsimp only at *;clear h n p1 p2 z q F y j l o p;unfold di ptrTo at *;generalize d.size=N at *;go_enter func303,ntmps303;go_wp2_with fail;go_call i.out as e D⟨rfl,h1⟩;have r:=ae (f.out D h1);clear h1 i f;go_wp2_with fail;go_call r.out as e C⟨rfl,h2⟩;have u:=ae (m.out C h2);clear h2 r m;go_wp2_with fail;go_call u.out as e E⟨rfl,h3⟩;have x:=ae h3;clear h3 u;go_wp2;go_ret;exact⟨rfl,x.out⟩
theorem ku(h:GA bt w0 jb pb bz made base g cap d c s W)(a:Nat)(j:1<=a)(b:a+1<d.size)(l:d.size<=1000000)(k:s<=900):K1 prog 302 #[.slice g d.size cap,a,ptrTo c,di jb] W
  (nS bt w0 jb pb bz made base g cap d c (medianAdjacent (ltOf (aW bt)) d a s).2 (medianAdjacent (ltOf (aW bt)) d a s).1):=by
 have f:=ae (xM h (a-1) a (a+1) af af b k);have D:cf Mm ((a:Int)-1)=(a-1:Nat):=by rw[ax]<;>omega
 have C:cf Mm ((a:Int)+1)=(a+1:Nat):=by rw[ax]<;>omega
 unfold medianAdjacent;clear h j b;unfold di ptrTo at *;generalize median (ltOf (aW bt)) d (a-1) a (a+1) s=r at *;generalize a-1=n at *;generalize a+1=m at *;generalize d.size=N at *;go_enter func302,ntmps302;go_wp2_with fail;go_call f.out as e D⟨rfl,h1⟩;have i:=ae h1;clear h1 f;go_wp2;go_ret;exact⟨rfl,i.out⟩
end
section
variable {bt:Bool}{w0 W:KX}{jb pb bz made base g cap c s:Nat}{d:Array aJ}
def pZ:Hint->Nat
 | .unknown=>0
 | .increasing=>1
 | .decreasing=>2
theorem gT.count(h:gT bt w0 jb pb bz made base g cap d W)(T:TypeId):GA bt w0 jb pb bz made base g cap d W.heap.size 0 (W.alloc (Mi #[Kx Mm 0] T)):=by
 have i:g<W.heap.size:=by
  obtain⟨_,⟨c,_⟩|⟨j,a,f,e,_,b,_⟩⟩:=h.row
  .cases c
  .cases e;exact(ds.1 b).1
 have:=h.JE.lt;exact⟨h.below aj,⟨T,Lw W _⟩,h.turn.size,af,af,af⟩
def abk(b:Bool)(w0:KX)(h c f a base g cap:Nat)(d:Array aJ)(r:Nat×Hint)(e:Lp)(w':KX):Prop:=
 e=Mk (Ly #[r.1,pZ r.2])/\gT b w0 h c f a base g cap d w'
theorem PO{lt:aJ->aJ->Bool}{d:Array aJ}{a b I J K:Nat}{m:Nat×Nat}(g:8<=b-a)(c:¬50<=b-a)(e:I=a+(b-a)/4*1)(f:J=a+(b-a)/4*2)(hK:K=a+(b-a)/4*3)(h:median lt d I J K 0=m) :
 choosePivot lt d a b=(m.1,if m.2=0 then .increasing else if m.2=12 then .decreasing else .unknown):=by subst e f hK h;unfold choosePivot;simp only[ge_iff_le,g,c,if_true,if_false]
theorem PQ{lt:aJ->aJ->Bool}{d:Array aJ}{a b I J K:Nat}{c f e m:Nat×Nat}(g:50<=b-a)(i:I=a+(b-a)/4*1)(l:J=a+(b-a)/4*2)(hK:K=a+(b-a)/4*3)(j:medianAdjacent lt d I 0=c)(k:medianAdjacent lt d J c.2=f)(h:medianAdjacent lt d K f.2=e)(o:median lt d c.1 f.1 e.1 e.2=m) :
 choosePivot lt d a b=(m.1,if m.2=0 then .increasing else if m.2=12 then .decreasing else .unknown):=by
 subst i l hK j k h o;have n:8<=b-a:=af;unfold choosePivot;simp only[ge_iff_le,n,g,if_true]
theorem PR(lt:aJ->aJ->Bool)(d:Array aJ){a s N:Nat}(b:a+1<N):(medianAdjacent lt d a s).1<N/\(medianAdjacent lt d a s).2<=s+3:=
 TJ lt d af af b
theorem Cu(h:gT bt w0 jb pb bz made base g cap d W)(a b:Nat)(hl:12<b-a)(hb:b<=d.size)(l:d.size<=1000000):K1 prog 292 #[.slice g d.size cap,a,b,di jb] W (abk bt w0 jb pb bz made base g cap d (choosePivot (ltOf (aW bt)) d a b)):=by
 have t:=ae (h.count 3);obtain⟨L,hL⟩:=ac (b-a);obtain⟨Q,hQ⟩:=ac ((b-a)/4);obtain⟨Q2,M⟩:=ac (Q*2);obtain⟨V,S⟩:=ac (Q*3);obtain⟨I,hI⟩:=ac (a+Q);obtain⟨J,hJ⟩:=ac (a+Q2);obtain⟨K,hK⟩:=ac (a+V);have wL:cf Mm ((b:Int)-a)=L:=by rw[ax]<;>omega
 have wQ:cf Mm ((L:Int)/4)=Q:=by rw[ax]<;>omega
 have co:cf Mm (Q:Int)=Q:=ax af af;have bd:cf Mm ((Q:Int)*2)=Q2:=by rw[ax]<;>omega
 have ce:cf Mm ((Q:Int)*3)=V:=by rw[ax]<;>omega
 have wI:cf Mm ((a:Int)+Q)=I:=by rw[ax]<;>omega
 have wJ:cf Mm ((a:Int)+Q2)=J:=by rw[ax]<;>omega
 have wK:cf Mm ((a:Int)+V)=K:=by rw[ax]<;>omega
 have l8:¬(L:Int)<8:=af;have j:Lk (I+1<d.size/\J+1<d.size/\K+1<d.size/\1<=I/\1<=J/\1<=K):=ae af;have w:I=a+(b-a)/4*1:=af;have v:J=a+(b-a)/4*2:=af;have p:K=a+(b-a)/4*3:=af;by_cases O:50<=b-a
 .have Y:¬(L:Int)<50:=af;obtain⟨q,y⟩:∃r,medianAdjacent (ltOf (aW bt)) d I 0=r:=⟨_,rfl⟩;obtain⟨n,F⟩:∃r,medianAdjacent (ltOf (aW bt)) d J q.2=r:=⟨_,rfl⟩;obtain⟨x,A⟩:∃r,medianAdjacent (ltOf (aW bt)) d K n.2=r:=⟨_,rfl⟩;obtain⟨m,z⟩:∃r,median (ltOf (aW bt)) d q.1 n.1 x.1 x.2=r:=⟨_,rfl⟩;have o:=ae (PQ O w v p y F A z);have Z:=PR (ltOf (aW bt)) d (s:=0) j.out.1;rw[y]at Z;have X:=PR (ltOf (aW bt)) d (s:=q.2) j.out.2.1;rw[F]at X;have U:=PR (ltOf (aW bt)) d (s:=n.2) j.out.2.2.1;rw[A]at U;have C1:Lk (∀f,GA bt w0 jb pb bz made base g cap d W.heap.size 0 f->K1 prog 302 #[.slice g d.size cap,Kx Mm (I:Int),ptrTo W.heap.size,di jb] f (nS bt w0 jb pb bz made base g cap d W.heap.size q.2 q.1)):=ae (λf h=>by have:=ku h I j.out.2.2.2.1 j.out.1 l af;rwa [y]at this)
  have C2:Lk (∀f,GA bt w0 jb pb bz made base g cap d W.heap.size q.2 f->K1 prog 302 #[.slice g d.size cap,Kx Mm (J:Int),ptrTo W.heap.size,di jb] f (nS bt w0 jb pb bz made base g cap d W.heap.size n.2 n.1)):=ae (λf h=>by have:=ku h J j.out.2.2.2.2.1 j.out.2.1 l af;rwa [F]at this)
  have C3:Lk (∀f,GA bt w0 jb pb bz made base g cap d W.heap.size n.2 f->K1 prog 302 #[.slice g d.size cap,Kx Mm (K:Int),ptrTo W.heap.size,di jb] f (nS bt w0 jb pb bz made base g cap d W.heap.size x.2 x.1)):=ae (λf h=>by have:=ku h K j.out.2.2.2.2.2 j.out.2.2.1 l af;rwa [A]at this)
  have H:Lk (∀f,GA bt w0 jb pb bz made base g cap d W.heap.size x.2 f->K1 prog 303 #[.slice g d.size cap,q.1,n.1,x.1,ptrTo W.heap.size,di jb] f (nS bt w0 jb pb bz made base g cap d W.heap.size m.2 m.1)):=ae (λf h=>by have:=xM h q.1 n.1 x.1 Z.1 X.1 U.1 af;rwa [z]at this)
  clear h hL hQ M S hI hJ hK w v p y F A z Z X U hl hb l;unfold di ptrTo at *;generalize d.size=N at *;generalize choosePivot (ltOf (aW bt)) d a b=r at o ⊢;obtain⟨mi,i⟩:=m;obtain⟨du,aE⟩:=q;obtain⟨de,dq⟩:=n;obtain⟨ci,dl⟩:=x;dsimp only at *;go_enter func292,ntmps292;go_wp2_with fail;go_call(C1.out _ t.out) as e D⟨rfl,y⟩;have hc:=ae (C2.out D y);clear y C1 C2 t;go_wp2_with fail;go_call hc.out as e C⟨rfl,F⟩;have R:=ae (C3.out C F);clear F hc C3;go_wp2_with fail;go_call R.out as e E⟨rfl,A⟩;have T:=ae (H.out E A);clear A R H;go_wp2_with fail;go_call T.out as e u⟨rfl,h4⟩;have B:=ae h4;obtain⟨c,-⟩:=h4.cell;clear h4 T;by_cases P:i=0
  .subst P;simp only[DE]at c;go_wp2;go_ret2;rw[o.out];exact⟨rfl,B.out.zj⟩
  .by_cases k:i=12
   .subst k;have Xz:u.cell? W.heap.size=IT (Kx Mm 12):=c;clear c;go_wp2;go_ret2;rw[o.out,if_neg ag,if_pos (by trivial)];exact⟨rfl,B.out.zj⟩
   .have z0:¬(i:Int)=0:=af;have G:¬(i:Int)=12:=af;have am:((i:Int) == 0)=false:=beq_false_of_ne z0;have al:((i:Int) == 12)=false:=beq_false_of_ne G;go_wp2;go_ret2;rw[o.out,if_neg P,if_neg k];exact⟨rfl,B.out.zj⟩
 .have Y:(L:Int)<50:=af;obtain⟨m,z⟩:∃r,median (ltOf (aW bt)) d I J K 0=r:=⟨_,rfl⟩;have o:=ae (PO af O w v p z);have H:Lk (∀f,GA bt w0 jb pb bz made base g cap d W.heap.size 0 f->K1 prog 303 #[.slice g d.size cap,Kx Mm (I:Int),Kx Mm (J:Int),Kx Mm (K:Int),ptrTo W.heap.size,di jb] f (nS bt w0 jb pb bz made base g cap d W.heap.size m.2 m.1)):=ae (λf h=>by have:=xM h I J K (Nm j.out) (Nm j.out) (Nm j.out) af;rwa [z]at this)
  clear h hL hQ M S hI hJ hK w v p z hl hb l;unfold di ptrTo at *;generalize d.size=N at *;generalize choosePivot (ltOf (aW bt)) d a b=r at o ⊢;obtain⟨mi,i⟩:=m;dsimp only at *;go_enter func292,ntmps292;go_wp2_with fail;go_call(H.out _ t.out) as e u⟨rfl,h4⟩;have B:=ae h4;obtain⟨c,-⟩:=h4.cell;clear h4 H t;by_cases P:i=0
  .subst P;simp only[DE]at c;go_wp2;go_ret2;rw[o.out];exact⟨rfl,B.out.zj⟩
  .by_cases k:i=12
   .subst k;have Xz:u.cell? W.heap.size=IT (Kx Mm 12):=c;clear c;go_wp2;go_ret2;rw[o.out,if_neg ag,if_pos (by trivial)];exact⟨rfl,B.out.zj⟩
   .have z0:¬(i:Int)=0:=af;have G:¬(i:Int)=12:=af;have am:((i:Int) == 0)=false:=beq_false_of_ne z0;have al:((i:Int) == 12)=false:=beq_false_of_ne G;go_wp2;go_ret2;rw[o.out,if_neg P,if_neg k];exact⟨rfl,B.out.zj⟩
end
section
variable {bt:Bool}{w0 W:KX}{jb pb bz made base g cap c:Nat}{d:Array aJ}
structure R9(bt:Bool)(w0:KX)(jb pb bz made base g cap:Nat)(d:Array aJ)(c:Nat)(v:J3)(W:KX):Prop where
 zj:gT bt w0 jb pb bz made base g cap d W
 box:∃T,W.heap[c]? = IT (Mi #[v] T (0,0))
 new:w0.heap.size<=c
 ng:c≠g
 nj:c≠jb
 nb:c≠bz
theorem R9.cell{v:J3}(h:R9 bt w0 jb pb bz made base g cap d c v W):W.cell? c=IT v/\W.frozen? ⟨c,0,KK⟩=false:=by obtain⟨T,a⟩:=h.box;exact⟨by rw[au a];rfl,aO a _⟩
theorem R9.below{v:J3}(h:R9 bt w0 jb pb bz made base g cap d c v W)(a:RowKit.Below W.heap.size W e):R9 bt w0 jb pb bz made base g cap d c v e:=by obtain⟨T,b⟩:=h.box;exact⟨h.zj.below a,⟨T,by rw[a.block c (ds.1 b).1];exact b⟩,h.new,h.ng,h.nj,h.nb⟩
theorem R9.put{v:J3}(h:R9 bt w0 jb pb bz made base g cap d c v W)(u:J3):R9 bt w0 jb pb bz made base g cap d c u (W.setCell c u):=by
 obtain⟨T,i⟩:=h.box;have a:aN (·=c) W (W.setCell c u):=aN.setCell (aN.refl _ _) _ _ (.inl rfl);refine⟨⟨a.ownsRow h.zj.row (λb f e=>?_),h.zj.JE.kept (a.block _ h.zj.JE.lt.1 (λe=>h.nj e.symm)) (a.block _ h.zj.JE.lt.2 (λe=>h.nb e.symm)),h.zj.nj,h.zj.nb,h.zj.turn.setCell _ _ (.inr h.new)⟩,⟨T,by rw[aS i];rfl⟩,h.new,h.ng,h.nj,h.nb⟩;have:b=g:=by have:=f;simp[B2]at this;exact this.symm
 exact h.ng (by rw[<- e,this])
theorem R9.swapped{v:J3}(h:R9 bt w0 jb pb bz made base g cap d c v W){d':Array aJ}{p q:Nat}{v0 e v2 v3 b f a i:J3}(l:gT bt w0 jb pb bz made base g cap d' (((((((((W.setCell ⟨g,p,KK⟩ v0).setCell ⟨g,p+1,KK⟩ e).setCell ⟨g,p+2,KK⟩ v2).setCell ⟨g,p+3,KK⟩ v3).setCell ⟨g,q,KK⟩ b).setCell ⟨g,q+1,KK⟩ f).setCell ⟨g,q+2,KK⟩ a).setCell ⟨g,q+3,KK⟩ i).drew)) :
 R9 bt w0 jb pb bz made base g cap d' c v (((((((((W.setCell ⟨g,p,KK⟩ v0).setCell ⟨g,p+1,KK⟩ e).setCell ⟨g,p+2,KK⟩ v2).setCell ⟨g,p+3,KK⟩ v3).setCell ⟨g,q,KK⟩ b).setCell ⟨g,q+1,KK⟩ f).setCell ⟨g,q+2,KK⟩ a).setCell ⟨g,q+3,KK⟩ i).drew):=by
 obtain⟨T,j⟩:=h.box;have k:aN (·=g) W (((((((((W.setCell ⟨g,p,KK⟩ v0).setCell ⟨g,p+1,KK⟩ e).setCell ⟨g,p+2,KK⟩ v2).setCell ⟨g,p+3,KK⟩ v3).setCell ⟨g,q,KK⟩ b).setCell ⟨g,q+1,KK⟩ f).setCell ⟨g,q+2,KK⟩ a).setCell ⟨g,q+3,KK⟩ i).drew):=
  ((((((((((aN.refl (·=g) W).setCell _ _ (.inl rfl)).setCell _ _ (.inl rfl)).setCell _ _ (.inl rfl)).setCell _ _ (.inl rfl)).setCell _ _ (.inl rfl)).setCell _ _ (.inl rfl)).setCell _ _ (.inl rfl)).setCell _ _ (.inl rfl))).drew
 exact⟨l,⟨T,k.heap j h.ng⟩,h.new,h.ng,h.nj,h.nb⟩
theorem zk(h:gT bt w0 jb pb bz made base g cap d W)(a b:Nat)(hl:12<b-a)(hb:b<=d.size)(al:d.size<=1000000):K1 prog 291 #[.slice g d.size cap,a,b,di jb] W (pX bt w0 jb pb bz made base g cap (breakPatterns d a b)):=by
 have co:g<W.heap.size:=by
  obtain⟨_,⟨h0,_⟩|⟨g',dq,ee,hv,_,hh,_⟩⟩:=h.row
  .cases h0
  .cases hv;exact(ds.1 hh).1
 have kE:=h.JE.lt;obtain⟨L,hL⟩:=ac (b-a);obtain rfl:b=a+L:=af
 have T:8<=L:=af;rw[breakPatterns_eq d a L T];obtain⟨M,hM⟩:∃M:Nat,M=1 <<< bitsLen L:=⟨_,rfl⟩;have Lc:1<=M:=by rw[hM,Nat.one_shiftLeft];exact Nat.two_pow_pos _
 have VJ:M<=2*L:=by rw[hM,Nat.one_shiftLeft];exact two_pow_bitsLen_le af
 have Z:Lk (∀o,K1 prog 188 #[Kx Mm (L:Int)] o λe w'=>e=Mk (Kx MJ M)/\w'=o):=ae (λo=>by rw[hM];exact AnyF.nextPowerOfTwo (P:=prog) (ρ:=Tryz.sortEdges_ren) { Tryz.sortEdges with } L af o)
 have GC:Lk (∀(o:KX)(u X:Nat),X<18446744073709551616->o.cell? u=IT (Kx MJ X)->o.frozen? ⟨u,0,KK⟩=J0->K1 prog 189 #[.pointer u] o λe w'=>e=Mk (Kx MJ (xorNextN X:Nat))/\w'=(o.setCell u (Kx MJ (xorNextN X:Nat))).drewN 3):=ae (λo u X hX hc hf=>AnyF.xorshift_Next (P:=prog) (ρ:=Tryz.sortEdges_ren) { Tryz.sortEdges with } u 0 X hX o hc hf)
 rw[<- hM];obtain⟨N,hN⟩:=ac d.size;rw[<- hN]at hb al ⊢;have HN:=ae hN;obtain⟨Q,hQ⟩:=ac (L/4);obtain⟨Q2,dl⟩:=ac (Q*2);obtain⟨A2,bd⟩:=ac (a+Q2);obtain⟨E,hE⟩:=ac (A2+1);obtain⟨B,hB⟩:=ac (A2-1);obtain⟨BN,R⟩:=ac (a+L);have wL:cf Mm ((BN:Int)-a)=L:=by rw[ax]<;>omega
 have ff:cf MJ (L:Int)=L:=iQ _ af af;have wQ:cf Mm ((L:Int)/4)=Q:=by rw[ax]<;>omega
 have du:cf Mm ((Q:Int)*2)=Q2:=by rw[ax]<;>omega
 have el:cf Mm ((a:Int)+Q2)=A2:=by rw[ax]<;>omega
 have wE:cf Mm ((A2:Int)+1)=E:=by rw[ax]<;>omega
 have wB:cf Mm ((A2:Int)-1)=B:=by rw[ax]<;>omega
 have wM:cf MJ ((M:Int)-1)=M-1:=iQ _ af af;have l8:¬(L:Int)<8:=af;have m:Lk (E=B+2/\B+3<=a+L/\a+L<=N/\a<=B/\8<=L/\1<=M/\M<=2*L/\L<=N/\N<=1000000):=ae af;have OX:Lk (a+L/4*2-1=B):=ae af;have H0:Lk (R9 bt w0 jb pb bz made base g cap d W.heap.size (Kx MJ (L:Int)) (W.alloc (Mi #[Kx MJ (L:Int)] 264))):=ae ⟨h.below aj,⟨_,Lw W _⟩,h.turn.size,af,af,af⟩;rw[<- R];rw[OX.out];clear h co kE hL hM Lc VJ hN hQ dl bd hE hB R hb al T hl;unfold di ptrTo at *;go_enter func291,ntmps291;go_wp2_with fail;generalize W.heap.size=u at H0 ⊢;generalize W.alloc (Mi #[Kx MJ (L:Int)] 264)=W1 at H0 ⊢;go_call(Z.out _) as e w'⟨rfl,hw'⟩;obtain rfl:=hw';clear Z;go_wp2;go_loopw [11] (λvi wr=>∃(i t:Nat)(r:UInt64)(f:Array aJ),vi=i/\t<=3/\f.size=N/\R9 bt w0 jb pb bz made base g cap f u r wr/\Lk (i=B+t)/\Lk (bpRest a L M B (3-t) t (r,f)=bpRest a L M B 3 0 (nM L,d))) (λvi _=>B+3-(Lo vi).toNat)
 case atStart=>refine⟨B,0,nM L,d,rfl,af,HN.out.symm,?_,ae rfl,rfl⟩;rw[show(nM L).toNat=L from by rw[UInt64.toNat_ofNat'];have:=m.out;omega];exact H0.out
 case round=>
  obtain⟨i,t,r,f,rfl,ht,U,hs,hi,HO⟩:=hrel;generalize wr=Wr at *;have HS:=ae hs;have J:=ae U;clear hs U;by_cases Cs:t<3
  .obtain⟨R0,z⟩:∃R0:Nat,R0=r.toNat:=⟨_,rfl⟩;have lR:R0<18446744073709551616:=by rw[z];exact r.toNat_lt
   obtain⟨R',v⟩:∃R':Nat,R'=xorNextN R0:=⟨_,rfl⟩;have am:R'<18446744073709551616:=by rw[v];exact xorNextN_lt R0 lR
   obtain⟨O,hO⟩:∃O:Nat,O=R' &&& (M-1):=⟨_,rfl⟩;have lO:O<=M-1:=by rw[hO];exact Nat.and_le_right
   have eS:bits .and MJ (R':Int) ((M:Int)-1)=(O:Int):=by have:=m.out;rw[show((M:Int)-1)=((M-1:Nat):Int) by omega,bits_and_u64_nat _ _ am af,hO]
   have K:Lk (R'=(xorNext r).toNat/\O=(xorNext r).toNat &&& (M-1)):=ae (by
    have e:R'=(xorNext r).toNat:=by rw[v,z,xorNext_toNat]
    exact⟨e,by rw[hO,e]⟩)
   have yM:=HS.out.cell;rw[<- z]at yM;have Em:Lk (K1 prog 189 #[.pointer u] Wr λe w'=>e=Mk (Kx MJ R')/\R9 bt w0 jb pb bz made base g cap f u (Kx MJ R') w'):=ae ((GC.out Wr u R0 lR yM.1 yM.2).mono λe w' ⟨h1,h2⟩=>by rw[<- v]at h1 h2;refine⟨h1,?_⟩;rw[h2];exact(HS.out.put _).below ⟨rfl,rfl,rfl,cg _,λ_ _=>rfl⟩)
   have S:i<=E/\i<N/\O<=2000000:=No m.out hi.out;have ce:(i:Int)<=E:=af;have bi:(i:Int)<N:=af;have wO:cf Mm (O:Int)=O:=ax af af;have en:cf Mm ((i:Int)+1)=(i+1:Nat):=by have:=m.out;rw[ax]<;>omega
   have Sb:=ae lO;have q:=ae S;clear z v hO lR am lO yM S;by_cases de:L<=O
   .obtain⟨V,hV⟩:=ac (O-L);obtain⟨P,hP⟩:=ac (a+V);have aE:(O:Int) >= L:=af;have wV:cf Mm ((O:Int)-L)=V:=by
     have:=m.out;have:=Sb.out;have:=q.out
     rw[ax]<;>omega
    have wP:cf Mm ((a:Int)+V)=P:=by
     have:=m.out;have:=Sb.out;have:=q.out
     rw[ax]<;>omega
    have ci:P<N:=No m.out Sb.out;have bP:(P:Int)<N:=af;have p:Lk (bpRest a L M B (3-(t+1)) (t+1) (xorNext r,swp f i P)=bpRest a L M B 3 0 (nM L,d)):=ae (by rw[<- HO.out,bp_step a L M B t r f V Cs (by rw[<- K.out.2,if_pos de,hV]),hi.out,hP])
    clear hV hP;have l:Lk (i<f.size/\P<f.size):=ae (by rw[J.out];have:=q.out;omega);go_wp2_with fail;go_call Em.out as e C⟨rfl,hb2⟩;have w:=ae hb2;clear hb2 Em;obtain⟨x,Y⟩:∃x,f[i]! = x:=⟨_,rfl⟩;by_cases s:i=P
    .subst s;obtain⟨pp,pE,⟨D,I,G,H⟩,A,c⟩:=w.out.zj.jW (i:=i) l.out.1 Y;have F:=ae (w.out.swapped c);clear c;go_wp2_with fail;go_big_region
     all_goals
      clear D I G H A;go_wp2;refine⟨⟨i+1,t+1,xorNext r,swp f i i,rfl,af,by rw[size_swp];exact J.out,by rw[<- K.out.1];exact F.out,ae (Nm hi.out),p.out⟩,?_⟩;have:=m.out;have:=hi.out;simp[Lo];omega
    .obtain⟨y,hy⟩:∃y,f[P]! = y:=⟨_,rfl⟩;obtain⟨pp,qq,k⟩:=w.out.zj.nQ (i:=i) (j:=P) l.out.1 l.out.2 Y hy;have sA:=ae k;have F:=ae (w.out.swapped k.done);obtain⟨pE,JF,D,I,G,H,y0,y1,y2,y3,A,n,-⟩:=k;obtain⟨n0,n1,n2,n3,n4,n5,n6⟩:=n s;clear n;go_wp2_with fail;go_big_region
     all_goals
      clear D I G H y0 y1 y2 y3 n0 n1 n2 n3 n4 n5 n6 A;go_wp2;refine⟨⟨i+1,t+1,xorNext r,swp f i P,rfl,af,by rw[size_swp];exact J.out,by rw[<- K.out.1];exact F.out,ae (Nm hi.out),p.out⟩,?_⟩;have:=m.out;have:=hi.out;simp[Lo];omega
   .obtain⟨P,hP⟩:=ac (a+O);have aE:¬(O:Int) >= L:=af;have wP:cf Mm ((a:Int)+O)=P:=by
     have:=m.out;have:=Sb.out;have:=q.out
     rw[ax]<;>omega
    have ci:P<N:=Nm m.out;have bP:(P:Int)<N:=af;have p:Lk (bpRest a L M B (3-(t+1)) (t+1) (xorNext r,swp f i P)=bpRest a L M B 3 0 (nM L,d)):=ae (by rw[<- HO.out,bp_step a L M B t r f O Cs (by rw[<- K.out.2,if_neg af]),hi.out,hP])
    clear hP;have l:Lk (i<f.size/\P<f.size):=ae (by rw[J.out];have:=q.out;omega);go_wp2_with fail;go_call Em.out as e C⟨rfl,hb2⟩;have w:=ae hb2;clear hb2 Em;obtain⟨x,Y⟩:∃x,f[i]! = x:=⟨_,rfl⟩;by_cases s:i=P
    .subst s;obtain⟨pp,pE,⟨D,I,G,H⟩,A,c⟩:=w.out.zj.jW (i:=i) l.out.1 Y;have F:=ae (w.out.swapped c);clear c;go_wp2_with fail;go_big_region
     all_goals
      clear D I G H A;go_wp2;refine⟨⟨i+1,t+1,xorNext r,swp f i i,rfl,af,by rw[size_swp];exact J.out,by rw[<- K.out.1];exact F.out,ae (Nm hi.out),p.out⟩,?_⟩;have:=m.out;have:=hi.out;simp[Lo];omega
    .obtain⟨y,hy⟩:∃y,f[P]! = y:=⟨_,rfl⟩;obtain⟨pp,qq,k⟩:=w.out.zj.nQ (i:=i) (j:=P) l.out.1 l.out.2 Y hy;have sA:=ae k;have F:=ae (w.out.swapped k.done);obtain⟨pE,JF,D,I,G,H,y0,y1,y2,y3,A,n,-⟩:=k;obtain⟨n0,n1,n2,n3,n4,n5,n6⟩:=n s;clear n;go_wp2_with fail;go_big_region
     all_goals
      clear D I G H y0 y1 y2 y3 n0 n1 n2 n3 n4 n5 n6 A;go_wp2;refine⟨⟨i+1,t+1,xorNext r,swp f i P,rfl,af,by rw[size_swp];exact J.out,by rw[<- K.out.1];exact F.out,ae (Nm hi.out),p.out⟩,?_⟩;have:=m.out;have:=hi.out;simp[Lo];omega
  .have ce:¬(i:Int)<=E:=No m.out hi.out;go_wp2;go_end0
   refine⟨rfl,?_⟩;have h3:t=3:=af;subst h3;rw[<- HO.out];exact HS.out.zj
end
section
variable {bt:Bool}{w0 W:KX}{jb pb bz made base g cap:Nat}{d:Array aJ}
def XA(b:Bool)(w0:KX)(f c d a base g cap:Nat)(r:Nat×Bool×Array aJ)(e:Lp)(w':KX):Prop:=
 e=Mk (Ly #[r.1,.bool r.2.1])/\gT b w0 f c d a base g cap r.2.2 w'
theorem xN{p q:aJ->Bool}{d:Array aJ}{i j u v:Nat}(m:∀x,q x=!p x)(h:u=scanUp p d j i)(f:v=scanDown q d u j)(l:0<v):u≠v:=by intro e;have a:=(scanUp_spec p d j _ i rfl).2.2.2;have b:=(scanDown_spec q d u j).2.2.2;rw[<- h]at a;rw[<- f]at b;have g:=(scanDown_spec q d u j).1;rw[<- f]at g;have k:=a af;have c:=b af l;rw[m,<- e,k]at c;cases c
theorem uq{p q:aJ->Bool}{d:Array aJ}{i j u v:Nat}(c:i<=j+1)(e:u=scanUp p d j i)(f:v=scanDown q d u j):i<=u/\u<=j+1/\v<=j/\u<=v+1:=by have a:=scanUp_spec p d j _ i rfl;rw[<- e]at a;have b:=scanDown_spec q d u j;rw[<- f]at b;exact⟨a.1,a.2.1 c,b.1,b.2.1 (a.2.1 c)⟩
theorem xO{p:aJ->Bool}{d:Array aJ}{i j u:Nat}(c:i<=j+1)(b:u=scanUp p d j i):i<=u/\u<=j+1:=by have a:=scanUp_spec p d j _ i rfl;rw[<- b]at a;exact⟨a.1,a.2.1 c⟩
theorem GD{lt:aJ->aJ->Bool}{a i j u v:Nat}{d:Array aJ}(b:u=scanUp (λx=>lt x d[a]!) d j i)(c:v=scanDown (λx=>!lt x d[a]!) d u j) :
 partLoop lt a i j d=if u>v then (v,d) else partLoop lt a (u+1) (v-1) (swp d u v):=by subst b;subst c;exact partLoop_eq lt a i j d
theorem ur{lt:aJ->aJ->Bool}{a b pv u v:Nat}{d D:Array aJ}{r:Nat×Array aJ}(g:D=swp d a pv)(c:u=scanUp (λx=>lt x D[a]!) D (b-1) (a+1))(f:v=scanDown (λx=>!lt x D[a]!) D u (b-1))(e:¬u>v->r=partLoop lt a (u+1) (v-1) (swp D u v)) :
 partition lt d a b pv=if u>v then (v,Jd,swp D v a) else (r.1,J0,swp r.2 r.1 a):=by
 subst g;subst c;subst f;unfold partition;dsimp only;split
 .rfl
 .rename_i h
  rw[e h]
theorem GF(h:gT bt w0 jb pb bz made base g cap d W)(a b pv:Nat)(io:a<=pv)(Td:pv<b)(hb:b<=d.size)(dq:d.size<=1000000):K1 prog 296 #[.slice g d.size cap,a,b,pv,di jb] W (XA bt w0 jb pb bz made base g cap (partition (ltOf (aW bt)) d a b pv)):=by
 have H:=ae h;obtain⟨N,hN⟩:=ac d.size;rw[<- hN]at hb dq ⊢;have HN:=ae hN;clear h hN;obtain⟨C,ke⟩:=ac (b-1);have lw:cf Mm ((b:Int)-1)=C:=by rw[ax]<;>omega
 have mh:cf Mm ((a:Int)+1)=(a+1:Nat):=by rw[ax]<;>omega
 have ba:(a:Int)<N:=af;have bp:(pv:Int)<N:=af;have HB:Lk (a<d.size/\pv<d.size/\C<N/\a<=C/\N<=1000000/\C=b-1/\d.size=N):=ae (Nm HN.out);clear ke io Td hb dq;unfold di ptrTo;go_enter func296,ntmps296;go_upto_region 1 with fail
 go_cut [] from 14 to 27 (λP=>gT bt w0 jb pb bz made base g cap (swp d a pv) P)
 case first=>
  obtain⟨x,o⟩:∃x,d[a]! = x:=⟨_,rfl⟩;have G:Lk (a<d.size/\pv<d.size):=ae (Nm HB.out);by_cases q:a=pv
  .subst q;obtain⟨pp,pE,⟨K,O,L,M⟩,J,f⟩:=H.out.jW (i:=a) G.out.1 o;have HD:=ae f;clear f;go_big_region
   all_goals
    clear K O L M J;go_wp2;go_meet
    exact HD.out
  .obtain⟨y,A⟩:∃y,d[pv]! = y:=⟨_,rfl⟩;obtain⟨pp,qq,s⟩:=H.out.nQ (i:=a) (j:=pv) G.out.1 G.out.2 o A;have sA:=ae s;obtain⟨pE,JF,K,O,L,M,y0,y1,y2,y3,J,S,-⟩:=s;obtain⟨n0,n1,n2,n3,n4,n5,n6⟩:=S q;clear S;go_big_region
   all_goals
    clear K O L M y0 y1 y2 y3 n0 n1 n2 n3 n4 n5 n6 J;go_wp2;go_meet
    exact sA.out.done
 case rest=>
  have ko:=ae hcut;clear hcut;obtain⟨l,TK⟩:=ac (swp d a pv);rw[<- TK]at ko;have fI:l.size=N:=by rw[TK,size_swp];exact HN.out.symm
  have vO:=ae TK;have lu:Lk (a<l.size/\C<l.size/\l.size=N/\a+1<=C+1/\N<=1000000):=ae (Nm HB.out);clear TK fI;go_upto_block 0 with fail
  go_cut [12] from 32 to 49 (λw P=>∃i:Nat,w=i/\gT bt w0 jb pb bz made base g cap l P/\Lk (i=scanUp (λx=>ltOf (aW bt) x l[a]!) l C (a+1)))
  case first=>
   go_wp2_with fail;go_loopw [12] (λw wr=>∃i:Nat,w=i/\(a+1)<=i/\i<=C+1/\gT bt w0 jb pb bz made base g cap l wr/\Lk (scanUp (λx=>ltOf (aW bt) x l[a]!) l C i=scanUp (λx=>ltOf (aW bt) x l[a]!) l C (a+1))) (λw _=>C+1-(Lo w).toNat)
   case atStart=>exact⟨(a+1),rfl,Nm lu.out,Nm lu.out,ko.out,rfl⟩
   case round=>
    obtain⟨i,rfl,de,ce,X,Q⟩:=hrel;generalize wr=E at *;have I:=ae X;clear X;by_cases Y:i<=C
    .have uo:(i:Int)<=C:=af;have bi:(i:Int)<N:=Nm lu.out;have co:cf Mm ((i:Int)+1)=(i+1:Nat):=by
      have:=lu.out;have:=HB.out
      rw[ax]<;>omega
     obtain⟨x,o⟩:∃x,l[i]! = x:=⟨_,rfl⟩;obtain⟨y,A⟩:∃y,l[a]! = y:=⟨_,rfl⟩;have F:=ae (I.out.reads (i:=i) (j:=a) (Nm lu.out) (Nm lu.out) o A);by_cases V:aW bt x y<0
     .go_wp2_with fail;refine wq E ?_;iterate 8 (refine qz ?_)
      refine qz ?_ (λw' c=>by obtain⟨⟨R,c1,c2,c3⟩,-,-⟩:=F.out w' c;go_simp<;>rfl);iterate 3 (refine qz ?_)
      refine qz ?_ (λw' c=>by obtain⟨-,⟨R,c1,c2,c3⟩,-⟩:=F.out w' c;go_simp<;>rfl);refine qw (λw' c=>(F.out w' c).2.2) ?_;iterate 2 (refine qz ?_)
      refine wpQuiet_nil ?_;intro w5 D;have z:=ae (I.out.below D);clear D;go_wp2;refine⟨⟨(i+1),rfl,af,af,z.out,?_⟩,by simp[Lo];omega⟩;show scanUp (λx=>ltOf (aW bt) x l[a]!) l C (i+1)=_;rw[<- Q.out];exact(scanUp_go _ _ _ _ Y (by have e:ltOf (aW bt) x y=true:=decide_eq_true V;show ltOf (aW bt) l[i]! l[a]! = _;rw[o,A,e])).symm
     .have Ii:decide (aW bt x y<0)=false:=decide_eq_false V;go_wp2_with fail;refine wq E ?_;iterate 8 (refine qz ?_)
      refine qz ?_ (λw' c=>by obtain⟨⟨R,c1,c2,c3⟩,-,-⟩:=F.out w' c;go_simp<;>rfl);iterate 3 (refine qz ?_)
      refine qz ?_ (λw' c=>by obtain⟨-,⟨R,c1,c2,c3⟩,-⟩:=F.out w' c;go_simp<;>rfl);refine qw (λw' c=>(F.out w' c).2.2) ?_;iterate 2 (refine qz ?_)
      refine wpQuiet_nil ?_;intro w5 D;have z:=ae (I.out.below D);clear D;go_wp2;go_meet
      exact⟨i,rfl,z.out,ae (by rw[<- Q.out];exact(scanUp_end _ _ _ _ (.inr (by have e:ltOf (aW bt) x y=false:=decide_eq_false af;show ltOf (aW bt) l[i]! l[a]! = _;rw[o,A,e]))).symm)⟩
    .have uo:¬((i:Int)<=C):=af;go_wp2_with fail;go_quiet (fail)
     have U:RowKit.Below E.heap.size E (E.drewN nq):=⟨rfl,rfl,rfl,cg _,λ_ _=>rfl⟩;have z:=ae (I.out.below U);clear U;go_wp2;go_meet
     exact⟨i,rfl,z.out,ae (by rw[<- Q.out];exact(scanUp_end _ _ _ _ (.inl Y)).symm)⟩
  case rest=>
   obtain⟨m,rfl,el,tI⟩:=hcut;have gE:=ae el;have XB:=ae tI.out;clear el tI;have i6:=xO (show a+1<=C+1 by have:=lu.out;omega) XB.out;have kT:Lk (a<l.size/\C<l.size/\l.size=N/\m<=C+1/\1<=m/\a<m/\N<=1000000):=ae (Nm lu.out);clear i6;go_upto_block 2 with fail
   go_cut [13] from 50 to 68 (λw P=>∃j:Nat,w=j/\gT bt w0 jb pb bz made base g cap l P/\Lk (j=scanDown (λx=>!ltOf (aW bt) x l[a]!) l m C))
   case first=>
    go_wp2_with fail;go_loopw [13] (λw wr=>∃j:Nat,w=j/\j<=C/\m<=j+1/\gT bt w0 jb pb bz made base g cap l wr/\Lk (scanDown (λx=>!ltOf (aW bt) x l[a]!) l m j=scanDown (λx=>!ltOf (aW bt) x l[a]!) l m C)) (λw _=>(Lo w).toNat)
    case atStart=>exact⟨C,rfl,Nm kT.out,Nm kT.out,gE.out,rfl⟩
    case round=>
     obtain⟨j,rfl,de,ce,X,Q⟩:=hrel;generalize wr=E at *;have I:=ae X;clear X;by_cases Y:m<=j
     .obtain⟨T,bd⟩:=ac (j-1);have uo:(m:Int)<=j:=af;have bi:(j:Int)<N:=Nm kT.out;have co:cf Mm ((j:Int)-1)=T:=by
       have:=kT.out;have:=HB.out
       rw[ax]<;>omega
      have HJ:Lk (T=j-1/\1<=j):=ae (Nm kT.out);have OW:1<=j:=Nm kT.out;clear bd;obtain⟨x,o⟩:∃x,l[j]! = x:=⟨_,rfl⟩;obtain⟨y,A⟩:∃y,l[a]! = y:=⟨_,rfl⟩;have F:=ae (I.out.reads (i:=j) (j:=a) (Nm kT.out) (Nm kT.out) o A);by_cases V:aW bt x y<0
      .go_wp2_with fail;refine wq E ?_;iterate 8 (refine qz ?_)
       refine qz ?_ (λw' c=>by obtain⟨⟨R,c1,c2,c3⟩,-,-⟩:=F.out w' c;go_simp<;>rfl);iterate 3 (refine qz ?_)
       refine qz ?_ (λw' c=>by obtain⟨-,⟨R,c1,c2,c3⟩,-⟩:=F.out w' c;go_simp<;>rfl);refine qw (λw' c=>(F.out w' c).2.2) ?_;iterate 3 (refine qz ?_)
       refine wpQuiet_nil ?_;intro w5 D;have z:=ae (I.out.below D);clear D;go_wp2;go_meet
       exact⟨j,rfl,z.out,ae (by rw[<- Q.out];exact(scanDown_end _ _ _ _ (.inr (by have e:ltOf (aW bt) x y=true:=decide_eq_true V;show(!ltOf (aW bt) l[j]! l[a]!)=_;rw[o,A,e];rfl))).symm)⟩
      .have Ii:decide (aW bt x y<0)=false:=decide_eq_false V;go_wp2_with fail;refine wq E ?_;iterate 8 (refine qz ?_)
       refine qz ?_ (λw' c=>by obtain⟨⟨R,c1,c2,c3⟩,-,-⟩:=F.out w' c;go_simp<;>rfl);iterate 3 (refine qz ?_)
       refine qz ?_ (λw' c=>by obtain⟨-,⟨R,c1,c2,c3⟩,-⟩:=F.out w' c;go_simp<;>rfl);refine qw (λw' c=>(F.out w' c).2.2) ?_;iterate 3 (refine qz ?_)
       refine wpQuiet_nil ?_;intro w5 D;have z:=ae (I.out.below D);clear D;go_wp2;obtain⟨kl,i8⟩:=HJ.out;refine⟨⟨T,rfl,af,af,z.out,?_⟩,by simp[Lo];omega⟩;show scanDown (λx=>!ltOf (aW bt) x l[a]!) l m T=_;rw[<- Q.out,show T=j-1 by omega];exact(scanDown_go _ _ _ _ Y af (by have e:ltOf (aW bt) x y=false:=decide_eq_false af;show(!ltOf (aW bt) l[j]! l[a]!)=_;rw[o,A,e];rfl)).symm
     .have uo:¬((m:Int)<=j):=af;go_wp2_with fail;go_quiet (fail)
      have U:RowKit.Below E.heap.size E (E.drewN nq):=⟨rfl,rfl,rfl,cg _,λ_ _=>rfl⟩;have z:=ae (I.out.below U);clear U;go_wp2;go_meet
      exact⟨j,rfl,z.out,ae (by rw[<- Q.out];exact(scanDown_end _ _ _ _ (.inl Y)).symm)⟩
   case rest=>
    obtain⟨n,rfl,en,OW⟩:=hcut;have am:=ae en;have aE:=ae OW.out;clear en OW;have gt:=uq (show a+1<=C+1 by have:=lu.out;omega) XB.out aE.out;have gx:0<n->m≠n:=xN (λ_=>rfl) XB.out aE.out;have Z:Lk (a<l.size/\n<l.size/\l.size=N/\(m<=n->m<l.size/\m+1<=n)/\a<=n/\a<m/\m<=n+1/\N<=1000000):=ae (Nm kT.out);have mw:(n:Int)<N:=Nm Z.out;clear gt gx;by_cases CQ:m>n
    .have XC:(m:Int)>n:=af;go_upto_region 8 with fail
     go_cut [] from 72 to 85 (λP=>gT bt w0 jb pb bz made base g cap (swp l n a) P)
     case first=>
      obtain⟨x,o⟩:∃x,l[n]! = x:=⟨_,rfl⟩;have G:Lk (n<l.size/\a<l.size):=ae (Nm Z.out);by_cases q:n=a
      .subst q;obtain⟨pp,pE,⟨K,O,L,M⟩,J,f⟩:=am.out.jW (i:=n) G.out.1 o;have HD:=ae f;clear f;go_big_region
       all_goals
        clear K O L M J;go_wp2;go_meet
        exact HD.out
      .obtain⟨y,A⟩:∃y,l[a]! = y:=⟨_,rfl⟩;obtain⟨pp,qq,s⟩:=am.out.nQ (i:=n) (j:=a) G.out.1 G.out.2 o A;have sA:=ae s;obtain⟨pE,JF,K,O,L,M,y0,y1,y2,y3,J,S,-⟩:=s;obtain⟨n0,n1,n2,n3,n4,n5,n6⟩:=S q;clear S;go_big_region
       all_goals
        clear K O L M y0 y1 y2 y3 n0 n1 n2 n3 n4 n5 n6 J;go_wp2;go_meet
        exact sA.out.done
     case rest=>
      have jh:=ae hcut;clear hcut;have MF:partition (ltOf (aW bt)) d a b pv=(n,Jd,swp l n a):=by have hJ:C=b-1:=HB.out.2.2.2.2.2.1;rw[ur (u:=m) (v:=n) (r:=(0,d)) vO.out (by rw[<- hJ];exact XB.out) (by rw[<- hJ];exact aE.out) (λhn=>absurd CQ hn),if_pos CQ]
      have HP:=ae MF;clear MF;go_wp2;go_ret2;rw[HP.out];exact⟨rfl,jh.out⟩
    .have XC:¬(m:Int)>n:=af;have mm:(m:Int)<N:=Nm Z.out;have qZ:Lk (m<l.size/\n<l.size/\m+1<=n):=ae (Nm Z.out);obtain⟨J2,i7⟩:=ac (n-1);have me:cf Mm ((m:Int)+1)=(m+1:Nat):=by have:=Z.out;rw[ax]<;>omega
     have lE:cf Mm ((n:Int)-1)=J2:=by
      have:=Z.out;have:=qZ.out
      rw[ax]<;>omega
     have ci:Lk (J2=n-1/\1<=n):=ae (Nm qZ.out);clear i7;go_upto_region 10 with fail
     go_cut [] from 87 to 100 (λP=>gT bt w0 jb pb bz made base g cap (swp l m n) P)
     case first=>
      obtain⟨x,o⟩:∃x,l[m]! = x:=⟨_,rfl⟩;have G:Lk (m<l.size/\n<l.size):=ae (Nm qZ.out);by_cases q:m=n
      .subst q;obtain⟨pp,pE,⟨K,O,L,M⟩,J,f⟩:=am.out.jW (i:=m) G.out.1 o;have HD:=ae f;clear f;go_big_region
       all_goals
        clear K O L M J;go_wp2;go_meet
        exact HD.out
      .obtain⟨y,A⟩:∃y,l[n]! = y:=⟨_,rfl⟩;obtain⟨pp,qq,s⟩:=am.out.nQ (i:=m) (j:=n) G.out.1 G.out.2 o A;have sA:=ae s;obtain⟨pE,JF,K,O,L,M,y0,y1,y2,y3,J,S,-⟩:=s;obtain⟨n0,n1,n2,n3,n4,n5,n6⟩:=S q;clear S;go_big_region
       all_goals
        clear K O L M y0 y1 y2 y3 n0 n1 n2 n3 n4 n5 n6 J;go_wp2;go_meet
        exact sA.out.done
     case rest=>
      have z:=ae hcut;clear hcut;obtain⟨D2,al⟩:=ac (swp l m n);rw[<- al]at z;have du:D2.size=N:=by rw[al,size_swp];exact Z.out.2.2.1
      obtain⟨r,hr⟩:=ac (partLoop (ltOf (aW bt)) a (m+1) J2 D2);have MF:partition (ltOf (aW bt)) d a b pv=(r.1,J0,swp r.2 r.1 a):=by have hJ:C=b-1:=HB.out.2.2.2.2.2.1;rw[ur (u:=m) (v:=n) (r:=r) vO.out (by rw[<- hJ];exact XB.out) (by rw[<- hJ];exact aE.out) (λ_=>by rw[hr,al,ci.out.1]),if_neg CQ]
      have HP:=ae MF;have ks:=ae du;have HR:=ae hr;clear MF du hr al;go_wp2_with fail;go_loopw [12,13] (λw vj wr=>∃(i3 B:Nat)(k:Array aJ),w=i3/\vj=B/\a<i3/\i3<=B+1/\B<N/\k.size=N/\gT bt w0 jb pb bz made base g cap k wr/\Lk (partLoop (ltOf (aW bt)) a i3 B k=r)) (λw vj _=>(Lo vj).toNat+1-(Lo w).toNat)
      case atStart=>exact⟨m+1,J2,D2,rfl,rfl,Nm Z.out,No qZ.out ci.out,No Z.out ci.out,ks.out,z.out,HR.out.symm⟩
      case round=>
       obtain⟨i3,B,k,rfl,rfl,TL,XD,VK,fm,ee,pN⟩:=hrel;generalize wr=mu at *;have iF:=ae ee;have yA:Lk (a<k.size/\B<k.size/\k.size=N/\i3<=B+1/\a<i3/\N<=1000000):=ae (Nm Z.out);clear ee fm;go_upto_block 6 with fail
       go_cut [12] from 105 to 122 (λw P=>∃i:Nat,w=i/\gT bt w0 jb pb bz made base g cap k P/\Lk (i=scanUp (λx=>ltOf (aW bt) x k[a]!) k B i3))
       case first=>
        go_wp2_with fail;go_loopw [12] (λw wr=>∃i:Nat,w=i/\i3<=i/\i<=B+1/\gT bt w0 jb pb bz made base g cap k wr/\Lk (scanUp (λx=>ltOf (aW bt) x k[a]!) k B i=scanUp (λx=>ltOf (aW bt) x k[a]!) k B i3)) (λw _=>B+1-(Lo w).toNat)
        case atStart=>exact⟨i3,rfl,Nm yA.out,Nm yA.out,iF.out,rfl⟩
        case round=>
         obtain⟨i,rfl,de,ce,X,Q⟩:=hrel;generalize wr=E at *;have I:=ae X;clear X;by_cases Y:i<=B
         .have uo:(i:Int)<=B:=af;have bi:(i:Int)<N:=Nm yA.out;have co:cf Mm ((i:Int)+1)=(i+1:Nat):=by
           have:=yA.out;have:=HB.out
           rw[ax]<;>omega
          obtain⟨x,o⟩:∃x,k[i]! = x:=⟨_,rfl⟩;obtain⟨y,A⟩:∃y,k[a]! = y:=⟨_,rfl⟩;have F:=ae (I.out.reads (i:=i) (j:=a) (Nm yA.out) (Nm yA.out) o A);by_cases V:aW bt x y<0
          .go_wp2_with fail;refine wq E ?_;iterate 8 (refine qz ?_)
           refine qz ?_ (λw' c=>by obtain⟨⟨R,c1,c2,c3⟩,-,-⟩:=F.out w' c;go_simp<;>rfl);iterate 3 (refine qz ?_)
           refine qz ?_ (λw' c=>by obtain⟨-,⟨R,c1,c2,c3⟩,-⟩:=F.out w' c;go_simp<;>rfl);refine qw (λw' c=>(F.out w' c).2.2) ?_;iterate 2 (refine qz ?_)
           refine wpQuiet_nil ?_;intro w5 D;have z:=ae (I.out.below D);clear D;go_wp2;refine⟨⟨(i+1),rfl,af,af,z.out,?_⟩,by simp[Lo];omega⟩;show scanUp (λx=>ltOf (aW bt) x k[a]!) k B (i+1)=_;rw[<- Q.out];exact(scanUp_go _ _ _ _ Y (by have e:ltOf (aW bt) x y=true:=decide_eq_true V;show ltOf (aW bt) k[i]! k[a]! = _;rw[o,A,e])).symm
          .have Ii:decide (aW bt x y<0)=false:=decide_eq_false V;go_wp2_with fail;refine wq E ?_;iterate 8 (refine qz ?_)
           refine qz ?_ (λw' c=>by obtain⟨⟨R,c1,c2,c3⟩,-,-⟩:=F.out w' c;go_simp<;>rfl);iterate 3 (refine qz ?_)
           refine qz ?_ (λw' c=>by obtain⟨-,⟨R,c1,c2,c3⟩,-⟩:=F.out w' c;go_simp<;>rfl);refine qw (λw' c=>(F.out w' c).2.2) ?_;iterate 2 (refine qz ?_)
           refine wpQuiet_nil ?_;intro w5 D;have z:=ae (I.out.below D);clear D;go_wp2;go_meet
           exact⟨i,rfl,z.out,ae (by rw[<- Q.out];exact(scanUp_end _ _ _ _ (.inr (by have e:ltOf (aW bt) x y=false:=decide_eq_false af;show ltOf (aW bt) k[i]! k[a]! = _;rw[o,A,e]))).symm)⟩
         .have uo:¬((i:Int)<=B):=af;go_wp2_with fail;go_quiet (fail)
          have U:RowKit.Below E.heap.size E (E.drewN nq):=⟨rfl,rfl,rfl,cg _,λ_ _=>rfl⟩;have z:=ae (I.out.below U);clear U;go_wp2;go_meet
          exact⟨i,rfl,z.out,ae (by rw[<- Q.out];exact(scanUp_end _ _ _ _ (.inl Y)).symm)⟩
       case rest=>
        obtain⟨i4,rfl,XE,BA⟩:=hcut;have eS:=ae XE;have JJ:=ae BA.out;clear XE BA;have ff:=xO (show i3<=B+1 by have:=yA.out;omega) JJ.out;have oz:Lk (a<k.size/\B<k.size/\k.size=N/\i4<=B+1/\1<=i4/\a<i4/\i3<=i4/\N<=1000000):=ae (Nm yA.out);clear ff;go_upto_block 8 with fail
        go_cut [13] from 123 to 141 (λw P=>∃j:Nat,w=j/\gT bt w0 jb pb bz made base g cap k P/\Lk (j=scanDown (λx=>!ltOf (aW bt) x k[a]!) k i4 B))
        case first=>
         go_wp2_with fail;go_loopw [13] (λw wr=>∃j:Nat,w=j/\j<=B/\i4<=j+1/\gT bt w0 jb pb bz made base g cap k wr/\Lk (scanDown (λx=>!ltOf (aW bt) x k[a]!) k i4 j=scanDown (λx=>!ltOf (aW bt) x k[a]!) k i4 B)) (λw _=>(Lo w).toNat)
         case atStart=>exact⟨B,rfl,Nm oz.out,Nm oz.out,eS.out,rfl⟩
         case round=>
          obtain⟨j,rfl,de,ce,X,Q⟩:=hrel;generalize wr=E at *;have I:=ae X;clear X;by_cases Y:i4<=j
          .obtain⟨T,bd⟩:=ac (j-1);have uo:(i4:Int)<=j:=af;have bi:(j:Int)<N:=Nm oz.out;have co:cf Mm ((j:Int)-1)=T:=by
            have:=oz.out;have:=HB.out
            rw[ax]<;>omega
           have HJ:Lk (T=j-1/\1<=j):=ae (Nm oz.out);have OW:1<=j:=Nm oz.out;clear bd;obtain⟨x,o⟩:∃x,k[j]! = x:=⟨_,rfl⟩;obtain⟨y,A⟩:∃y,k[a]! = y:=⟨_,rfl⟩;have F:=ae (I.out.reads (i:=j) (j:=a) (Nm oz.out) (Nm oz.out) o A);by_cases V:aW bt x y<0
           .go_wp2_with fail;refine wq E ?_;iterate 8 (refine qz ?_)
            refine qz ?_ (λw' c=>by obtain⟨⟨R,c1,c2,c3⟩,-,-⟩:=F.out w' c;go_simp<;>rfl);iterate 3 (refine qz ?_)
            refine qz ?_ (λw' c=>by obtain⟨-,⟨R,c1,c2,c3⟩,-⟩:=F.out w' c;go_simp<;>rfl);refine qw (λw' c=>(F.out w' c).2.2) ?_;iterate 3 (refine qz ?_)
            refine wpQuiet_nil ?_;intro w5 D;have z:=ae (I.out.below D);clear D;go_wp2;go_meet
            exact⟨j,rfl,z.out,ae (by rw[<- Q.out];exact(scanDown_end _ _ _ _ (.inr (by have e:ltOf (aW bt) x y=true:=decide_eq_true V;show(!ltOf (aW bt) k[j]! k[a]!)=_;rw[o,A,e];rfl))).symm)⟩
           .have Ii:decide (aW bt x y<0)=false:=decide_eq_false V;go_wp2_with fail;refine wq E ?_;iterate 8 (refine qz ?_)
            refine qz ?_ (λw' c=>by obtain⟨⟨R,c1,c2,c3⟩,-,-⟩:=F.out w' c;go_simp<;>rfl);iterate 3 (refine qz ?_)
            refine qz ?_ (λw' c=>by obtain⟨-,⟨R,c1,c2,c3⟩,-⟩:=F.out w' c;go_simp<;>rfl);refine qw (λw' c=>(F.out w' c).2.2) ?_;iterate 3 (refine qz ?_)
            refine wpQuiet_nil ?_;intro w5 D;have z:=ae (I.out.below D);clear D;go_wp2;obtain⟨kl,i8⟩:=HJ.out;refine⟨⟨T,rfl,af,af,z.out,?_⟩,by simp[Lo];omega⟩;show scanDown (λx=>!ltOf (aW bt) x k[a]!) k i4 T=_;rw[<- Q.out,show T=j-1 by omega];exact(scanDown_go _ _ _ _ Y af (by have e:ltOf (aW bt) x y=false:=decide_eq_false af;show(!ltOf (aW bt) k[j]! k[a]!)=_;rw[o,A,e];rfl)).symm
          .have uo:¬((i4:Int)<=j):=af;go_wp2_with fail;go_quiet (fail)
           have U:RowKit.Below E.heap.size E (E.drewN nq):=⟨rfl,rfl,rfl,cg _,λ_ _=>rfl⟩;have z:=ae (I.out.below U);clear U;go_wp2;go_meet
           exact⟨j,rfl,z.out,ae (by rw[<- Q.out];exact(scanDown_end _ _ _ _ (.inl Y)).symm)⟩
        case rest=>
         obtain⟨p,rfl,XF,XG⟩:=hcut;have MG:=ae XF;have PS:=ae XG.out;clear XF XG;have kd:=uq (show i3<=B+1 by have:=yA.out;omega) JJ.out PS.out;have kw:0<p->i4≠p:=xN (λ_=>rfl) JJ.out PS.out;have nu:Lk (a<k.size/\p<k.size/\k.size=N/\(i4<=p->i4<k.size/\i4+1<=p)/\a<=p/\a<i4/\i4<=p+1/\i3<=i4/\p<=B/\N<=1000000):=ae (Nm oz.out);have li:(p:Int)<N:=Nm nu.out;have t:=GD JJ.out PS.out;clear kd kw;by_cases XH:i4>p
         .have XC:(i4:Int)>p:=af;rw[if_pos XH,pN.out]at t;have dl:=ae t;clear t;go_upto_region 21 with fail
          go_cut [] from 163 to 176 (λP=>gT bt w0 jb pb bz made base g cap (swp k p a) P)
          case first=>
           obtain⟨x,o⟩:∃x,k[p]! = x:=⟨_,rfl⟩;have G:Lk (p<k.size/\a<k.size):=ae (Nm nu.out);by_cases q:p=a
           .subst q;obtain⟨pp,pE,⟨K,O,L,M⟩,J,f⟩:=MG.out.jW (i:=p) G.out.1 o;have HD:=ae f;clear f;go_big_region
            all_goals
             clear K O L M J;go_wp2;go_meet
             exact HD.out
           .obtain⟨y,A⟩:∃y,k[a]! = y:=⟨_,rfl⟩;obtain⟨pp,qq,s⟩:=MG.out.nQ (i:=p) (j:=a) G.out.1 G.out.2 o A;have sA:=ae s;obtain⟨pE,JF,K,O,L,M,y0,y1,y2,y3,J,S,-⟩:=s;obtain⟨n0,n1,n2,n3,n4,n5,n6⟩:=S q;clear S;go_big_region
            all_goals
             clear K O L M y0 y1 y2 y3 n0 n1 n2 n3 n4 n5 n6 J;go_wp2;go_meet
             exact sA.out.done
          case rest=>have lJ:=ae hcut;clear hcut;go_wp2;go_ret2;rw[HP.out,dl.out];exact⟨rfl,lJ.out⟩
         .have XC:¬(i4:Int)>p:=af;rw[if_neg XH,pN.out]at t;have dl:=ae t;clear t;have ld:(i4:Int)<N:=Nm nu.out;have JK:Lk (i4<k.size/\p<k.size/\i4+1<=p):=ae (Nm nu.out);obtain⟨J5,iS⟩:=ac (p-1);have mx:cf Mm ((i4:Int)+1)=(i4+1:Nat):=by have:=nu.out;rw[ax]<;>omega
          have lP:cf Mm ((p:Int)-1)=J5:=by
           have:=nu.out;have:=JK.out
           rw[ax]<;>omega
          have jj:Lk (J5=p-1/\1<=p):=ae (Nm JK.out);clear iS;go_upto_region 18 with fail
          go_cut [] from 145 to 158 (λP=>gT bt w0 jb pb bz made base g cap (swp k i4 p) P)
          case first=>
           obtain⟨x,o⟩:∃x,k[i4]! = x:=⟨_,rfl⟩;have G:Lk (i4<k.size/\p<k.size):=ae (Nm JK.out);by_cases q:i4=p
           .subst q;obtain⟨pp,pE,⟨K,O,L,M⟩,J,f⟩:=MG.out.jW (i:=i4) G.out.1 o;have HD:=ae f;clear f;go_big_region
            all_goals
             clear K O L M J;go_wp2;go_meet
             exact HD.out
           .obtain⟨y,A⟩:∃y,k[p]! = y:=⟨_,rfl⟩;obtain⟨pp,qq,s⟩:=MG.out.nQ (i:=i4) (j:=p) G.out.1 G.out.2 o A;have sA:=ae s;obtain⟨pE,JF,K,O,L,M,y0,y1,y2,y3,J,S,-⟩:=s;obtain⟨n0,n1,n2,n3,n4,n5,n6⟩:=S q;clear S;go_big_region
            all_goals
             clear K O L M y0 y1 y2 y3 n0 n1 n2 n3 n4 n5 n6 J;go_wp2;go_meet
             exact sA.out.done
          case rest=>have tR:=ae hcut;clear hcut;go_wp2;have q1:=nu.out;have q2:=JK.out;have q3:=jj.out;refine⟨⟨i4+1,J5,swp k i4 p,rfl,rfl,af,af,af,by rw[size_swp];omega,tR.out,?_⟩,by simp[Lo];omega⟩;show partLoop _ _ _ _ _=_;rw[dl.out,q3.1]
end
end Go.Proofs.YtofigggbapdfhaaGreatDoor
