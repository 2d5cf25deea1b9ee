/-
  Joined.
-/
import Derived.Test.YthkkgdpomhhjjaaGreatDoorK07
set_option maxRecDepth 100000
set_option maxHeartbeats 32000000
namespace Go.Proofs.YthkkgdpomhhjjaaGreatDoor
open Go.Proofs.Tryz
section
open Go.RowKit Go.Maps Go.MapKept
section
variable {S:Nat->Prop} {w w':World} {pb db n cb kb sb jb bf made:Nat} {by':Bool} {name:Name} {o o':au} {d d':Dsk} {L L':aH}
theorem jA(h:aR w pb db n o d L):Calls prog 44 #[ptrTo pb] w fun e w'=>e=.returned (.int .i64 (n:Int))/\w=w':=by
 obtain⟨fb,mb,l,hand,mf,hp,rfl,-⟩:=h;obtain⟨⟨-,hc1,-⟩,-⟩:=hp.head.cells;have hm:=hp.most;clear hp;unfold ptrTo;generalize l.length=n at *;go_enter func44,ntmps44;go_wp2;go_ret;exact⟨rfl,rfl⟩
theorem aF.V8(hst:aF w sb pb name 20)(hm:Moved S n pb db w o d w' o' d' L')(ho:o sb=none)(hs:¬S sb):aF w' sb pb name 20:=hst.moved hm ho hs
def pK(w:World)(cb N:Nat):Nat:=N-(intOf ((w.cell? ⟨cb,1,none⟩).getD undef)).toNat
theorem pM{i N:Nat}{x:aD}(h:bD w cb sb i N x):pK w cb N=N-i:=by
 unfold pK;rw[h.cells.1.2.1];simp[intOf]
def xg(many:Bool)(out:Name)(r:Nat):Name:=if many then dC r else out
structure nr(n pb db jb bf cb sb:Nat)(by':Bool)(w:World)(o:au)(d:Dsk)(N made p:Nat)(v:Value)(nm:List Name)(l:Value)(c:List aD)(W:World)(o':au)(d':Dsk)(L':aH):Prop where
 mv:Moved (fun x=>x=cb\/x=jb) n pb db w o d W o' d' L'
 EX:cU W jb pb bf made by'
 src:∃x,bD W cb sb p N x
 row:W.ownsRow w.heap.size 9 1 v nm.length (nm.map Value.string)
 rf:∀x,v.ownBlock=some x->o' x=none
 ed:aJ W w.heap.size l c
 ef:∀x,l.ownBlock=some x->o' x=none
 old:(jb<w.heap.size/\o jb=none)/\(bf<w.heap.size/\o bf=none)/\cb<w.heap.size/\o cb=none
theorem nr.step{N made p:Nat}{v l:Value}{nm:List Name}{c:List aD}{W W':World}{gY:au}{ig:Dsk}(h:nr n pb db jb bf cb sb by' w o d N made p v nm l c W o' d' L'){T:Nat->Prop}{Ao:aH}(_hm:Moved (fun x=>x=cb\/x=jb) n pb db w o d W' gY ig Ao)(ho:∀x,x<W.heap.size->o' x=none->gY x=none)(hh:∀x,x<W.heap.size->o' x=none->¬T x->W'.heap[x]? = W.heap[x]?) :
 (¬T jb->¬T bf->cU W' jb pb bf made by')/\(¬T cb->∃x,bD W' cb sb p N x)/\((∀x,v.ownBlock=some x->¬T x)->W'.ownsRow w.heap.size 9 1 v nm.length (nm.map Value.string)/\∀x,v.ownBlock=some x->gY x=none)/\((∀x,l.ownBlock=some x->¬T x)->aJ W' w.heap.size l c/\∀x,l.ownBlock=some x->gY x=none):=by
 obtain⟨⟨j1,j2⟩,⟨b1,b2⟩,c1,c2⟩:=h.old;have hz:=h.mv.size;refine⟨fun t1 t2=>h.EX.kept (hh _ af (h.mv.free j1 j2) t1) (hh _ af (h.mv.free b1 b2) t2),fun t=>?_,fun t=>⟨bH h.row fun x hx=>hh x (aL h.row x hx).1 (h.rf x hx) (t x hx),fun x hx=>ho x (aL h.row x hx).1 (h.rf x hx)⟩,fun t=>⟨bH h.ed fun x hx=>hh x (aL h.ed x hx).1 (h.ef x hx) (t x hx),fun x hx=>ho x (aL h.ed x hx).1 (h.ef x hx)⟩⟩;obtain⟨x,hx⟩:=h.src;exact⟨x,hx.kept (hh _ af (h.mv.free c1 c2) t)⟩
structure pN(by':Bool)(out:Name)(es:List aD)(most:Nat)(many:Bool)(rs:List tO)(i:Nat):Prop where
 nm:rs.map (·.1)=(List.range rs.length).map (xg many out)
 at':i=min es.length (rs.length*most)
 each:∀p∈rs,aC by' p.2=p.2
 all:aC by' (ep rs)=aC by' (es.take i)
 len:lens rs<=i
 one:many=false->rs.length<=1
 pos:0<rs.length->0<es.length
 top:rs.length<=51
def Ik(n pb db jb bf cb sb:Nat)(by':Bool)(w:World)(o:au)(d:Dsk)(L:aH)(out:Name)(es:List aD)(most:Nat)(many:Bool)(v:Value)(wr:World):Prop:=
 ∃rs i o' d',pN by' out es most many rs i/\nr n pb db jb bf cb sb by' w o d es.length (if many=true then rs.length else 0) i v (rs.map (·.1)) (.slice none 0 0) [] wr o' d' (dL rs L)
def qR(n pb db jb bf cb:Nat)(by':Bool)(w:World)(o:au)(d:Dsk)(L:aH)(out:Name)(es:List aD)(e:Ending)(w':World):Prop:=
 ∃v c d' o' L',e=.returned (.tuple #[v,.int .i64 ((c:Nat):Int)])/\Moved (fun x=>x=cb\/x=jb) n pb db w o d w' o' d' L'/\(∀x,¬il out x->aB L' x=aB L x) /\
  ((c=0/\∃rs r,L'=dL rs L/\oh by' es rs/\((∃x,rs=[(out,x)])\/(2<=rs.length/\48<es.length/\∀p∈rs,∃k,k<r/\p.1=dC k))/\r<=rs.length/\rs.length<=51/\cU w' jb pb bf r by'/\bG w' v (rs.map (·.1))/\∀b,v.ownBlock=some b->o' b=none/\w.heap.size<=b)\/jL d d' (need L+8*es.length) c)
theorem yE(many:Bool)(out:Name)(r:Nat)(h1:many=false->r<=1) :
 ((List.range r).map (xg many out)).Nodup/\(r<=51->∀x∈(List.range r).map (xg many out),il out x):=by
 constructor
 ·cases many with
  |true=>exact List.pairwise_map.2 (List.nodup_range.imp (fun{a b}h e=>h (xf e)))
  |false=>
    have:=h1 rfl;match r,this with
    |0,_=>exact List.Pairwise.nil
    |1,_=>exact List.pairwise_singleton _ _
 ·intro hr x hx;obtain⟨k,hk,rfl⟩:=List.mem_map.1 hx;rw[List.mem_range]at hk;cases many with
  |true=>exact .inr ⟨k,af,rfl⟩
  |false=>exact .inl rfl
theorem K9(many:Bool)(out:Name)(r:Nat)(h1:many=false->r=0):xg many out r ∉ (List.range r).map (xg many out):=by
 intro hx;obtain⟨k,hk,e⟩:=List.mem_map.1 hx;rw[List.mem_range]at hk;cases many with
 |true=>have:=xf e;omega
 |false=>have:=h1 rfl;omega
theorem pN.fin{by':Bool}{out:Name}{es:List aD}{X M:Nat}{many:Bool}{rs:List tO}{i:Nat}(h:pN by' out es X many rs i)(hX:X=min es.length M)(h48:48<=M)(hm:many=true↔M<es.length)(hi:i=es.length)(h0:0<es.length) :
 oh by' es rs/\((∃x,rs=[(out,x)])\/(2<=rs.length/\48<es.length/\∀p∈rs,∃k,k<(if many=true then rs.length else 0)/\p.1=dC k)):=by
 have hl:=h.at';refine⟨⟨h.each,by rw[h.all,List.take_of_length_le af],by have:=h.len;omega,by rw[h.nm];exact(yE many out _ h.one).1⟩,?_⟩;cases many with
 |true=>
   have hM:=hm.1 rfl;obtain rfl:X=M:=by omega
   refine .inr ⟨?_,af,fun p hp=>?_⟩
   ·rcases Nat.lt_or_ge rs.length 2 with g | g
    ·have g2:rs.length=0\/rs.length=1:=by omega
     rcases g2 with g2 | g2<;>rw[g2]at hl<;>omega
    ·exact g
   ·have h4:=List.mem_map_of_mem (f:=(·.1)) hp;rw[h.nm]at h4;obtain⟨q,hq,e⟩:=List.mem_map.1 h4;exact⟨q,List.mem_range.1 hq,e.symm⟩
 |false=>
   match rs,h with
   | [],_=>simp at hl;omega
   | [p],h=>exact .inl ⟨p.2,by have e:=(List.cons.inj h.nm).1;rw[show out=p.1 from e.symm]⟩
   |_::_::_,h=>have:=h.one rfl;simp at this
theorem pN.next{by':Bool}{out:Name}{es:List aD}{X M:Nat}{many:Bool}{rs:List tO}{i k:Nat}(h:pN by' out es X many rs i)(hX:X=min es.length M)(h48:48<=M)(hN:es.length<=2400)(hm:many=true↔M<es.length)(hk:k=min X (es.length-i))(h0:0<k\/es.length=0) :
 rs.length<51/\(many=false->rs.length=0)/\(0<es.length->pN by' out es X many (rs++[(xg many out rs.length,aC by' ((es.drop i).take k))]) (i+k)):=by
 have hl:=h.at';have h1:many=false->rs.length=0:=fun e=>by
  have g1:=h.one e;have g2:=h.pos;have g3:¬M<es.length:=fun g=>by rw[hm.2 g]at e;cases e
  rcases Nat.eq_zero_or_pos rs.length with g | g
  ·exact g
  ·have g5:rs.length=1:=by omega
   have:=g2 g;rw[g5]at hl;omega
 have h51:rs.length<51:=by
  cases many with
  |false=>have:=h1 rfl;omega
  |true=>
    have g1:=hm.1 rfl;obtain rfl:X=M:=by omega
    have:=Nat.mul_le_mul_left rs.length h48;omega
 have e1:es.take (i+k)=es.take i++(es.drop i).take k:=by rw[List.take_add]
 refine⟨h51,h1,fun hp=>⟨?_,?_,fun p hp=>?_,?_,?_,fun e=>?_,fun _=>hp,by rw[List.length_append];exact h51⟩⟩
 ·rw[List.map_append,h.nm,List.length_append,List.length_singleton,List.range_succ,List.map_append];rfl
 ·rw[List.length_append,List.length_singleton,Nat.add_mul,Nat.one_mul];generalize rs.length*X=P at *;omega
 ·rcases List.mem_append.1 hp with hp | hp
  ·exact h.each p hp
  ·rw[List.mem_singleton.1 hp];exact ni _ _
 ·rw[uL,e1,show ep [(xg many out rs.length,aC by' ((es.drop i).take k))]=aC by' ((es.drop i).take k) by simp[ep]];exact OJ h.all (ni _ _)
 ·have h2:=b8 by' ((es.drop i).take k)
  rw[List.length_take]at h2;rw[yD,show lens [(xg many out rs.length,aC by' ((es.drop i).take k))]=(aC by' ((es.drop i).take k)).length by simp[lens]];have:=h.len;omega
 ·rw[List.length_append,h1 e];exact Nat.le_refl _
theorem Il(HW:aP){m:Nat}(HS:qN m)(h:aR w pb db n o d L)(hn:8<=n)(hj:cU w jb pb bf 0 by')(km:o jb=none)(CL:o bf=none)(hne:bf≠jb){es:List aD}{fl:Bool}{rV out:Name}{x0:aD}(hL:aB L rV=some (ax es fl))(pH:bD w cb sb 0 es.length x0)(hst:aF w sb pb rV 20)(Oy:o cb=none)(V9:o sb=none)(hcj:cb≠jb)(hcb:cb≠bf)(hsj:sb≠jb)(hsc:sb≠cb)(hout:bM out=true)(hno:aB L out=none)(B7:∀k,aB L (dC k)=none)(_hto:∀k,out≠dC k)(hm:es.length<=m)(hN:es.length<=2400) :
 Calls prog 177 #[ptrTo jb,ptrTo cb,.string out] w (qR n pb db jb bf cb by' w o d L out es):=by
 have U4:n<=4096:=by
  obtain⟨fb,mb,l,hand,mf,hp,rfl,-⟩:=h;exact hp.most
 have rJ:=ae (jA h);obtain⟨M,hM⟩:∃M:Nat,M=(n-4)*12:=⟨_,rfl⟩;obtain⟨N,ZT⟩:∃N,N=es.length:=⟨_,rfl⟩;obtain⟨X,hX⟩:∃X,X=min N M:=⟨_,rfl⟩;obtain⟨many,hmy⟩:∃b,b=decide (M<N):=⟨_,rfl⟩;have HX:Hid (X=min N M/\48<=M/\N<=2400/\(many=true↔M<N)/\N=es.length):=ae ⟨hX,af,af,by rw[hmy,decide_eq_true_eq],ZT⟩;have Im:Hid (∀{made p v nm l c W o' d' rs},nr n pb db jb bf cb sb by' w o d N made p v nm l c W o' d' (dL rs L)->(∀x∈rs.map (·.1),il out x)->∀x,es[p]? = some x->Calls prog 221 #[ptrTo cb] W (AA n pb db W o' d' (dL rs L) cb sb p N x)):=ae (fun hs hrs x hx=>by
  obtain⟨_,hsx⟩:=hs.src;have hi:=aN hx;rw[List.getElem?_eq_getElem hi]at hx;obtain rfl:=Option.some.inj hx;rw[ZT]at hsx ⊢;refine sA HW hs.mv.aY (hst.V8 hs.mv V9 (fun e=>e.elim hsc hsj)) (hs.mv.free hst.lt V9) hsx (hs.mv.free pH.lt Oy) (fl:=fl) ?_ hi;rw[eJ,hL];intro hx;rcases hrs _ hx with e |⟨k,_,e⟩
  ·rw[e,hno]at hL;cases hL
  ·rw[e,B7]at hL;cases hL)
 have Sr:Hid (∀{made p v nm l c W o' d' rs}(out':Name),nr n pb db jb bf cb sb by' w o d N made p v nm l c W o' d' (dL rs L)->bM out'=true->aB (dL rs L) out'=none->c.length<=es.length ->
  Calls prog 222 #[ptrTo jb,.string out',l] W (Ie (fun x=>l.ownBlock=some x) n pb db W o' d' (dL rs L) out' (aC by' c) (need (dL rs L)+4*c.length))):=ae (fun out' hs fe aao hc=>
  E7 HW HS hs.mv.aY hs.EX (hs.mv.free hj.lt.1 km) (hs.mv.free hj.lt.2 CL) fe aao hs.ed (fun x hx=>by have h1:=aI hs.ed x hx;have:=hj.lt;exact⟨hs.ef x hx,af,af⟩) af af)
 have Fc:Hid (nr n pb db jb bf cb sb by' w o d N 0 0 (.slice none 0 0) [] (.slice none 0 0) [] w o d L):=ae ⟨Moved.refl _ h,hj,by rw[ZT];exact⟨_,pH⟩,World.ownsRow_nil w _ _ 1,fun x hx=>(by cases hx),World.ownsRow_nil w _ _ 4,fun x hx=>(by cases hx),⟨hj.lt.1,km⟩,⟨hj.lt.2,CL⟩,pH.lt,Oy⟩;have s7:=ae (show bf≠jb/\cb≠jb/\cb≠bf from⟨hne,hcj,hcb⟩);have G5:Hid (∀rs i,pN by' out es X many rs i->(∀x∈rs.map (·.1),il out x)/\(∀x,¬il out x->aB (dL rs L) x=aB L x)/\need (dL rs L)<=need L+4*i):=ae (fun rs i hr=>by
  have h1:∀x∈rs.map (·.1),il out x:=by rw[hr.nm];exact(yE many out _ hr.one).2 hr.top
  refine⟨h1,fun x hx=>eJ _ _ _ (fun hm=>hx (h1 x hm)),?_⟩;have:=tq rs L;have:=hr.len;omega)
 have Yi:Hid (∀rs i,pN by' out es X many rs i->(many=false->rs.length=0)->rs.length<51->aB (dL rs L) (xg many out rs.length)=none/\bM (xg many out rs.length)=true/\il out (xg many out rs.length)):=ae (fun rs i hr h1 h2=>by
  refine⟨?_,?_⟩
  ·rw[eJ]
   ·cases many
    ·exact hno
    ·exact B7 _
   ·rw[hr.nm];exact K9 many out _ h1
  ·cases many
   ·exact⟨hout,.inl rfl⟩
   ·exact⟨Ij af,.inr ⟨_,af,rfl⟩⟩)
 obtain⟨⟨-,-,hs2⟩,-⟩:=pH.cells;rw[<- ZT]at hs2;obtain⟨UX,-⟩:=hj.cells;have rz:IntKind.i64.wrap ((n:Int)-4)=(n:Int)-4:=aw af af;have hw2:IntKind.i64.wrap (((n:Int)-4)*12)=(M:Int):=by rw[aw]<;>omega
 clear h hj km CL hL pH hst Oy V9 hsj hsc hout hno B7 _hto hm hne hcj hcb hM hX hmy ZT hN;unfold ptrTo at *;go_enter func177,ntmps177;go_wp2_with fail;refine rJ.out.mono ?_;rintro e w'⟨rfl,rfl⟩;go_upto_if 27 with fail
 go_cut [8] from 22 to 31 (fun v wx=>v=.int .i64 (X:Int)/\w=wx)
 case first=>
  by_cases hNM:(N:Int)<=(M:Int)
  ·have hd:decide ((N:Int)<=(M:Int))=true:=decide_eq_true hNM;have hXN:(X:Int)=(N:Int):=by have:=HX.out;omega
   go_wp2;go_meet
   exact⟨by rw[hXN],rfl⟩
  ·have hd:decide ((N:Int)<=(M:Int))=false:=decide_eq_false hNM;have hXN:(X:Int)=(M:Int):=by have:=HX.out;omega
   go_wp2;go_meet
   exact⟨by rw[hXN],rfl⟩
 case rest=>
  obtain⟨rfl,rfl⟩:=hcut;clear rz hw2 hs2 rJ UX;go_wp2_with fail;go_loopw [9] (fun v wr=>Ik n pb db jb bf cb sb by' w o d L out es X many v wr) (fun _ wr=>pK wr cb N)
  case atStart=>exact⟨[],0,o,d,⟨rfl,ai,fun p hp=>(by cases hp),by simp[ep],Nat.zero_le _,fun _=>Nat.zero_le _,fun g=>absurd g (Nat.lt_irrefl 0),Nat.zero_le _⟩,by rw[<- HX.out.2.2.2.2];cases many<;>exact Fc.out⟩
  case round=>
   generalize u9=v at *;generalize wr=W1 at *;obtain⟨rs,i,o1,d1,hr,hs⟩:=hrel;rw[<- HX.out.2.2.2.2]at hs;have HR:=ae hr;have jg:=ae hs;have OL:Hid (pK W1 cb N=N-i/\i<=N):=ae ⟨by obtain⟨_,h⟩:=hs.src;exact pM h,by have:=hr.at';have:=HX.out.2.2.2.2;omega⟩;clear hr hs Fc;generalize hjm:(if many=true then rs.length else 0)=jm at *;have HJM:=ae hjm;clear hjm;go_upto_block 2 with fail
   go_cut [10] from 32 to 53 (fun lv W=>∃(k:Nat)(la:Option Addr)(lc:Nat)(o':au)(d':Dsk),lv=.slice la k lc/\k=min X (N-i)/\Hid (nr n pb db jb bf cb sb by' w o d N jm (i+k) v (rs.map (·.1)) (.slice la k lc) ((es.drop i).take k) W o' d' (dL rs L)))
   case first=>
    go_wp2_with fail;go_loopw [10] (fun lv W=>∃(k:Nat)(la:Option Addr)(lc:Nat)(o':au)(d':Dsk),lv=.slice la k lc/\k<=X/\i+k<=N/\Hid (nr n pb db jb bf cb sb by' w o d N jm (i+k) v (rs.map (·.1)) (.slice la k lc) ((es.drop i).take k) W o' d' (dL rs L))) (fun _ W=>pK W cb N)
    case atStart=>exact⟨0,none,0,o1,d1,rfl,Nat.zero_le _,OL.out.2,jg⟩
    case round=>
     generalize wr=W2 at *;obtain⟨k,la,lc,o2,d2,rfl,hk,hik,eP⟩:=hrel;have eV:Hid (pK W2 cb N=N-(i+k)):=ae (by obtain⟨_,h⟩:=eP.out.src;exact pM h);clear jg;by_cases hlt:k<X
     ·by_cases oC:i+k<N
      ·have Qn:i+k<es.length:=by have:=HX.out;omega
       obtain⟨y,hy⟩:∃y,es[i+k]? = some y:=⟨_,List.getElem?_eq_getElem Qn⟩;have qT:Hid ((es.drop i).take k++[y]=(es.drop i).take (k+1)/\((es.drop i).take k).length=k):=ae ⟨(by
        rw[List.take_add_one,List.getElem?_drop,hy];rfl),by rw[List.length_take,List.length_drop];omega⟩
       have aM:=ae (Im.out eP.out (G5.out _ _ HR.out).1 y hy);clear Qn hy;unfold ptrTo at aM;go_wp2_with fail;refine aM.out.mono ?_;rintro e W3⟨c3,d3,o3,rfl,eE,DB,hs3⟩;have eH:=ae (eP.out.mv.trans eE (fun x _ e=>.inl e));obtain⟨Qk,-,hv3,Oz⟩:=eP.out.step (T:=(·=cb)) eH.out (fun x h1 h2=>eE.free h1 h2) (fun x h1 h2 h3=>eE.block h1 h2 h3);have HJ3:=ae (Qk (fun e=>s7.out.2.1 e.symm) (fun e=>s7.out.2.2 e.symm));have Ge:=ae (hv3 (fun x hx e=>by have:=aI eP.out.row x hx;have:=eP.out.old;omega));have Ss:=ae (Oz (fun x hx e=>by have:=aI eP.out.ed x hx;have:=eP.out.old;omega));have mQ:=ae eP.out.old;have HQU:=ae eP.out.mv.on.bO;have Cw:=ae DB;have JW:=ae hs3;have hz3:w.heap.size<=W3.heap.size:=eH.out.size;clear eE DB hs3 Qk hv3 Oz aM eP;by_cases hc3:c3=0
       ·subst hc3;have BV:=ae (JW.out rfl);obtain⟨-,⟨k0,k1,k2,k3⟩,-⟩:=BV.out.cells;go_wp2_with (at_builtin;refine cQ rfl _ _ rfl w.heap.size _ _ rfl Ss.out.1 y 1 rfl (by rw[qT.out.2];have:=HX.out;omega) hz3 ?_);intro l4 W4 hl4 La;obtain⟨eX,OM,P6,vF⟩:=La.moved eH.out (fun x hx=>⟨Ss.out.2 x hx,aI Ss.out.1 x hx⟩);rw[qT.out.1]at hl4;obtain⟨a4,c4,rfl⟩:=aA hl4;have hlen:((es.drop i).take (k+1)).length=k+1:=by rw[<- qT.out.1,List.length_append,qT.out.2];rfl
        rw[hlen]at hl4 OM ⊢;have h3:nr n pb db jb bf cb sb by' w o d N jm (i+k+1) v (rs.map (·.1)) (.slice la k lc) ((es.drop i).take k) W3 o3 d3 (dL rs L):=⟨eH.out,HJ3.out,⟨_,BV.out⟩,Ge.out.1,Ge.out.2,Ss.out.1,Ss.out.2,mQ.out⟩
        obtain⟨hj5,hs5,U5,-⟩:=h3.step (T:=fun x=>(Value.slice la k lc).ownBlock=some x) eX (fun _ _ e=>e) (fun x h1 _ h3=>P6 x h1 h3);have hb:=fun x hx=>aI Ss.out.1 x hx;have hold:=mQ.out;have b7:Hid (nr n pb db jb bf cb sb by' w o d N jm (i+(k+1)) v (rs.map (·.1)) (.slice a4 (k+1) c4) ((es.drop i).take (k+1)) W4 o3 d3 (dL rs L)):=ae ⟨eX,hj5 (fun e=>by have:=hb _ e;omega) (fun e=>by have:=hb _ e;omega),hs5 (fun e=>by have:=hb _ e;omega),(U5 (fun x hx e=>kx Ge.out.1 Ss.out.1 ag x hx e)).1,Ge.out.2,hl4,fun x hx=>(OM x hx).1,hold⟩;clear eX OM P6 La hl4 k0 k1 k2 k3 h3 hj5 hs5 U5 hb hold hlen;go_wp2;go_roundw
        case rel=>exact⟨k+1,a4,c4,o3,d3,rfl,af,af,b7⟩
        case measure=>obtain⟨_,h⟩:=b7.out.src;rw[eV.out,pM h];omega
       ·have KG:¬(c3:Int)=0:=by omega
        have XU:(c3 == 0)=false:=by simpa using hc3
        have HQ:Hid (qR n pb db jb bf cb by' w o d L out es (.returned (.tuple #[v,.int .i64 (c3:Int)])) W3):=ae (by
         obtain⟨-,g2,g3⟩:=G5.out _ _ HR.out;have:=HR.out.top;have:=HR.out.pos;have hx:=HX.out;exact⟨_,c3,d3,o3,_,rfl,eH.out,g2,.inr (((Cw.out.resolve_left hc3).num af).later HQU.out)⟩)
        clear hc3;go_wp2;go_ret2;exact HQ.out
      ·obtain⟨x2,hx2⟩:=eP.out.src;have hend:=ae (mj hx2 af);unfold ptrTo at hend;clear hx2;go_wp2_with fail;refine hend.out.mono ?_;rintro e W5⟨rfl,q5,rfl⟩;have b7:Hid (nr n pb db jb bf cb sb by' w o d N jm (i+k) v (rs.map (·.1)) (.slice la k lc) ((es.drop i).take k) (W2.drewN q5) o2 d2 (dL rs L)):=ae (by
        have h:=eP.out;obtain⟨_,hx⟩:=h.src;exact⟨h.mv.drewN q5,h.EX.below (below_drewN ak _),⟨_,hx.below (below_drewN ak _)⟩,h.row,h.rf,h.ed,h.ef,h.old⟩)
       clear hend eP;go_wp2;go_meet
       exact⟨k,la,lc,o2,d2,rfl,af,b7⟩
     ·have ap0:¬((k:Int)<(X:Int)):=by omega
      go_wp2;go_meet
      exact⟨k,la,lc,o2,d2,rfl,af,eP⟩
   case rest=>
    obtain⟨k,la,lc,o2,d2,rfl,hk,eP⟩:=hcut;generalize wc=W2 at *;obtain⟨x2,hx2⟩:=eP.out.src;obtain⟨⟨-,-,c2⟩,-⟩:=hx2.cells;have HK:=ae hk;clear hx2 jg Im;by_cases hK0:k=0/\0<N
    ·obtain⟨rfl,QP⟩:=hK0;have ap1:(N:Int)>0:=by omega
     have HQ:Hid (qR n pb db jb bf cb by' w o d L out es (.returned (.tuple #[v,.int .i64 0])) W2):=ae (by
      have hx:=HX.out;have Cb:=OL.out;have hl:=HK.out;obtain⟨g1,g2⟩:=HR.out.fin (M:=M) (by rw[<- hx.2.2.2.2];exact hx.1) hx.2.1 (by rw[<- hx.2.2.2.2];exact hx.2.2.2.1) af af;rw[HJM.out]at g2;have hs:=eP.out;refine⟨v,0,d2,o2,_,rfl,hs.mv,(G5.out _ _ HR.out).2.1,.inl ⟨rfl,rs,jm,rfl,g1,g2,by rw[<- HJM.out];split<;>omega,HR.out.top,hs.EX,bG.DG hs.row (fun e=>?_),fun b hb=>⟨hs.rf b hb,aI hs.row b hb⟩⟩⟩;have e0:rs.length=0:=by simpa using congrArg List.length e
      rcases g2 with⟨x,g⟩|⟨g,_⟩
      ·rw[g]at e0;cases e0
      ·omega)
     clear hk;go_wp2;go_ret2;exact HQ.out
    ·have P8:Hid (rs.length<51/\(many=false->rs.length=0)/\(0<es.length->pN by' out es X many (rs++[(xg many out rs.length,aC by' ((es.drop i).take k))]) (i+k))):=ae (by
      obtain⟨x1,x2,x3,x4,x5⟩:=HX.out;rw[x5]at x1 x3 x4 hk hK0;exact HR.out.next x1 x2 x3 x4 hk af)
     have JZ:0<k\/N=0:=by omega
     have HF:=ae (Yi.out _ _ HR.out P8.out.2.1 P8.out.1);obtain⟨NM,hNM⟩:∃y,y=xg many out rs.length:=⟨_,rfl⟩;rw[<- hNM]at HF P8;have Sv:=ae hNM;clear hNM hk;go_upto_region 12 with fail
     go_cut [63] from 54 to 62 (fun b W=>b=.bool false/\W2=W)
     case first=>
      by_cases Gj:k=0
      ·have hN0:decide (0<N)=false:=decide_eq_false af;have hkb:((k:Int) == 0)=true:=by simp[Gj]
       clear JZ hK0 Gj;go_wp2;go_meet
       exact⟨rfl,rfl⟩
      ·have hkb:((k:Int) == 0)=false:=by simp[Gj]
       clear JZ hK0 Gj;go_wp2;go_meet
       exact⟨rfl,rfl⟩
     case rest=>
     obtain⟨rfl,rfl⟩:=hcut;go_upto_if 71 with fail
     go_cut [13] from 66 to 73 (fun nv W=>nv=.string NM/\Hid (nr n pb db jb bf cb sb by' w o d N (if many=true then rs.length+1 else 0) (i+k) v (rs.map (·.1)) (.slice la k lc) ((es.drop i).take k) W o2 d2 (dL rs L)))
     case first=>
      cases VH:many
      ·have zw:¬(N:Int)>(X:Int):=by have:=HX.out;rw[VH]at this;simp at this;omega
       have k7:Hid (NM=out/\jm=0):=ae (by rw[Sv.out,<- HJM.out,VH];exact⟨rfl,rfl⟩);have Yj:=ae VH;clear VH;go_wp2;go_meet
       exact⟨by rw[k7.out.1],by rw[k7.out.2]at eP;rw[Yj.out];exact eP⟩
      ·have zw:(N:Int)>(X:Int):=by have:=HX.out;rw[VH]at this;simp at this;omega
       have k7:Hid (NM=dC rs.length/\jm=rs.length):=ae (by rw[Sv.out,<- HJM.out,VH];exact⟨rfl,rfl⟩);have Yj:=ae VH;clear VH;have aM:=ae (DI eP.out.EX (by rw[k7.out.2];have:=P8.out.1;omega) s7.out.1);unfold ptrTo at aM;go_wp2_with fail;refine aM.out.mono ?_;rintro e W6⟨rfl,hj6,VB⟩;have gH:Hid (nr n pb db jb bf cb sb by' w o d N (rs.length+1) (i+k) v (rs.map (·.1)) (.slice la k lc) ((es.drop i).take k) W6 o2 d2 (dL rs L)):=ae (by
        have h:=eP.out;have hm:=h.mv.turned (h.mv.free h.old.1.1 h.old.1.2) (.inl (.inr rfl)) VB;obtain⟨-,g2,g3,g4⟩:=h.step (T:=(·=jb)) hm (fun _ _ e=>e) (fun x h1 _ h3=>VB.block x h1 h3);have hold:=h.old;have g5:=g3 (fun x hx e=>by have:=aI h.row x hx;omega);have g6:=g4 (fun x hx e=>by have:=aI h.ed x hx;omega);rw[k7.out.2]at hj6;exact⟨hm,hj6,g2 s7.out.2.1,g5.1,g5.2,g6.1,g6.2,h.old⟩)
       rw[k7.out.2,<- k7.out.1];clear hj6 VB aM;go_wp2;go_meet
       exact⟨rfl,by rw[Yj.out];exact gH⟩
     case rest=>
      obtain⟨rfl,gH⟩:=hcut;generalize wc=W6 at *;clear eP c2;generalize hcc:(es.drop i).take k=C at *;have HCL:Hid (C.length<=es.length/\C.length<=k):=ae ⟨by rw[<- hcc,List.length_take,List.length_drop];omega,by rw[<- hcc,List.length_take];omega⟩;clear hcc;have ZO:(rs.map (·.1)).length<=100000:=by rw[List.length_map];have:=P8.out.1;omega
      have XL:w.heap.size<=W6.heap.size:=gH.out.mv.size;go_wp2_with (at_builtin;refine uN rfl _ _ rfl w.heap.size _ _ rfl gH.out.row NM 1 rfl ZO XL ?_);intro v7 W7 hv7 ha7;have j5:Hid (nr n pb db jb bf cb sb by' w o d N (if many=true then rs.length+1 else 0) (i+k) v7 (rs.map (·.1)++[NM]) (.slice la k lc) C W7 o2 d2 (dL rs L)):=ae (by
       have h:=gH.out;obtain⟨rW,ajJ,hh7,hz7⟩:=ha7.moved h.mv (fun x hx=>⟨h.rf x hx,aI h.row x hx⟩);obtain⟨g1,g2,-,g4⟩:=h.step (T:=fun x=>v.ownBlock=some x) rW (fun _ _ e=>e) (fun x h1 _ h3=>hh7 x h1 h3);have hb:=fun x hx=>aI h.row x hx;have hold:=h.old;have g5:=g4 (fun x hx e=>kx h.ed h.row ag x hx e);exact⟨rW,g1 (fun e=>by have:=hb _ e;omega) (fun e=>by have:=hb _ e;omega),g2 (fun e=>by have:=hb _ e;omega),by simpa using hv7,fun x hx=>(ajJ x hx).1,g5.1,g5.2,hold⟩)
      have aM:=ae (Sr.out NM j5.out HF.out.2.1 HF.out.1 HCL.out.1);clear hv7 ha7 ZO XL gH Sr;unfold ptrTo at aM;go_wp2_with fail;refine aM.out.mono ?_;rintro e W8⟨c8,d8,o8,L8,rfl,Nc,hc8,aeu⟩;have sf:=ae (j5.out.mv.trans Nc (fun x hx e=>by have:=aI j5.out.ed x e;omega));obtain⟨g1,g2,g3,-⟩:=j5.out.step (T:=fun x=>(Value.slice la k lc).ownBlock=some x) sf.out (fun x h1 h2=>Nc.free h1 h2) (fun x h1 h2 h3=>Nc.block h1 h2 h3);have hb:=fun x hx=>aI j5.out.ed x hx;have hold:=j5.out.old;have HJ8:=ae (g1 (fun e=>by have:=hb _ e;omega) (fun e=>by have:=hb _ e;omega));have HC8:=ae (g2 (fun e=>by have:=hb _ e;omega));have Yk:=ae (g3 (fun x hx e=>kx j5.out.row j5.out.ed ag x hx e));have HO8:=ae hold;have HE8:=ae hc8;have HT8:=ae aeu;clear Nc hc8 aeu aM g1 g2 g3 hb hold;by_cases hc:c8=0
      ·subst hc;obtain⟨x8,hx8⟩:=HC8.out;obtain⟨⟨-,-,c2⟩,-⟩:=hx8.cells;clear hx8;have hL8:L8=dL (rs++[(NM,aC by' C)]) L:=by
        rcases HE8.out with⟨_,e⟩| e
        ·rw[AV];exact e
        ·exact absurd rfl e.ne
       rw[hL8]at sf;clear hL8;have lQ:(if many=true then rs.length+1 else 0)=if many=true then (rs++[(NM,aC by' C)]).length else 0:=by rw[List.length_append];rfl
       rw[lQ]at HJ8;clear lQ;have Cb:rs.map (·.1)++[NM]=(rs++[(NM,aC by' C)]).map (·.1):=by rw[List.map_append];rfl
       rw[Cb]at Yk;clear Cb;by_cases hN0:N=0
       ·have ap2:(N:Int)=0:=by omega
        have HQ:Hid (qR n pb db jb bf cb by' w o d L out es (.returned (.tuple #[v7,.int .i64 0])) W8):=ae (by
         have hx:=HX.out;have Zi:many=false:=by cases h:many;rfl;rw[h]at hx;simp at hx;omega
         have jO:rs=[]:=List.eq_nil_of_length_eq_zero (P8.out.2.1 Zi);have hC:C=[]:=List.eq_nil_of_length_eq_zero (by have:=HCL.out;omega);have hes:es=[]:=List.eq_nil_of_length_eq_zero af;have vJ:NM=out:=by rw[Sv.out,Zi];rfl
         subst jO hC hes vJ Zi;have hb0:aC by' []=[]:=List.eq_nil_of_length_eq_zero (by simpa using b8 by' [])
         refine⟨v7,0,d8,o8,_,rfl,sf.out,fun x hx=>eJ _ _ _ (fun mI=>hx ?_),.inl ⟨rfl,_,0,rfl,⟨by simp[hb0],by simp[ep,hb0],by simp[lens,hb0],ai⟩,.inl ⟨_,rfl⟩,Nat.zero_le _,ai,HJ8.out,bG.DG Yk.out.1 ai,fun b hb=>⟨Yk.out.2 b hb,aI Yk.out.1 b hb⟩⟩⟩;rw[List.mem_singleton.1 mI];exact HF.out.2.2)
        clear hN0;go_wp2;go_ret2;exact HQ.out
       ·have ap3:¬(N:Int)=0:=by omega
        have P0:0<k:=by omega
        have HH:Hid (Ik n pb db jb bf cb sb by' w o d L out es X many v7 W8/\pK W8 cb N=N-(i+k)):=ae ⟨⟨_,i+k,o8,d8,P8.out.2.2 (by have:=HX.out;omega),by rw[<- HX.out.2.2.2.2];exact⟨sf.out,HJ8.out,HC8.out,Yk.out.1,Yk.out.2,World.ownsRow_nil _ _ _ 4,fun x hx=>(by cases hx),HO8.out⟩⟩,by obtain⟨_,h⟩:=HC8.out;exact pM h⟩;have HKL:=ae (show i+k<=N/\0<k by have:=HK.out;have:=OL.out;omega);go_wp2;go_roundw
        case rel=>exact HH.out.1
        case measure=>rw[OL.out.1,HH.out.2];have:=HKL.out;omega
      ·have hc':¬(c8:Int)=0:=by omega
       have HQ:Hid (qR n pb db jb bf cb by' w o d L out es (.returned (.tuple #[v7,.int .i64 (c8:Int)])) W8):=ae (by
        obtain⟨-,g2,g3⟩:=G5.out _ _ HR.out;have h1:=HCL.out;have h2:=HR.out.pos;have h3:=HR.out.len;have h4:=HK.out;have h5:=OL.out;have h6:=tq rs L;have h7:=HX.out;refine⟨_,c8,d8,o8,_,rfl,sf.out,fun x hx=>by rw[HT8.out x (fun e=>hx (e▸HF.out.2.2)),g2 x hx],.inr ?_⟩;rcases HE8.out with⟨e,_⟩| e
        ·exact absurd e hc
        ·exact(e.mono af).later j5.out.mv.on.bO)
       clear hc;go_wp2;go_ret2;exact HQ.out
end
end
section
open Go.RowKit Go.Maps Go.MapKept
section
variable {w w':World} {pb db n cb kb sb jb bf made:Nat} {by':Bool} {name:Name} {o o':au} {d d':Dsk} {L L':aH}
def oQ(S:Nat->Prop)(n pb db:Nat)(w:World)(o:au)(d:Dsk)(L:aH)(out:Name)(aaq:List aD)(N:Nat)(e:Ending)(w':World):Prop:=
 ∃c d' o' L',e=.returned (.int .i64 ((c:Nat):Int))/\Moved S n pb db w o d w' o' d' L'/\(∀x,¬il out x->aB L' x=aB L x)/\((c=0/\∀x,aB L' x=aB (aS L out (ax aaq true)) x)\/jL d d' (need L+8*N) c)
def dZ(m:Nat):Prop:=∀{w:World}{pb db n cb sb jb bf:Nat}{by':Bool}{o:au}{d:Dsk}{L:aH},aR w pb db n o d L->8<=n->cU w jb pb bf 0 by'->o jb=none->o bf=none->bf≠jb ->
 ∀{es:List aD}{fl:Bool}{rV out:Name}{x0:aD},aB L rV=some (ax es fl)->bD w cb sb 0 es.length x0->aF w sb pb rV 20->o cb=none->o sb=none->cb≠jb->cb≠bf->sb≠jb->sb≠cb ->
 bM out=true->aB L out=none->(∀k,aB L (dC k)=none)->(∀k,out≠dC k)->es.length<=m ->
 Calls prog 117 #[ptrTo jb,ptrTo cb,.string out] w (oQ (fun x=>x=cb\/x=jb) n pb db w o d L out (aC by' es) es.length)
theorem pO(HW:aP)(h:aR w pb db n o d L){ps:List Pg}{fl:Bool}(hL:aB L name=some (.inl (ps,fl))) :
 Calls prog 79 #[ptrTo pb,.string name] w (jv (fun _=>False) n pb db w o d L (aS L name (.inl (ps,true)))):=
 (Oq HW h hL).mono fun _ _ ⟨c,d',o',he,hp,ht,hg,zu,hc⟩=>⟨c,d',o',he,ju hp ht hg zu,hc⟩
end
end
section
open Go.RowKit Go.Maps Go.MapKept Go.Sort
def OO:Option Nat->Value
 |none=>.pointer none
 |some b=>ptrTo b
def im(w:World)(g:Nat)(pP:List Nat):Prop:=Holds OO w g 0 (pP.map some).toArray
theorem uO:(prog.info? 206).map (fun i=>(i.zero,i.size,i.bytes))=some (some (.pointer none),1,8):=by kernel_rfl
section
variable {w w':World} {g cap:Nat} {pP:List Nat}
theorem uP{α:Type}[Inhabited α](enc:α->Value)(w:World)(blk off:Nat)(d:Array α){x:Nat}(hx:x≠blk):(putRow enc w blk off d).heap[x]? = w.heap[x]? := by
 grind [putRow,mapBlock]
theorem Io{α:Type}[Inhabited α](enc:α->Value)(w:World)(q blk off:Nat)(d:Array α):aG (·=blk) w (putRow enc (Sort.ahead w q) blk off d):=
 ⟨rfl,rfl,rfl,ai,fun x _ hn=>uP enc (Sort.ahead w q) blk off d hn⟩
theorem im.cell(h:im w g pP){k:Nat}(hk:k<pP.length):w.cell? ⟨g,k,none⟩=some (ptrTo pP[k]):=by
 have:=(h k (by grind)).1;grind [OO]
theorem im.kept(h:im w g pP)(hb:w'.heap[g]? = w.heap[g]?):im w' g pP:=by
 intro j hj;obtain⟨h1,h2⟩:=h j hj;grind [World.cell?,World.frozen?]
theorem im.DG{base:Nat}(hr:w.ownsRow base 206 1 (.slice (some ⟨g,0,none⟩) pP.length cap) pP.length (pP.map ptrTo)):im w g pP/\pP.length<=cap/\cap<=maxLen/\base<=g:=by
 obtain⟨hl,⟨h1,h2⟩|⟨g',cap',cur,he,hg,hh,hc,hm,hs,ht⟩⟩:=hr
 ·cases h1
 ·cases he;refine⟨fun j hj=>?_,hc,hm,hg⟩;have hj':j<pP.length:=by grind
  rw[Nat.zero_add];refine⟨?_,aO hh _⟩;rw[ar hh,getElem!_pos _ j hj];have h3:(cur.toList.take (pP.length*1))[j]? = (pP.map ptrTo)[j]? := by rw[ht]
  grind [OO]
theorem Lb(h:im w g pP)(hc:pP.length<=cap)(hm:cap<=maxLen){k:Nat}(hk:k<pP.length) :
 Calls prog 226 #[.slice (some ⟨g,0,none⟩) pP.length cap,.int .i64 (k:Int),.int .i64 ((k+1:Nat):Int)] w fun e w'=>
  e=.returned (.slice (some ⟨g,0,none⟩) (pP.length-1) cap)/\im w' g (pP.eraseIdx k)/\aG (·=g) w w':=by
 obtain⟨i0,tK,hz0,hz1,hz2⟩:=info_parts uO;have hsz:((pP.map some).toArray).size=pP.length:=by simp
 have:=AnyE.slices_Delete (P:=prog) (ρ:=Tryz.AH) { Tryz.Z8 with } OO (by intro x;cases x<;>rfl) none (fun w=>Tryz.zeroValue206 w) i0 tK hz1 g 0 cap k (k+1) (pP.map some).toArray w h af (by assumption) af af;rw[hsz]at this;refine Calls.mono this ?_;rintro e w'⟨he,q,rfl⟩;refine⟨by grind,?_,Io _ _ _ _ _ _⟩;have hd:((pP.map some).toArray.toList.take k++(pP.map some).toArray.toList.drop (k+1)++List.replicate (k+1-k) none)=(pP.eraseIdx k).map some++[none]:=by
  rw[show k+1-k=1 by omega,List.eraseIdx_eq_take_drop_succ];simp
 rw[hd];have hh:=holds_putRow OO (Sort.ahead w q) g 0 (pP.map some).toArray ((pP.eraseIdx k).map some++[none]).toArray (holds_ahead OO w q g 0 _ h) (by grind);intro j hj;have hj':j<(pP.eraseIdx k).length:=by grind
 obtain⟨h1,h2⟩:=hh j (by grind);grind
theorem uQ{ops:Array Oper}{rest:List Oper}{op:Oper}{a:Act}{Q:Exit->Act->World->Prop}(hgd:op.guard=none)(s x:Operand)(ho:op.op=.call { callee:=.builtin .append,args:=#[s,x],argTypes:=#[301,301] })(base:Nat)(v:Value)(l:List Nat)(hs:a.eval s=v)(hown:w.ownsRow base 206 1 v l.length (l.map ptrTo))(y:Nat)(c:Nat)(hx:a.eval x=.slice (some ⟨w.heap.size,0,none⟩) 1 c)(hl:l.length<=100000)(hbase:base<=w.heap.size)(k:∀v' w',w'.ownsRow base 206 1 v' (l++[y]).length ((l++[y]).map ptrTo)->mr v (w.alloc (.cells #[ptrTo y] 206)) w' v'->wpList prog ops Q rest (a.put op.dst v') w') :
 wpList prog ops Q (op::rest) a (w.alloc (.cells #[ptrTo y] 206)):=by
 refine dO hgd s x 301 ho base 206 _ 1 8 Tryz.underlying301 uO rfl ag v l.length (l.map ptrTo) hs (World.ownsRow.alloc hown _) ⟨w.heap.size,0,none⟩ 1 c [ptrTo y] hx rfl (fun j u hj=>?_) (by simp[ptrTo,Value.oneCell']) (by grind [maxLen]) af (by simp;omega) (fun v' w' h1 h2=>k v' w' ?_ h2)
 ·rw[bI,Nat.zero_add];simp_all
 grind
end
end
section
open Go.RowKit Go.Maps Go.MapKept
structure Src where
 cb:Nat
 sb:Nat
 name:Name
 es:List aD
 pos:Nat
def Src.cur(s:Src):aD:=(s.es[s.pos-1]?).getD AJ
def Src.left(s:Src):List aD:=s.es.drop (s.pos-1)
def Src.step(s:Src):Src:={ s with pos:=s.pos+1 }
structure Src.Ok(s:Src):Prop where
 lo:1<=s.pos
 hi:s.pos<=s.es.length
theorem Src.left_eq{s:Src}(h:s.Ok):s.left=s.cur::s.es.drop s.pos:=by
 grind [Ok.lo,Ok.hi,Src.left,Src.cur,List.drop_eq_getElem_cons]
theorem Src.OP{s:Src}:s.step.left=s.es.drop s.pos:=by
 rfl
def cC(l:List Src):List aD:=(l.map Src.left).flatten
theorem Ip:cC []=[]:=rfl
theorem my(a b:List Src):cC (a++b)=cC a++cC b:=by grind [cC]
structure Taken(b:Bool)(all taken:List aD)(l:List Src):Prop where
 perm:(taken++cC l).Perm all
 gU:taken.Pairwise (dB b)
 ahead:∀x∈taken,∀y∈cC l,dB b x y
 each:∀s∈l,s.left.Pairwise (dB b)
 ok:∀s∈l,s.Ok
theorem Iq{l:List Src}{x:aD}:x∈cC l ↔ ∃s∈l,x∈s.left:=by
 grind [cC]
theorem Taken.least{b:Bool}{all taken:List aD}{l:List Src}(h:Taken b all taken l){k:Nat}(hk:k<l.length)(uR:∀s∈l,dB b l[k].cur s.cur):∀y∈cC l,dB b l[k].cur y:=by
 intro y hy;obtain⟨s,hs,Qb⟩:=Iq.1 hy;have h1:=h.each s hs;rw[Src.left_eq (h.ok s hs)]at h1 Qb;rcases List.mem_cons.1 Qb with rfl | Qb
 ·grind
 ·exact(uR s hs).trans ((List.pairwise_cons.1 h1).1 y Qb)
theorem OQ{α:Type}(l:List α)(k:Nat)(hk:k<l.length)(x:α):l.set k x=l.take k++x::l.drop (k+1):=by
 grind [List.set_eq_take_append_cons_drop]
theorem Taken.go{b:Bool}{all taken:List aD}{l l':List Src}(h:Taken b all taken l){k:Nat}(hk:k<l.length)(uR:∀s∈l,dB b l[k].cur s.cur)(hl:cC l'=cC (l.take k)++(l[k].es.drop l[k].pos++cC (l.drop (k+1))))(Di:∀s∈l',s.left.Pairwise (dB b))(fe:∀s∈l',s.Ok):Taken b all (taken++[l[k].cur]) l':=by
 have hkm:l[k]∈l:=List.getElem_mem hk;have hle:=h.least hk uR;have hsp:cC l=cC (l.take k)++(l[k].cur::(l[k].es.drop l[k].pos)++cC (l.drop (k+1))):=by
  grind [ug,cC,Src.left_eq,ok]
 have hp:(l[k].cur::cC l').Perm (cC l):=by
  rw[hl,hsp];exact List.perm_middle.symm
 refine⟨?_,?_,?_,Di,fe⟩
 ·rw[List.append_assoc];refine List.Perm.trans (List.Perm.append_left taken ?_) h.perm;exact hp
 ·grind [gU,ahead]
 grind [ahead]
theorem Taken.step{b:Bool}{all taken:List aD}{l:List Src}(h:Taken b all taken l){k:Nat}(hk:k<l.length)(uR:∀s∈l,dB b l[k].cur s.cur)(AW:l[k].pos<l[k].es.length) :
 Taken b all (taken++[l[k].cur]) (l.set k l[k].step):=by
 have hkm:l[k]∈l:=List.getElem_mem hk;have Gp:∀s∈l.set k l[k].step,s∈l\/s=l[k].step:=fun s hs=>List.mem_or_eq_of_mem_set hs;refine h.go hk uR ?_ ?_ ?_
 ·rw[OQ l k hk,my];congr 1
 ·intro s hs;rcases Gp s hs with hs | rfl
  ·grind [each]
  ·rw[Src.OP];have:=h.each _ hkm;grind [Src.left_eq,ok]
 ·intro s hs;rcases Gp s hs with hs | rfl
  ·exact h.ok s hs
  ·exact⟨Nat.le_add_left _ _,AW⟩
theorem Taken.gone{b:Bool}{all taken:List aD}{l:List Src}(h:Taken b all taken l){k:Nat}(hk:k<l.length)(uR:∀s∈l,dB b l[k].cur s.cur)(hend:l[k].es.length<=l[k].pos) :
 Taken b all (taken++[l[k].cur]) (l.eraseIdx k):=by
 grind [go,each,ok,my,List.drop_eq_nil_of_le]
theorem Taken.done{b:Bool}{all taken:List aD}(h:Taken b all taken []):fL taken=aC b all:=by
 have hp:=h.perm;rw[Ip,List.append_nil]at hp;exact((wF h.gU).congr (fun x=>hp.mem_iff)).eq
theorem Lc{b:Bool}{l:List aD}(h:aC b l=l):l.Pairwise (dB b):=by
 have:=(bL b l).gU;rw[h]at this;exact this.imp (fun h=>.inl h)
end
section
open Go.RowKit Go.Maps Go.MapKept
section
variable {S:Nat->Prop} {w w':World} {pb db n base cb sb kb y7 g:Nat} {name out:Name} {o o':au} {d d':Dsk} {L L':aH} {s:Src} {l:List Src}
theorem gq{i N sz sb':Nat}{x:aD}(h:bD w cb sb' i N x)(hs:aF w sb pb name sz):sb≠cb:=by
 rintro rfl;obtain⟨t,h1⟩:=h;obtain⟨t',h2⟩:=hs;grind
theorem y8{i N sb':Nat}{x:aD}{res:List aD}(h:bD w cb sb' i N x)(hs:fc w kb y7 res):kb≠cb:=by
 rintro rfl;obtain⟨y,a,t',h2⟩:∃y a,dG w kb y7 y a:=by
  rcases hs with⟨_,y,h⟩|⟨y,_,h⟩
  ·grind
  grind
 obtain⟨t,h1⟩:=h;grind
theorem y9{sz:Nat}{res:List aD}(h:aF w sb pb name sz)(hs:fc w kb y7 res):kb≠sb:=by
 rintro rfl;obtain⟨y,a,t',h2⟩:∃y a,dG w kb y7 y a:=by
  rcases hs with⟨_,y,h⟩|⟨y,_,h⟩
  ·grind
  grind
 obtain⟨t,h1⟩:=h;grind
structure uS(w:World)(pb:Nat)(o:au)(L:aH)(base:Nat)(out:Name)(s:Src):Prop where
 src:bD w s.cb s.sb s.pos s.es.length s.cur
 str:aF w s.sb pb s.name 20
 oc:o s.cb=none
 os:o s.sb=none
 bc:base<=s.cb
 bs:base<=s.sb
 file:∃fl,aB L s.name=some (ax s.es fl)
 OS:s.name≠out
theorem uS.moved(h:uS w pb o L base out s)(hm:Moved S n pb db w o d w' o' d' L')(h1:¬S s.cb)(h2:¬S s.sb)(hL:∀x,x≠out->aB L' x=aB L x):uS w' pb o' L' base out s where
 src:=h.src.kept (hm.block h.src.lt h.oc h1)
 str:=h.str.kept (hm.block h.str.lt h.os h2)
 oc:=hm.free h.src.lt h.oc
 os:=hm.free h.str.lt h.os
 bc:=h.bc
 bs:=h.bs
 file:=by grind [OS,file]
 OS:=h.OS
theorem uS.kept(h:uS w pb o L base out s)(h1:w'.heap[s.cb]? = w.heap[s.cb]?)(h2:w'.heap[s.sb]? = w.heap[s.sb]?):uS w' pb o L base out s where
 src:=h.src.kept h1
 str:=h.str.kept h2
 oc:=h.oc
 os:=h.os
 bc:=h.bc
 bs:=h.bs
 file:=h.file
 OS:=h.OS
structure dc(w:World)(pb:Nat)(o:au)(L:aH)(base:Nat)(out:Name)(v:Value)(l:List Src):Prop where
 each:∀s∈l,uS w pb o L base out s
 apart:(l.map Src.cb).Nodup
 row:∀x,v.ownBlock=some x->o x=none/\base<=x/\∀s∈l,x≠s.cb/\x≠s.sb
theorem dc.nil:dc w pb o L base out (.slice none 0 0) []:=⟨(fun _ h=>nomatch h),List.Pairwise.nil,fun x hx=>by cases hx⟩
theorem dc.moved{v:Value}(h:dc w pb o L base out v l)(hm:Moved S n pb db w o d w' o' d' L')(hv:∀x,v.ownBlock=some x->x<w.heap.size)(h1:∀s∈l,¬S s.cb/\¬S s.sb)(hL:∀x,x≠out->aB L' x=aB L x):dc w' pb o' L' base out v l where
 each:=fun s hs=>(h.each s hs).moved hm (h1 s hs).1 (h1 s hs).2 hL
 apart:=h.apart
 row:=fun x hx=>⟨hm.free (hv x hx) (h.row x hx).1,(h.row x hx).2⟩
theorem dc.below{v:Value}(h:dc w pb o L base out v l)(hb:Below w.heap.size w w'):dc w' pb o L base out v l where
 each:=fun s hs=>(h.each s hs).kept (hb.block _ (h.each s hs).src.lt) (hb.block _ (h.each s hs).str.lt)
 apart:=h.apart
 row:=h.row
theorem dc.idx{v:Value}(h:dc w pb o L base out v l){i j:Nat}(hi:i<l.length)(hj:j<l.length)(hne:i≠j):l[i].cb≠l[j].cb:=by
 intro e;have h1:=h.apart;grind [List.pairwise_iff_getElem]
theorem sD{v:Value}(h:dc w pb o L base out v l){k:Nat}(hk:k<l.length){t:Src}:∀s∈l.set k t,s=t\/(s∈l/\s.cb≠l[k].cb):=by
 grind [List.getElem_of_mem,dc.idx]
theorem dc.step{v:Value}(h:dc w pb o L base out v l){k:Nat}(hk:k<l.length)(hm:Moved (·=l[k].cb) n pb db w o d w' o' d' L)(hv:∀x,v.ownBlock=some x->x<w.heap.size)(hs:bD w' l[k].cb l[k].sb (l[k].pos+1) l[k].es.length l[k].step.cur):dc w' pb o' L base out v (l.set k l[k].step):=by
 have hkm:l[k]∈l:=List.getElem_mem hk;have Nd:=h.each _ hkm;have hcb:(l.set k l[k].step).map Src.cb=l.map Src.cb:=by
  apply List.ext_getElem
  ·simp
  ·intro i h1 h2;rw[List.getElem_map,List.getElem_map,List.getElem_set];split
   ·rename_i e;subst e;rfl
   ·rfl
 refine⟨fun s hs'=>?_,by grind [apart],fun x hx=>⟨hm.free (hv x hx) (h.row x hx).1,(h.row x hx).2.1,fun s hs'=>?_⟩⟩
 ·rcases sD h hk s hs' with rfl |⟨h1,h2⟩
  ·exact⟨hs,Nd.str.kept (hm.block Nd.str.lt Nd.os (gq Nd.src Nd.str)),hm.free Nd.src.lt Nd.oc,hm.free Nd.str.lt Nd.os,Nd.bc,Nd.bs,Nd.file,Nd.OS⟩
  ·exact(h.each s h1).moved hm h2 (gq Nd.src (h.each s h1).str) (fun _ _=>rfl)
 ·rcases sD h hk s hs' with rfl |⟨h1,h2⟩
  ·exact(h.row x hx).2.2 l[k] hkm
  ·exact(h.row x hx).2.2 _ h1
theorem dc.gone{v v':Value}(h:dc w pb o L base out v l)(k:Nat)(ht:aG (fun x=>v.ownBlock=some x) w w')(hv:v'.ownBlock=v.ownBlock):dc w' pb o L base out v' (l.eraseIdx k):=by
 refine⟨fun s hs=>?_,?_,fun x hx=>?_⟩
 ·have hs:=List.mem_of_mem_eraseIdx hs;have hI:=h.each s hs;exact hI.kept (ht.block _ hI.src.lt (fun e=>((h.row _ e).2.2 s hs).1 rfl)) (ht.block _ hI.str.lt (fun e=>((h.row _ e).2.2 s hs).2 rfl))
 ·grind [List.eraseIdx_sublist,apart]
 ·rw[hv]at hx;exact⟨(h.row x hx).1,(h.row x hx).2.1,fun s hs=>(h.row x hx).2.2 s (List.mem_of_mem_eraseIdx hs)⟩
theorem dc.append{v v':Value}{ob:Obj}(h:dc w pb o L base out v l)(ha:mr v (w.alloc ob) w' v')(hI:uS w pb o L base out s)(hcb:∀t∈l,t.cb≠s.cb)(hv:∀x,v.ownBlock=some x->x<w.heap.size/\x≠s.cb/\x≠s.sb)(dQ:∀x,w.heap.size<=x->o x=none)(hbase:base<=w.heap.size):dc w' pb o L base out v' (l++[s]):=by
 obtain⟨hg,hb⟩:=ha;have hs:(w.alloc ob).heap.size=w.heap.size+1:=by simp
 have hk:∀x,x<w.heap.size->v.ownBlock≠some x->w'.heap[x]? = w.heap[x]? := fun x hx hne=>
  (hg.block x af (fun e=>hne e.symm)).trans ((MapKept.heap_alloc w ob).2 x hx)
 have hall:∀t∈l++[s],uS w pb o L base out t/\∀x,v.ownBlock=some x->x≠t.cb/\x≠t.sb:=fun t ht=>by
  rcases List.mem_append.1 ht with ht | ht
  ·exact⟨h.each t ht,fun x hx=>(h.row x hx).2.2 t ht⟩
  grind
 refine⟨fun t ht=>?_,?_,fun x hx=>?_⟩
 ·obtain⟨h1,h2⟩:=hall t ht;exact h1.kept (hk _ h1.src.lt (fun e=>(h2 _ e).1 rfl)) (hk _ h1.str.lt (fun e=>(h2 _ e).2 rfl))
 ·grind [apart]
 ·rcases hb with e | e
  ·rw[e]at hx;refine⟨(h.row x hx).1,(h.row x hx).2.1,fun t ht=>(hall t ht).2 x hx⟩
  ·rw[e]at hx;cases hx;refine⟨dQ _ af,af,fun t ht=>?_⟩;have h1:=(hall t ht).1.src.lt;have h2:=(hall t ht).1.str.lt;omega
def Fe(w:World)(v:Value)(pP:List Nat):Prop:=(v=.slice none 0 0/\pP=[])\/∃g cap,v=.slice (some ⟨g,0,none⟩) pP.length cap/\pP.length<=cap/\cap<=maxLen/\im w g pP/\g<w.heap.size
theorem Fe.DG{v:Value}{pP:List Nat}(hr:w.ownsRow base 206 1 v pP.length (pP.map ptrTo)):Fe w v pP:=by
 have MH:=hr;obtain⟨hl,⟨h1,h2⟩|⟨g,cap,cur,rfl,hg,hh,hc,hm,hs,ht⟩⟩:=MH
 ·exact .inl ⟨h1,List.eq_nil_of_length_eq_zero h2⟩
 ·obtain⟨h1,h2,h3,h4⟩:=im.DG hr;exact .inr ⟨g,cap,rfl,h2,h3,h1,(Array.getElem?_eq_some_iff.1 hh).1⟩
theorem Fe.ofNil{base:Nat}:w.ownsRow base 206 1 (.slice none 0 0) 0 ([]:List Value):=⟨rfl,.inl ⟨rfl,rfl⟩⟩
end
end
section
open Go.RowKit Go.Maps Go.MapKept
section
variable {S:Nat->Prop} {w w' w1 w2 w3 w4:World} {pb db n base cb sb kb y7 jb bf made g:Nat} {by':Bool} {name out nm:Name} {o o' o1 o2 o3:au} {d d' d1 d2 d3:Dsk} {L L':aH} {l:List Src} {v v':Value}
theorem dc.opened(hl:dc w1 pb o1 L base out v l)(hv:∀x,v.ownBlock=some x->x<w1.heap.size)(cT:Moved (fun _=>False) n pb db w1 o1 d1 w2 o2 d2 L)(eE:Moved (·=cb) n pb db w2 o2 d2 w3 o3 d3 L)(hbase:base<=w1.heap.size)(hcb:w1.heap.size<=cb)(CB:w1.heap.size<=sb){N:Nat}{x0:aD}(hs2:bD w2 cb sb 0 N x0)(hst:aF w2 sb pb nm 20)(Oy:o2 cb=none)(V9:o2 sb=none){es:List aD}{x:aD}{fl:Bool}(hs3:bD w3 cb sb 1 es.length x)(hx:es[0]? = some x)(hf:aB L nm=some (ax es fl))(hno:nm≠out){ob:Obj}(ha:mr v (w3.alloc ob) w4 v') :
 dc w4 pb o3 L base out v' (l++[⟨cb,sb,nm,es,1⟩]):=by
 have hne:=gq hs2 hst;have hz2:w1.heap.size<=w2.heap.size:=cT.size;have hz3:w2.heap.size<=w3.heap.size:=eE.size;have h2:=hl.moved cT hv (fun _ _=>⟨fun h=>h,fun h=>h⟩) (fun _ _=>rfl);have h3:=h2.moved eE (fun y hy=>Nat.lt_of_lt_of_le (hv y hy) hz2) (fun s hs=>⟨fun e=>by have:=(hl.each s hs).src.lt;omega,fun e=>by have:=(hl.each s hs).str.lt;omega⟩) (fun _ _=>rfl);refine h3.append ha ⟨?_,hst.moved eE V9 hne,eE.free hs2.lt Oy,eE.free hst.lt V9,Nat.le_trans hbase hcb,Nat.le_trans hbase CB,⟨fl,hf⟩,hno⟩ (fun t ht e=>?_) (fun y hy=>⟨Nat.lt_of_lt_of_le (hv y hy) af,?_,?_⟩) (fun y hy=>eE.aY.fresh hy) af
 ·grind [Src.cur]
 ·have:=(hl.each t ht).src.lt;grind
 ·grind
 grind
theorem Ir(s:Src):cC [s]=s.left:=by grind [cC]
theorem Ld{rs:List tO}{k:Nat}{p:tO}(h:rs[k]? = some p):ep (rs.take (k+1))=ep (rs.take k)++p.2:=by
 grind [List.take_succ_eq_append_getElem,ep]
def Sw(n pb db:Nat)(by':Bool)(w:World)(o:au)(d:Dsk)(L:aH)(out:Name)(rs:List tO)(k:Nat)(v:Value)(wr:World):Prop:=
 ∃(d':Dsk)(o':au)(l:List Src),Moved (fun _=>False) n pb db w o d wr o' d' L/\dc wr pb o' L w.heap.size out v l/\wr.ownsRow w.heap.size 206 1 v (l.map Src.cb).length ((l.map Src.cb).map ptrTo)/\cC l=ep (rs.take k) /\
  (∀s∈l,s.left.Pairwise (dB by'))/\(∀s∈l,s.Ok)/\(l.map Src.cb).length<=k
def OT(n pb db kb y7:Nat)(by':Bool)(w:World)(o:au)(d:Dsk)(L:aH)(out:Name)(all:List aD)(left:Nat)(v:Value)(wr:World):Prop:=
 ∃(d':Dsk)(o':au)(l:List Src)(taken:List aD),Moved (fun _=>False) n pb db w o d wr o' d' (aS L out (ax (fL taken) false))/\dc wr pb o' (aS L out (ax (fL taken) false)) w.heap.size out v l/\Fe wr v (l.map Src.cb)/\Taken by' all taken l /\
  fc wr kb y7 (fL taken)/\aF wr y7 pb out 20/\o' kb=none/\o' y7=none/\(∀x,v.ownBlock=some x->x≠kb/\x≠y7)/\left=(cC l).length
def DL(n pb db:Nat)(w:World)(o:au)(d:Dsk)(L:aH)(out:Name)(ns:List Name)(aaq:List aD)(N:Nat)(e:Ending)(w':World):Prop:=
 ∃c d' o' L',e=.returned (.int .i64 ((c:Nat):Int))/\Moved (fun _=>False) n pb db w o d w' o' d' L'/\(∀x,x≠out->x ∉ ns->aB L' x=aB L x)/\((c=0/\L'=ns.foldl bX (aS L out (ax aaq false)))\/jL d d' (need L+4*N) c)
theorem dc.cells(h:dc w pb o L base out v l)(hr:im w g (l.map Src.cb)){k:Nat}{s:Src}(hk:l[k]? = some s) :
 w.cell? ⟨g,k,none⟩=some (ptrTo s.cb)/\w.cell? ⟨s.cb,3,none⟩=some (.int .u32 (s.cur.t.toNat:Int))/\w.cell? ⟨s.cb,4,none⟩=some (.int .u32 (s.cur.h.toNat:Int))/\w.cell? ⟨s.cb,5,none⟩=some (.int .u64 (s.cur.x.toNat:Int))/\w.cell? ⟨s.cb,6,none⟩=some (.int .u32 (s.cur.m.toNat:Int)):=by
 have hl:=aN hk;rw[List.getElem?_eq_getElem hl]at hk;have h1:=hr.cell (k:=k) (by grind);rw[List.getElem_map]at h1;obtain⟨-,⟨h3,h4,h5,h6⟩,-⟩:=(h.each _ (List.getElem_mem hl)).src.cells;grind
theorem Iu{es:List aD}(hno:aB L out=none):need (aS L out (ax es false))<=need L+4*es.length:=by
 grind [qd,cR]
theorem Taken.len{b:Bool}{all taken:List aD}(h:Taken b all taken l):taken.length+(cC l).length=all.length:=by
 rw[<- List.length_append];exact h.perm.length_eq
end
end
section
open Go.RowKit Go.Maps Go.MapKept
section
variable {w w':World} {pb db n jb bf made:Nat} {by':Bool} {o o':au} {d d':Dsk} {L L':aH}
theorem Ff(HW:aP)(h:aR w pb db n o d L)(hj:cU w jb pb bf made by')(km:o jb=none)(CL:o bf=none){v:Value}{rs:List tO}(hv:bG w v (rs.map (·.1)))(mG:∀b,v.ownBlock=some b->o b=none)(hL:∀p∈rs,aB L p.1=some (ax p.2 false))(Kb:(rs.map (·.1)).Nodup)(hlen:rs.length<=1000)(Di:∀p∈rs,aC by' p.2=p.2)(hall:lens rs<=60000){out:Name}(fe:bM out=true)(hno:aB L out=none) :
 Calls prog 179 #[ptrTo jb,v,.string out] w (DL n pb db w o d L out (rs.map (·.1)) (aC by' (ep rs)) (lens rs)):=by
 have p9:Hid (∀W o' d' nm es,Moved (fun _=>False) n pb db w o d W o' d' L->(nm,es)∈rs->Calls prog 116 #[ptrTo jb,.string nm] W (qM n pb db W o' d' L nm es.length)):=ae (fun W o' d' nm es hm hp=>yB HW hm.aY (hj.moved hm km CL (fun h=>h) (fun h=>h)) (hL _ hp));have Im:Hid (∀W o' d' L' cb sb nm(es:List aD)x0 i fl x,aR W pb db n o' d' L'->aF W sb pb nm 20->o' sb=none->bD W cb sb i es.length x0->o' cb=none->aB L' nm=some (ax es fl)->es[i]? = some x->Calls prog 221 #[ptrTo cb] W (AA n pb db W o' d' L' cb sb i es.length x)):=ae (fun W o' d' L' cb sb nm es x0 i fl x a b c e f g hx=>by
  have hi:=aN hx;grind [sA])
 have E8:Hid (∀W o' d',Moved (fun _=>False) n pb db w o d W o' d' L->Calls prog 223 #[ptrTo jb,.string out] W (mn n pb db W o' d' L out)):=ae (fun W o' d' hm=>sB hm.aY (hj.moved hm km CL (fun h=>h) (fun h=>h)) (hm.free hj.lt.1 km) fe hno);have hput:Hid (∀W o' d' kb sb res,aR W pb db n o' d' (aS L out (ax res false))->aF W sb pb out 20->o' sb=none->o' kb=none->kb≠sb->fc W kb sb res->res.length<65535->∀x:aD,
  Calls prog 225 #[ptrTo kb,.agg #[.int .u32 (x.t.toNat:Int),.int .u32 (x.h.toNat:Int),.int .u64 (x.x.toNat:Int),.int .u32 (x.m.toNat:Int)]] W (AB n pb db W o' d' (aS L out (ax res false)) out kb sb res x)):=
  ae (fun W o' d' kb sb res hW hst ho Sl hne hk hl x=>yz HW hW hst ho Sl hne (by grind [ay]) hl hk x)
 have Le:∀x∈rs.map (·.1),x≠out:=fun x hx e=>by
  grind
 have ur:Hid (∀W o' d' es,Moved (fun _=>False) n pb db w o d W o' d' (aS L out (ax es false))->Calls prog 227 #[ptrTo jb,v] W (yA n pb db W o' d' (aS L out (ax es false)) (rs.map (·.1)))):=ae (fun W o' d' es hm=>by
  refine Hy hm.aY (hj.moved hm km CL (fun h=>h) (fun h=>h)) (hm.free hj.lt.1 km) (hv.kept (fun b hb=>hm.block (hv.lt b hb) (mG b hb) (fun h=>h))) (fun b hb=>hm.free (hv.lt b hb) (mG b hb)) (fun x hx=>?_) Kb (by grind);rw[ay,if_neg (Le x hx)];obtain⟨p,hp,rfl⟩:=List.mem_map.1 hx;exact⟨_,_,hL p hp⟩)
 have yU:Hid (∀W,cU W jb pb bf made by'->∀x y:aD,Calls prog 224 #[ptrTo jb,.agg #[.int .u32 (x.t.toNat:Int),.int .u32 (x.h.toNat:Int),.int .u64 (x.x.toNat:Int),.int .u32 (x.m.toNat:Int)],.agg #[.int .u32 (y.t.toNat:Int),.int .u32 (y.h.toNat:Int),.int .u64 (y.x.toNat:Int),.int .u32 (y.m.toNat:Int)]] W
  fun e w'=>e=.returned (.int .i64 (aQ by' x y))/\dY W w'):=ae (fun W hW x y=>yv hW x y)
 have hcell:Hid (∀W o' d' L',Moved (fun _=>False) n pb db w o d W o' d' L'->∀k p,rs[k]? = some p->∀g off len cap,v=.slice (some ⟨g,off,none⟩) len cap->W.cell? ⟨g,off+k,none⟩=some (.string p.1)):=ae (fun W o' d' L' hm k p hp g off len cap e=>by
  subst e;have hkr:=aN hp;have h1:=(hv.kept (fun b hb=>hm.block (hv.lt b hb) (mG b hb) (fun h=>h))).cells.2.2.2 k (by grind);grind)
 have H:=ae h;have HJ:=ae hj;have HL:=ae hL;have aey:=ae Di;have HNO:=ae hno;have HNS:=ae Le;have Co:Hid ((ep rs).length=lens rs):=ae (uM rs);have VO:=ae km;have Wa:=ae CL;obtain⟨g,off,cap,rfl⟩:=hv.shape;obtain⟨-,hl2,Oz,-⟩:=hv.cells;unfold maxLen at Oz;clear h hj km CL hv mG hL Kb Di fe hno Le;rw[List.length_map]at *;generalize hN:rs.length=N at *;have HN:=ae hN;clear hN;generalize hM:lens rs=M at *;clear hM;unfold ptrTo at *;go_enter func179,ntmps179;go_wp2;go_loopw [22,7] (fun i v wr=>∃k:Nat,k<=N/\i=.int .i64 (k:Int)/\Sw n pb db by' w o d L out rs k v wr) (fun i _ _=>N-(intOf i).toNat)
 case atStart=>exact⟨0,Nat.zero_le _,rfl,d,o,[],Moved.refl _ H.out,dc.nil,Fe.ofNil,rfl,(fun s hs=>nomatch hs),(fun s hs=>nomatch hs),Nat.le_refl _⟩
 case round=>
  generalize u7=v at *;obtain⟨k,hk,rfl,d1,o1,l,ej,JS,hr1,Yl,Sx,uE,hlk⟩:=hrel;have e9:=ae ej;have Iw:=ae JS;have nN:=ae hr1;have Sy:=ae Yl;have Fg:=ae Sx;have Wb:=ae uE;have hs1:w.heap.size<=wr.heap.size:=ej.size;have OH:Hid (∀x,v.ownBlock=some x->x<wr.heap.size):=ae (fun x hx=>(aL hr1 x hx).1);clear ej JS hr1 Yl Sx uE;by_cases hlt:k<N
  ·obtain⟨nm,es,hp⟩:∃nm es,rs[k]? = some (nm,es):=by
    have hkr:k<rs.length:=by grind [Hid.out]
    exact⟨rs[k].1,rs[k].2,List.getElem?_eq_getElem hkr⟩
   have mI:(nm,es)∈rs:=List.mem_of_getElem? hp;have hc:=hcell.out wr o1 d1 L e9.out k (nm,es) hp g off N cap rfl;have aM:=ae (p9.out wr o1 d1 nm es e9.out mI);have HF:Hid (aB L nm=some (ax es false)):=ae (HL.out _ mI);have G5:Hid (nm≠out):=ae (HNS.out nm (List.mem_map.2 ⟨_,mI,rfl⟩));have nu:Hid (es.Pairwise (dB by')):=ae (Lc (aey.out _ mI));have aez:Hid (ep (rs.take (k+1))=ep (rs.take k)++es):=ae (Ld hp);clear hp mI;dsimp only at hc;go_wp2_with fail;refine aM.out.mono ?_;rintro e w2⟨v2,c2,d2,o2,rfl,cT,qp,jw⟩;have eV:=ae (e9.out.trans cT (fun _ _ h=>h));have Ym:=ae cT;have Hs:=ae qp;clear cT qp hc aM;by_cases hc2:c2=0
   ·subst hc2;obtain⟨cb,sb,rfl,hs2,oO,Lf,AU,Wc,RU⟩:=jw rfl;have eP:=ae hs2;have nS:=ae oO;have Sz:=ae Lf;have CJ:=ae AU;have hz2:wr.heap.size<=w2.heap.size:=Ym.out.size;clear hs2 oO Lf AU jw;unfold ptrTo at *;by_cases hes:0<es.length
    ·have hx:es[0]? = some es[0]:=List.getElem?_eq_getElem hes;have aM:=ae (Im.out w2 o2 d2 L cb sb nm es AJ 0 false es[0] eV.out.aY nS.out CJ.out eP.out Sz.out HF.out hx);have HX:=ae hx;clear hx;generalize es[0]=x at *;go_wp2_with fail;refine aM.out.mono ?_;rintro e w3⟨c3,d3,o3,rfl,eE,DB,hs3⟩;have eH:=ae (eV.out.trans eE (fun x hx e=>by omega));have HMT:=ae eE;have Cw:=ae DB;have hz3:w2.heap.size<=w3.heap.size:=eE.size;clear eE DB aM;by_cases hc3:c3=0
     ·subst hc3;have fF:=ae (hs3 rfl);have BS:Hid (w3.ownsRow w.heap.size 206 1 v (l.map Src.cb).length ((l.map Src.cb).map ptrTo)):=ae (by
       have fR:∀b,v.ownBlock=some b->o1 b=none:=fun b hb=>(Iw.out.row b hb).1;have h2:=Ym.out.ownsRow nN.out (fun b hb=>⟨fR b hb,fun h=>h⟩);exact HMT.out.ownsRow h2 (fun b hb=>⟨Ym.out.free (OH.out b hb) (fR b hb),fun e=>by have:=OH.out b hb;omega⟩))
      clear hs3;go_wp2_with (at_builtin;refine uQ rfl _ _ rfl w.heap.size _ _ rfl BS.out cb 1 rfl af af ?_);intro v4 w4 hr4 La;have Qo:=ae (La.moved eH.out (fun x hx=>⟨HMT.out.free (Nat.lt_of_lt_of_le (OH.out x hx) hz2) (Ym.out.free (OH.out x hx) (Iw.out.row x hx).1),(Iw.out.row x hx).2.1⟩));have M6:=ae (Iw.out.opened OH.out Ym.out HMT.out hs1 Wc RU eP.out nS.out Sz.out CJ.out fF.out HX.out HF.out G5.out La);have MR:=ae hr4;clear hr4 La;go_wp2;go_roundw
      case rel=>exact⟨k+1,af,by go_num,d3,o3,_,Qo.out.1,M6.out,(by simpa using MR.out),(by rw[my,Ir,Sy.out,aez.out];rfl),(fun s hs=>(List.mem_append.1 hs).elim (Fg.out s) (fun hs=>by rw[List.mem_singleton.1 hs];assumption)),(fun s hs=>(List.mem_append.1 hs).elim (Wb.out s) (fun hs=>by rw[List.mem_singleton.1 hs];exact⟨Nat.le_refl _,hes⟩)),(by grind)⟩
      grind [intOf]
     ·have KG:¬(c3:Int)=0:=by omega
      have HE:Hid (jL d d3 (need L+4*M) c3):=ae (((Cw.out.resolve_left hc3).num (Nat.le_add_right _ _)).later eV.out.on.bO);clear hc3 hs3;go_wp2;go_ret;exact⟨c3,d3,o3,L,rfl,eH.out,(fun _ _ _=>rfl),.inr HE.out⟩
    ·have ajO:es=[]:=List.eq_nil_of_length_eq_zero af;subst ajO;have aM:=ae (mj eP.out (Nat.le_refl _));unfold ptrTo at aM;go_wp2_with fail;refine aM.out.mono ?_;rintro e w3⟨rfl,q,rfl⟩;have HB:Hid (Below w2.heap.size w2 (w2.drewN q)):=ae (below_drewN ak _);have BS:Hid (w2.ownsRow w.heap.size 206 1 v (l.map Src.cb).length ((l.map Src.cb).map ptrTo)):=ae (Ym.out.ownsRow nN.out (fun b hb=>⟨(Iw.out.row b hb).1,fun h=>h⟩));have Ss:=ae ((Iw.out.moved Ym.out OH.out (fun _ _=>⟨fun h=>h,fun h=>h⟩) (fun _ _=>rfl)).below HB.out);have MR:Hid ((w2.drewN q).ownsRow w.heap.size 206 1 v (l.map Src.cb).length ((l.map Src.cb).map ptrTo)):=ae (bH BS.out (fun x hx=>HB.out.block x (Nat.lt_of_lt_of_le (OH.out x hx) hz2)));have eH:=ae (eV.out.drewN q);generalize w2.drewN q=w3 at *;go_wp2;go_roundw
     case rel=>exact⟨k+1,af,by go_num,d2,o2,l,eH.out,Ss.out,MR.out,(by grind [Hid.out]),Fg.out,Wb.out,af⟩
     grind [intOf]
   ·have KR:¬(c2:Int)=0:=by omega
    have HE:Hid (jL d d2 (need L+4*M) c2):=ae (((Hs.out.resolve_left hc2).num (Nat.le_add_right _ _)).later e9.out.on.bO);clear hc2 jw;go_wp2;go_ret;exact⟨c2,d2,o2,L,rfl,eV.out,(fun _ _ _=>rfl),.inr HE.out⟩
  ·obtain rfl:k=N:=by omega
   have HT0:Hid (Taken by' (ep rs) [] l):=ae ⟨by rw[List.nil_append,Sy.out,List.take_of_length_le (by grind [Hid.out])],List.Pairwise.nil,(fun x hx=>nomatch hx),Fg.out,Wb.out⟩;have aM:=ae (E8.out wr o1 d1 e9.out);unfold ptrTo at aM;go_wp2_with fail;refine aM.out.mono ?_;rintro e w2⟨v2,c2,d2,o2,rfl,cT,qp,jw⟩;have Hs:=ae qp;by_cases hc2:c2=0
   ·subst hc2;obtain⟨kb,y7,rfl,hk2,oO,Ig,AU,pJ,hkb,CB⟩:=jw rfl;simp only[if_true]at cT;have eV:=ae (e9.out.trans cT (fun _ _ h=>h));have JU:Hid (dc w2 pb o2 (aS L out (ax [] false)) w.heap.size out v l):=ae (Iw.out.moved cT OH.out (fun _ _=>⟨fun h=>h,fun h=>h⟩) (fun x hx=>by rw[ay,if_neg hx]));have CM:Hid (Fe w2 v (l.map Src.cb)):=ae (Fe.DG (cT.ownsRow nN.out (fun b hb=>⟨(Iw.out.row b hb).1,fun h=>h⟩)));have HK2:=ae hk2;have nS:=ae oO;have V4:=ae Ig;have CJ:=ae AU;have K7:=ae pJ;have HVK:Hid (∀x,v.ownBlock=some x->x≠kb/\x≠y7):=ae (fun x hx=>by have:=OH.out x hx;omega);have hkw:w.heap.size<=kb:=by omega
    clear jw cT hk2 oO Ig AU pJ qp aM;unfold ptrTo;have ajQ:Hid ((ep rs).length<=60000):=ae (by rw[Co.out];omega);clear Iw nN Sy Fg Wb OH e9 hlk;go_wp2;go_loopg [7] (ep rs).length (fun left v wr=>OT n pb db kb y7 by' w o d L out (ep rs) left v wr)
    case atStart=>exact⟨d2,o2,l,[],eV.out,JU.out,CM.out,HT0.out,HK2.out,nS.out,V4.out,CJ.out,HVK.out,by have:=HT0.out.len;simpa using this.symm⟩
    case round=>
     clear eV JU CM HT0 HK2 nS V4 CJ HVK;generalize u7=v at *;generalize wr=wo at *;obtain⟨d3,o3,l3,taken,eE,Oz,hr3,yY,hk3,uD,uC,OI,aar,QZ⟩:=hrel;have eH:=ae eE;have HJ3:Hid (cU wo jb pb bf made by'):=ae (HJ.out.moved eE VO.out Wa.out (fun h=>h) (fun h=>h));by_cases hz:l3=[]
     ·subst hz;have hv0:∃a cap,v=.slice a 0 cap:=by
       rcases hr3 with⟨rfl,_⟩|⟨g',cap',rfl,_⟩
       ·simp
       simp
      have HD:=ae yY.done;have aM:=ae (ur.out wo o3 d3 (fL taken) eE);clear eE Oz hr3 yY hk3 uD uC OI aar QZ;obtain⟨a,cap',rfl⟩:=hv0;go_wp2_with fail;refine aM.out.mono ?_;rintro e w4⟨c4,d4,o4,L4,rfl,eX,iz⟩;have gC:=ae (eH.out.trans eX (fun _ _ h=>h));have BV:=ae iz;clear eX iz aM;go_wp2;go_ret;refine⟨c4,d4,o4,L4,rfl,gC.out,fun x hx UR=>?_,?_⟩
      ·rcases BV.out with⟨_,e⟩|⟨_,_,e⟩
       ·rw[e,rH,if_neg UR,ay,if_neg hx]
       ·rw[e x UR,ay,if_neg hx]
      ·rcases BV.out with⟨h1,e⟩|⟨h1,h2,_⟩
       ·exact .inl ⟨h1,by rw[e,HD.out]⟩
       ·exact .inr (.inr ⟨h1,h2⟩)
     ·have Zq:0<l3.length:=List.length_pos_iff.2 hz;obtain⟨g3,za,rfl,aep,Sn,hpr,hg3⟩:∃g3 za,v=.slice (some ⟨g3,0,none⟩) l3.length za/\l3.length<=za/\za<=maxLen/\im wo g3 (l3.map Src.cb)/\g3<wo.heap.size:=by
       rcases hr3 with⟨rfl,h⟩|⟨g,cap,rfl,h1,h2,h3,h4⟩
       ·exact absurd (List.map_eq_nil_iff.1 h) hz
       ·rw[List.length_map]at *;exact⟨g,cap,rfl,h1,h2,h3,h4⟩
      have Fh:Hid (∀W,dY wo W->∀(k:Nat)(s:Src),l3[k]? = some s->W.cell? ⟨g3,k,none⟩=some (ptrTo s.cb)/\W.cell? ⟨s.cb,3,none⟩=some (.int .u32 (s.cur.t.toNat:Int))/\W.cell? ⟨s.cb,4,none⟩=some (.int .u32 (s.cur.h.toNat:Int))/\W.cell? ⟨s.cb,5,none⟩=some (.int .u64 (s.cur.x.toNat:Int))/\W.cell? ⟨s.cb,6,none⟩=some (.int .u32 (s.cur.m.toNat:Int))):=ae (fun W hW k s hk=>by
       obtain⟨h1,h2,h3,h4,h5⟩:=Oz.cells hpr hk;exact⟨hW.cell h1,hW.cell h2,hW.cell h3,hW.cell h4,hW.cell h5⟩)
      have Ss:=ae Oz;have rB:=ae yY;have HK3:=ae hk3;have CK:=ae uD;have Sm:=ae uC;have wZ:=ae OI;have SA:=ae aar;have HGK:=ae QZ;have HPR:=ae hpr;clear eE Oz hr3 yY hk3 uD uC OI aar QZ hpr hz;unfold maxLen at Sn;have Fi:Hid (∀k,k<l3.length->∃s,l3[k]? = some s):=ae (fun k hk=>⟨l3[k],List.getElem?_eq_getElem hk⟩);generalize hZ:l3.length=Z at *;have HZ:=ae hZ;clear hZ;go_wp2;go_loopw [15,63] (fun kv iv W=>∃k i:Nat,k<Z/\i<=Z/\kv=.int .i64 (k:Int)/\iv=.int .i64 (i:Int)/\dY wo W/\∀(s t:Src)(j:Nat),j<i->l3[k]? = some s->l3[j]? = some t->dB by' s.cur t.cur) (fun _ iv _=>Z-(intOf iv).toNat)
      case atStart=>exact⟨0,0,Zq,Nat.zero_le _,rfl,rfl,dY.refl _,fun _ _ j hj=>absurd hj (Nat.not_lt_zero _)⟩
      case round=>
       generalize wr=W at *;obtain⟨k,i,hk,hi,rfl,rfl,hgr,uR⟩:=hrel;have HG:=ae hgr;have OU:=ae uR;clear hgr uR;by_cases hlt:i<Z
       ·obtain⟨x,hx⟩:=Fi.out i hlt;obtain⟨y,hy⟩:=Fi.out k hk;have HCX:Hid (∀W',dY W W'->W'.cell? ⟨g3,i,none⟩=some (ptrTo x.cb)/\W'.cell? ⟨x.cb,3,none⟩=some (.int .u32 (x.cur.t.toNat:Int))/\W'.cell? ⟨x.cb,4,none⟩=some (.int .u32 (x.cur.h.toNat:Int))/\W'.cell? ⟨x.cb,5,none⟩=some (.int .u64 (x.cur.x.toNat:Int))/\W'.cell? ⟨x.cb,6,none⟩=some (.int .u32 (x.cur.m.toNat:Int))):=ae (fun W' hW=>Fh.out W' (HG.out.trans hW) i x hx);have HCY:Hid (∀W',dY W W'->W'.cell? ⟨g3,k,none⟩=some (ptrTo y.cb)/\W'.cell? ⟨y.cb,3,none⟩=some (.int .u32 (y.cur.t.toNat:Int))/\W'.cell? ⟨y.cb,4,none⟩=some (.int .u32 (y.cur.h.toNat:Int))/\W'.cell? ⟨y.cb,5,none⟩=some (.int .u64 (y.cur.x.toNat:Int))/\W'.cell? ⟨y.cb,6,none⟩=some (.int .u32 (y.cur.m.toNat:Int))):=ae (fun W' hW=>Fh.out W' (HG.out.trans hW) k y hy);have aM:=ae (fun W'(hW:dY W W')=>yU.out W' (HJ3.out.below (HG.out.trans hW).below) x.cur y.cur);have aeA:Hid (aQ by' x.cur y.cur<0->∀(s t:Src)(j:Nat),j<i+1->l3[i]? = some s->l3[j]? = some t->dB by' s.cur t.cur):=ae (fun hc s t j hj hs ht=>by
         rw[hx]at hs;obtain rfl:=Option.some.inj hs;rcases Nat.lt_or_ge j i with vQ | vQ
         ·have h1:=OU.out y t j vQ hy ht;rw[Ax]at hc;exact dB.trans (by unfold dB;omega) h1
         ·obtain rfl:j=i:=by omega
          rw[hx]at ht;obtain rfl:=Option.some.inj ht;exact dB.refl _ _)
        have Yn:Hid (¬aQ by' x.cur y.cur<0->∀(s t:Src)(j:Nat),j<i+1->l3[k]? = some s->l3[j]? = some t->dB by' s.cur t.cur):=ae (fun hc s t j hj hs ht=>by
         rcases Nat.lt_or_ge j i with vQ | vQ
         ·exact OU.out s t j vQ hs ht
         ·obtain rfl:j=i:=by omega
          rw[hx]at ht;obtain rfl:=Option.some.inj ht;rw[hy]at hs;obtain rfl:=Option.some.inj hs;exact(Ay _ _ _).1 hc)
        clear hx hy;unfold ptrTo at *;generalize aQ by' x.cur y.cur=R at *
        generalize x.cur.t.toNat=xt at *;generalize x.cur.h.toNat=xh at *;generalize x.cur.x.toNat=xx at *;generalize x.cur.m.toNat=xm at *;generalize y.cur.t.toNat=yt at *;generalize y.cur.h.toNat=yh at *;generalize y.cur.x.toNat=yx at *;generalize y.cur.m.toNat=ym at *;generalize x.cb=xb at *;generalize y.cb=yb at *;by_cases hR:R<0;case' pos=>have hRd:decide (R<0)=true:=decide_eq_true hR
        case' neg=>have hRd:decide (R<0)=false:=decide_eq_false hR
        all_goals
         go_wp2;refine cP (dY W) (by rfl) ah (dY.refl W).drew ?_;iterate 4 (refine qz ?_)
         refine qz ?_ (fun w' hw'=>by have hc:=(HCX.out w' hw').1;go_simp<;>rfl);iterate 2 (refine qz ?_)
         refine qz ?_ (fun w' hw'=>by obtain⟨-,e0,e1,e2,e3⟩:=HCX.out w' hw';go_simp<;>rfl);iterate 3 (refine qz ?_)
         refine qz ?_ (fun w' hw'=>by have hc:=(HCY.out w' hw').1;go_simp<;>rfl);iterate 2 (refine qz ?_)
         refine qz ?_ (fun w' hw'=>by obtain⟨-,e0,e1,e2,e3⟩:=HCY.out w' hw';go_simp<;>rfl);refine qw (fun w' hw'=>(aM.out w' hw').mono (fun e w'' h=>⟨h.1,hw'.trans h.2⟩)) ?_;refine qz ?_;refine wpQuiet_nil ?_;intro W1 hW1;have JT:=ae (HG.out.trans hW1);clear hW1 aM HCX HCY;go_wp2;go_roundw
         case measure=>simp[intOf];omega
        ·exact⟨k,i+1,hk,af,rfl,by go_num,JT.out,Yn.out af⟩
        ·exact⟨i,i+1,hlt,af,rfl,by go_num,JT.out,aeA.out af⟩
       ·obtain rfl:Z=i:=by omega
        obtain⟨y,hy⟩:=Fi.out k hk;obtain⟨e0,e3,e4,e5,e6⟩:=Fh.out W HG.out k y hy;have HPL:Hid ((fL taken).length<=taken.length):=ae (mS _);have HLEN:Hid (taken.length+(cC l3).length=(ep rs).length):=ae rB.out.len;have HY:=ae hy;have eX:Moved (fun _=>False) n pb db w o d W o3 d3 (aS L out (ax (fL taken) false)):=eH.out.below HG.out.below;have gC:=ae eX;have hk4:fc W kb y7 (fL taken):=HK3.out.below HG.out.below;have HK4:=ae hk4;have EO:aF W y7 pb out 20:=CK.out.below HG.out.below;have uF:=ae EO;have hl4:=Ss.out.below HG.out.below;have M6:=ae hl4;have aM:=ae (hput.out W o3 d3 kb y7 (fL taken) eX.aY EO wZ.out Sm.out K7.out hk4 (by have:=HPL.out;have:=HLEN.out;have:=ajQ.out;omega) y.cur);have nO:Hid (sZ (fL taken) y.cur=fL (taken++[y.cur])):=ae (wz _ _).symm;have hky:k<l3.length:=by rw[HZ.out];exact hk
        have HYE:Hid (l3[k]=y):=ae (by rw[List.getElem?_eq_getElem hky]at hy;exact Option.some.inj hy);have Yo:=hl4.each y (List.mem_of_getElem? hy);have amY:=ae Yo;have SB:Hid (∀s∈l3,dB by' l3[k].cur s.cur):=ae (fun s hs=>by
         obtain⟨j,hj,rfl⟩:=List.getElem_of_mem hs;exact OU.out _ _ j (by rw[<- HZ.out];exact hj) (List.getElem?_eq_getElem hky) (List.getElem?_eq_getElem hj))
        have HNK:Hid (∀s∈l3,kb≠s.cb/\kb≠s.sb/\y7≠s.cb):=ae (fun s hs=>⟨y8 (hl4.each s hs).src hk4,y9 (hl4.each s hs).str hk4,gq (hl4.each s hs).src EO⟩);have hyo:=rB.out.ok y (List.mem_of_getElem? hy);have HYO:=ae hyo;have HYM:=ae (List.mem_of_getElem? hy);have hg4:g3<W.heap.size:=Nat.lt_of_lt_of_le hg3 HG.out.below.size;have ajU:Hid (im W g3 (l3.map Src.cb)):=ae (HPR.out.kept (HG.out.below.block _ hg3));clear eX hk4 EO hl4 hy Yo hyo Fh OU;unfold ptrTo at *;generalize hyc:y.cur=yc at *;have HYC:=ae hyc;clear hyc;generalize hyb:y.cb=yb at *;have Wd:=ae hyb;clear hyb;go_wp2_with fail;refine aM.out.mono ?_;rintro e w5⟨c5,d5,o5,rfl,kP,Qg,Sq⟩;have Rx:=ae Qg;by_cases BR:c5=0
        ·subst BR;simp only[if_true,iZ]at kP;rw[nO.out]at kP Sq;have HK5:=ae (Sq rfl);have lL:=ae (gC.out.trans kP (fun x hx e=>by omega));have hl5:dc w5 pb o5 (aS L out (ax (fL (taken++[yc])) false)) w.heap.size out (.slice (some ⟨g3,0,none⟩) Z za) l3:=M6.out.moved kP (fun x hx=>by cases hx;omega) (fun s hs=>⟨fun e=>(HNK.out s hs).1 e.symm,fun e=>(HNK.out s hs).2.1 e.symm⟩) (fun x hx=>by rw[ay,if_neg hx,ay,if_neg hx]);have HL5:=ae hl5;have hrow:=M6.out.row g3 rfl;have ZB:w5.heap[g3]? = W.heap[g3]? := kP.block hg4 hrow.1 (SA.out g3 rfl).1;have aat:Hid (im w5 g3 (l3.map Src.cb)):=ae (ajU.out.kept ZB);have Ix:Hid (aF w5 y7 pb out 20):=ae (uF.out.moved kP wZ.out (fun e=>K7.out e.symm));have aau:Hid (o5 kb=none):=ae (kP.free HK4.out.lt Sm.out);have Iy:Hid (o5 y7=none):=ae (kP.free uF.out.lt wZ.out);have P9:g3<w5.heap.size:=Nat.lt_of_lt_of_le hg4 kP.size;have e0:w5.cell? ⟨g3,k,none⟩=some (.pointer (some ⟨yb,0,none⟩)):=by
          have:=aat.out.cell (k:=k) (by rw[List.length_map];omega);rw[List.getElem_map,HYE.out,Wd.out]at this;exact this
         have uT:=hl5.each y HYM.out;have aeD:=ae uT;clear kP Sq Qg hl5 hrow ZB e3 e4 e5 e6 aM;have HTL:Hid ((taken++[yc]).length<=(ep rs).length):=ae (by
          rw[List.length_append,List.length_singleton,<- HLEN.out];have h1:=Src.left_eq HYO.out;have h2:y.left.length<=(cC l3).length:=by
           exact(List.sublist_flatten_of_mem (List.mem_map.2 ⟨y,HYM.out,rfl⟩)).length_le
          rw[h1,List.length_cons]at h2;omega)
         have aeE:Hid (need (aS L out (ax (fL (taken++[yc])) false))<=need L+4*M):=ae (by
          have h1:=Iu (es:=fL (taken++[yc])) HNO.out;have h2:=mS (taken++[yc]);have h3:=HTL.out;rw[Co.out]at h3;omega)
         obtain⟨fl,SC⟩:=uT.file;by_cases AW:y.pos<y.es.length
         ·obtain⟨x,hx⟩:∃x,y.es[y.pos]? = some x:=⟨_,List.getElem?_eq_getElem AW⟩;have aM:=ae (Im.out w5 o5 d5 _ y.cb y.sb y.name y.es y.cur y.pos fl x lL.out.aY uT.str uT.os uT.src uT.oc SC hx);have HX:=ae hx;clear uT SC hx;rw[Wd.out]at aM;have Yn:=ae AW;clear AW;go_wp2_with fail;refine aM.out.mono ?_;rintro e w6⟨c6,d6,o6,rfl,oA,he6,U3⟩;have HE6:=ae he6;have yF:Hid (Moved (fun _=>False) n pb db w o d w6 o6 d6 (aS L out (ax (fL (taken++[yc])) false))):=ae (lL.out.trans oA (fun x hx e=>by
           have:=aeD.out.bc;rw[Wd.out]at this;omega))
          by_cases hc6:c6=0
          ·subst hc6;have aeF:=U3 rfl;have hstep:y.step.cur=x:=by
            unfold Src.cur Src.step;show(y.es[y.pos+1-1]?).getD AJ=x;rw[Nat.add_sub_cancel,HX.out];rfl
           rw[<- hstep,<- Wd.out]at aeF;have SD:Moved (·=l3[k].cb) n pb db w5 o5 d5 w6 o6 d6 (aS L out (ax (fL (taken++[yc])) false)):=by rw[HYE.out,Wd.out];omega
           have HL6:=ae (HL5.out.step hky SD (fun x hx=>by cases hx;omega) (by rw[HYE.out];omega));have hrow:=HL5.out.row g3 rfl;have ZB:w6.heap[g3]? = w5.heap[g3]? := oA.block P9 hrow.1 (fun e=>(hrow.2.2 y HYM.out).1 (e.trans Wd.out.symm));have SE:(l3.set k l3[k].step).map Src.cb=l3.map Src.cb:=by
            rw[List.map_set];apply List.ext_getElem?;intro j;rw[List.getElem?_set];split
            ·rename_i e
             subst e;rw[List.getElem?_eq_getElem (by rw[List.length_map];omega),if_pos (by rw[List.length_map];omega),List.getElem_map];rfl
            ·rfl
           have Kt:Hid (Fe w6 (.slice (some ⟨g3,0,none⟩) Z za) ((l3.set k l3[k].step).map Src.cb)):=ae (by
            rw[SE];exact .inr ⟨g3,za,by rw[List.length_map,HZ.out],by rw[List.length_map,HZ.out];omega,by assumption,aat.out.kept ZB,Nat.lt_of_lt_of_le P9 oA.size⟩)
           have QX:Hid (Taken by' (ep rs) (taken++[yc]) (l3.set k l3[k].step)):=ae (by
            have:=rB.out.step hky SB.out (by rw[HYE.out];assumption);rw[show l3[k].cur=yc by rw[HYE.out,HYC.out]]at this;omega)
           have HK6:Hid (fc w6 kb y7 (fL (taken++[yc]))):=ae (HK5.out.kept (oA.block HK5.out.lt aau.out (fun e=>(HNK.out y HYM.out).1 (e.trans Wd.out.symm))));have SF:Hid (aF w6 y7 pb out 20):=ae (Ix.out.moved oA Iy.out (fun e=>(HNK.out y HYM.out).2.2 (e.trans Wd.out.symm)));have ajW:Hid (o6 kb=none):=ae (oA.free HK5.out.lt aau.out);have ajX:Hid (o6 y7=none):=ae (oA.free Ix.out.lt Iy.out);have ap8:Hid ((cC (l3.set k l3[k].step)).length<gk):=ae (by
            have h1:=QX.out.len;have h2:=HLEN.out;have h3:=HGK.out;rw[List.length_append,List.length_singleton]at h1;omega)
           clear oA he6 U3 aeF hstep SD hrow ZB SE aM e0;generalize Wf:l3.set k l3[k].step=ln at *;have HLN:=ae Wf;clear Wf;go_wp2;go_roundg (cC ln).length
           case measure=>assumption
           case rel=>exact⟨d6,o6,ln,taken++[yc],yF.out,HL6.out,Kt.out,QX.out,HK6.out,SF.out,ajW.out,ajX.out,SA.out,rfl⟩
          ·have ap9:¬(c6:Int)=0:=by omega
           have HE:Hid (jL d d6 (need L+4*M) c6):=ae (((HE6.out.resolve_left hc6).num aeE.out).later lL.out.on.bO);clear hc6 U3 oA he6 aM;go_wp2;go_ret;exact⟨c6,d6,o6,_,rfl,yF.out,(fun x hx _=>by rw[ay,if_neg hx]),.inr HE.out⟩
         ·have yR:y.es.length<=y.pos:=Nat.le_of_not_lt AW;have aM:=ae (mj uT.src yR);have Iz:=ae yR;clear uT SC yR AW;rw[Wd.out]at aM;unfold ptrTo at aM;go_wp2_with fail;refine aM.out.mono ?_;rintro e w6⟨rfl,q,rfl⟩;have nw:Hid (Below w5.heap.size w5 (w5.drewN q)):=ae (below_drewN ak _);generalize w5.drewN q=w6 at *;have ajY:Hid (im w6 g3 (l3.map Src.cb)):=ae (aat.out.kept (nw.out.block _ P9));have hg6:g3<w6.heap.size:=Nat.lt_of_lt_of_le P9 nw.out.size;have hcd:=Lb (cap:=za) ajY.out (by rw[List.length_map,HZ.out];omega) (by assumption) (k:=k) (by rw[List.length_map];omega);rw[List.length_map,HZ.out,show((k+1:Nat):Int)=(k:Int)+1 by omega]at hcd;have aM:=ae hcd;clear hcd e0;go_wp2_with fail;refine aM.out.mono ?_;rintro e w7⟨rfl,aav,Qa⟩;have BZ:Hid (Moved (fun _=>False) n pb db w o d w7 o5 d5 (aS L out (ax (fL (taken++[yc])) false))):=ae ((lL.out.below nw.out).turned (b:=g3) (HL5.out.row g3 rfl).1 (.inr (HL5.out.row g3 rfl).2.1) Qa);have aeG:aG (fun x=>(Value.slice (some ⟨g3,0,none⟩) Z za).ownBlock=some x) w6 w7:=Qa.mono (fun x _ e=>by rw[e];rfl);have HL7:=ae ((HL5.out.below nw.out).gone (v':=.slice (some ⟨g3,0,none⟩) (Z-1) za) k aeG rfl);have SE:(l3.map Src.cb).eraseIdx k=(l3.eraseIdx k).map Src.cb:=by
           rw[List.eraseIdx_eq_take_drop_succ,List.eraseIdx_eq_take_drop_succ,List.map_append,List.map_take,List.map_drop]
          have uw:(l3.eraseIdx k).length=Z-1:=by rw[List.length_eraseIdx,if_pos hky,HZ.out]
          have Fj:Hid (Fe w7 (.slice (some ⟨g3,0,none⟩) (Z-1) za) ((l3.eraseIdx k).map Src.cb)):=ae (by
           rw[SE]at aav;exact .inr ⟨g3,za,by rw[List.length_map,uw],by rw[List.length_map,uw];omega,by assumption,aav,Nat.lt_of_lt_of_le hg6 Qa.size⟩)
          have UN:Hid (Taken by' (ep rs) (taken++[yc]) (l3.eraseIdx k)):=ae (by
           have:=rB.out.gone hky SB.out (by rw[HYE.out];assumption);rw[show l3[k].cur=yc by rw[HYE.out,HYC.out]]at this;omega)
          have HK7:Hid (fc w7 kb y7 (fL (taken++[yc]))):=ae ((HK5.out.below nw.out).kept (Qa.block kb (Nat.lt_of_lt_of_le HK5.out.lt nw.out.size) (fun e=>(SA.out g3 rfl).1 e.symm)));have SG:Hid (aF w7 y7 pb out 20):=ae ((Ix.out.below nw.out).kept (Qa.block y7 (Nat.lt_of_lt_of_le Ix.out.lt nw.out.size) (fun e=>(SA.out g3 rfl).2 e.symm)));have aqb:Hid ((cC (l3.eraseIdx k)).length<gk):=ae (by
           have h1:=UN.out.len;have h2:=HLEN.out;have h3:=HGK.out;rw[List.length_append,List.length_singleton]at h1;omega)
          clear aav Qa aeG SE uw aM;generalize Wf:l3.eraseIdx k=ln at *;have HLN:=ae Wf;clear Wf;go_wp2;go_roundg (cC ln).length
          case measure=>assumption
          case rel=>exact⟨d5,o5,ln,taken++[yc],BZ.out,HL7.out,Fj.out,UN.out,HK7.out,SG.out,aau.out,Iy.out,SA.out,rfl⟩
        ·have adH:¬(c5:Int)=0:=by omega
         rw[if_neg BR]at kP;have lL:=ae (gC.out.trans kP (fun x hx e=>by omega));have HE:Hid (jL d d5 (need L+4*M) c5):=ae (((Rx.out.resolve_left BR).num (by
          have h1:=Iu (es:=fL taken) HNO.out;have h2:=HPL.out;have h3:=HLEN.out;rw[Co.out]at h3;omega)).later gC.out.on.bO)
         clear BR kP Sq Qg aM;go_wp2;go_ret;exact⟨c5,d5,o5,_,rfl,lL.out,(fun x hx _=>by rw[ay,if_neg hx]),.inr HE.out⟩
   ·have KR:¬(c2:Int)=0:=by omega
    have HC2:=ae hc2;rw[if_neg hc2]at cT;have eV:=ae (e9.out.trans cT (fun _ _ h=>h));clear hc2 cT jw qp aM;go_wp2;go_ret;exact⟨c2,d2,o2,L,rfl,eV.out,(fun _ _ _=>rfl),.inr (.inr (Hs.out.resolve_left HC2.out))⟩
end
end
section
open Go.RowKit Go.Maps Go.MapKept
section
variable {b:Bool} {es:List aD} {rs:List tO} {L L':aH} {name out:Name} {q:Nat}
noncomputable def merged(b:Bool)(rs:List tO)(q:Nat)(name:Name):List tO:=rs.drop q++[(name,aC b (ep (rs.take q)))]
theorem uU:(merged b rs q name).map (·.1)=(rs.map (·.1)).drop q++[name]:=by
 grind [merged,List.map_drop]
theorem CN:(merged b rs q name).length=rs.length-q+1:=by
 grind [merged]
theorem pQ(rs:List tO)(q:Nat):lens rs=lens (rs.take q)+lens (rs.drop q):=by
 rw[<- yD,List.take_append_drop]
theorem oh.merge(h:oh b es rs)(hn:name ∉ rs.map (·.1)):oh b es (merged b rs q name) where
 each:=fun p hp=>by
  rcases List.mem_append.1 hp with hp | hp
  ·grind [each]
  grind [ni]
 all:=by
  grind [merged,uL,ep,Fa,Ih,List.take_append_drop,all]
 len:=by
  have h1:=h.len;grind [pQ,b8,uM,merged,lens]
 nodup:=by
  grind [uU,nodup]
theorem AX(h:oh b es rs)(hn:name ∉ rs.map (·.1))(hL:∀p∈rs,aB L p.1=none)(he:∀x,aB L' x=aB (dL rs L) x)(x:Name) :
 aB (((rs.take q).map (·.1)).foldl bX (aS L' name (ax (aC b (ep (rs.take q))) false))) x=aB (dL (merged b rs q name) L) x:=by
 have aaw:=h.nodup;have aax:rs.map (·.1)=(rs.take q).map (·.1)++(rs.drop q).map (·.1):=by simp
 rw[aax]at aaw hn;rw[List.nodup_append]at aaw;rw[List.mem_append,not_or]at hn;obtain⟨n1,n2,n3⟩:=aaw;unfold merged;rw[rH,ay,AV,ay];by_cases hx:x=name
 ·grind
 ·rw[if_neg hx,if_neg hx];by_cases ht:x∈(rs.take q).map (·.1)
  ·grind [eJ]
  ·rw[if_neg ht,he];by_cases hd:x∈(rs.drop q).map (·.1)
   ·obtain⟨p,hp,rfl⟩:=List.mem_map.1 hd;grind [xe]
   grind [eJ]
theorem OV(h:oh b es rs)(hk:(L.map (·.1)).Nodup)(Ce:(L'.map (·.1)).Nodup)(he:∀x,aB L' x=aB (dL rs L) x):need L'<=need L+4*es.length:=by
 rw[Ap (K8 rs L hk) Ce he];have h1:=tq rs L;have h2:=h.len;omega
end
end
section
open Go.RowKit Go.Maps Go.MapKept
section
variable {w w':World} {pb db n cb kb sb jb bf made:Nat} {by':Bool} {name:Name} {o o':au} {d d':Dsk} {L L':aH}
def kK(n pb db jb bf cb:Nat)(by':Bool)(w:World)(o:au)(d:Dsk)(L:aH)(out:Name)(es:List aD)(left:Nat)(v:Value)(wr:World):Prop:=
 ∃(d':Dsk)(o':au)(L':aH)(rs:List tO)(made:Nat),Moved (fun x=>x=cb\/x=jb) n pb db w o d wr o' d' L'/\cU wr jb pb bf made by'/\bG wr v (rs.map (·.1))/\(∀b,v.ownBlock=some b->o' b=none/\w.heap.size<=b)/\oh by' es rs /\
  (∀x,aB L' x=aB (dL rs L) x)/\((∃x,rs=[(out,x)])\/(2<=rs.length/\∀p∈rs,∃k,k<made/\p.1=dC k))/\made+rs.length<=102/\left=rs.length
theorem OW{out:Name}{rs:List tO}(hno:aB L out=none)(B7:∀k,aB L (dC k)=none)(h:(∃x,rs=[(out,x)])\/(2<=rs.length/\∀p∈rs,∃k,k<made/\p.1=dC k)):∀p∈rs,aB L p.1=none:=by
 intro p hp;rcases h with⟨x,rfl⟩|⟨_,h⟩
 ·rw[List.mem_singleton.1 hp];exact hno
 ·obtain⟨k,_,e⟩:=h p hp;rw[e];exact B7 k
theorem DM{out:Name}{rs:List tO}(hmd:made<=128)(h:(∃x,rs=[(out,x)])\/(2<=rs.length/\∀p∈rs,∃k,k<made/\p.1=dC k)):∀x∈rs.map (·.1),il out x:=by
 intro y hy;obtain⟨p,hp,rfl⟩:=List.mem_map.1 hy;rcases h with⟨x,rfl⟩|⟨_,h⟩
 ·rw[List.mem_singleton.1 hp];exact .inl rfl
 ·obtain⟨k,hk,e⟩:=h p hp;exact .inr ⟨k,af,e⟩
theorem kK.next{out nm:Name}{es:List aD}{rs:List tO}{q left g mk:Nat}{w4 w5:World}{o4:au}{d4:Dsk}{L4:aH}{vd v5:Value}{nsd:List Name}{ob:Obj}(hm:Moved (fun x=>x=cb\/x=jb) n pb db w o d w4 o4 d4 L4)(hj:cU w4 jb pb bf mk by')(h1:jb<w.heap.size)(h2:bf<w.heap.size)(hvd:vd.ownBlock=some g)(hg:o4 g=none/\w.heap.size<=g)(ha:lz (w4.alloc ob) vd nsd nm v5 w5)(UR:nsd++[nm]=(merged by' rs q nm).map (·.1))(fe:oh by' es (merged by' rs q nm))(ik:∀x,aB L4 x=aB (dL (merged by' rs q nm) L) x)(hsh:(∃x,merged by' rs q nm=[(out,x)])\/(2<=(merged by' rs q nm).length/\∀p∈merged by' rs q nm,∃k,k<mk/\p.1=dC k))(tL:mk+(merged by' rs q nm).length<=102)(hl:left=(merged by' rs q nm).length):kK n pb db jb bf cb by' w o d L out es left v5 w5:=by
 obtain⟨hr,ht,hb⟩:=ha;have hs:w4.heap.size<(w4.alloc ob).heap.size:=by simp
 have hw:w.heap.size<=w4.heap.size:=hm.size;have ht':aG (·=g) (w4.alloc ob) w5:=ht.mono (fun x _ e=>by rw[hvd]at e;exact(Option.some.inj e).symm);rw[UR]at hr;have hjk:∀x,x<w.heap.size->w5.heap[x]? = w4.heap[x]? := fun x hx=>(ht'.block x af (fun e=>by omega)).trans ((MapKept.heap_alloc w4 ob).2 x af);refine⟨d4,o4,L4,merged by' rs q nm,mk,(hm.alloc ob).turned (b:=g) hg.1 (.inr hg.2) ht',hj.kept (hjk jb h1) (hjk bf h2),hr,fun b hb'=>?_,fe,ik,hsh,tL,hl⟩;rcases hb with e | e
 ·rw[e,hvd]at hb';cases hb';exact hg
 ·rw[e]at hb';cases hb';exact⟨hm.aY.fresh (Nat.le_of_lt hs),af⟩
theorem Gn(HW:aP){m:Nat}(HS:qN m)(aqc:m<=2400):dZ m:=by
 intro w pb db n cb sb jb bf by' o d L h hn hj km CL hne es fl rV out x0 hL pH hst Oy V9 hcj hcb hsj hsc hout hno B7 hto hm
 have aeH:=ae (Il HW HS h hn hj km CL hne hL pH hst Oy V9 hcj hcb hsj hsc hout hno B7 hto hm af);have rJ:Hid (∀W o' d' L',aR W pb db n o' d' L'->Calls prog 44 #[ptrTo pb] W fun e w'=>e=.returned (.int .i64 (n:Int))/\W=w'):=ae (fun W o' d' L' hW=>jA hW);have aay:Hid (∀W o' d' L' x,aR W pb db n o' d' L'->aB L' out=some (ax x false)->Calls prog 79 #[ptrTo pb,.string out] W (jv (fun _=>False) n pb db W o' d' L' (aS L' out (ax x true)))):=ae (fun W o' d' L' x hW BQ=>pO HW hW BQ);have Ex:Hid (∀W made,cU W jb pb bf made by'->made<100->Calls prog 178 #[ptrTo jb] W fun e w'=>e=.returned (.string (dC made))/\cU w' jb pb bf (made+1) by'/\aG (·=jb) W w'):=ae (fun W made hW hm=>DI hW hm hne);have SH:Hid (∀W o' d' L' made rs q v nm,Moved (fun x=>x=cb\/x=jb) n pb db w o d W o' d' L'->cU W jb pb bf made by'->oh by' es rs->(∀x,aB L' x=aB (dL rs L) x)->bG W v ((rs.take q).map (·.1))->(∀b,v.ownBlock=some b->o' b=none)->rs.length<=1000->bM nm=true->aB L nm=none->nm ∉ rs.map (·.1) ->
  Calls prog 179 #[ptrTo jb,v,.string nm] W (DL n pb db W o' d' L' nm ((rs.take q).map (·.1)) (aC by' (ep (rs.take q))) (lens (rs.take q)))):=ae (fun W o' d' L' made rs q v nm ql hjW fe he hv mG hl vJ aao hni=>by
  have JS:=pQ rs q;have hl2:=fe.len;refine Ff HW ql.aY hjW (ql.free hj.lt.1 km) (ql.free hj.lt.2 CL) hv mG (fun p hp=>?_) ?_ ?_ (fun p hp=>fe.each p (List.mem_of_mem_take hp)) af vJ ?_
  ·rw[he];exact xe _ _ fe.nodup p (List.mem_of_mem_take hp)
  ·rw[List.map_take];exact List.Nodup.sublist (List.take_sublist _ _) fe.nodup
  ·rw[List.length_take];omega
  ·rw[he,eJ _ _ _ hni,aao])
 have U4:n<=4096:=by
  obtain⟨fb,mb,l,hand,mf,hp,rfl,-⟩:=h;exact hp.most
 have HNO:=ae hno;have HNT:=ae B7;have HTO:=ae hto;have aaz:=ae hout;have RT:=ae h.keys;have VO:=ae km;have HCJ:=ae hcj;have Wa:=ae CL;have SI:=hj.lt.1;have Wh:=hj.lt.2;clear h hj km CL hne hL pH hst Oy V9 hcj hcb hsj hsc hout hno B7 hto hm;unfold ptrTo at *;obtain⟨ways,SJ⟩:∃ways:Nat,(ways:Int)=(n:Int)-4:=⟨n-4,af⟩;have rz:IntKind.i64.wrap ((n:Int)-4)=(ways:Int):=by rw[aw af af,SJ]
 have SK:4<=ways/\ways<=4092:=by omega
 obtain⟨SK,aj0⟩:=SK;have am4:=ae SJ;clear SJ;go_enter func117,ntmps117;go_wp2_with fail;refine aeH.out.mono ?_;rintro e w1⟨v1,c1,d1,o1,L1,rfl,ej,aaA,hc1⟩;have e9:=ae ej;have aeJ:=ae aaA;rcases hc1 with⟨rfl,rs,r,Nf,fe,vJ,hrr,aj1,KM,JP,aeK⟩| tM
 ·have HEAD:Hid (kK n pb db jb bf cb by' w o d L out es rs.length v1 w1):=ae ⟨d1,o1,L1,rs,r,ej,KM,JP,aeK,fe,(fun x=>by rw[Nf]),vJ.imp id (fun h=>⟨h.1,h.2.2⟩),af,rfl⟩;obtain⟨UX,-⟩:=KM.cells;have SL:=ae (rJ.out w1 o1 d1 L1 ej.aY);clear Nf fe vJ hrr aj1 KM JP aeK ej aaA;unfold ptrTo at UX;generalize rs.length=r0 at *;clear rs;go_wp2_with fail;refine SL.out.mono ?_;rintro e w2⟨rfl,rfl⟩;go_wp2;go_loopg [7] r0 (fun left v wr=>kK n pb db jb bf cb by' w o d L out es left v wr)
  case atStart=>exact HEAD.out
  case round=>
   clear UX HEAD e9 aeJ SL;generalize u7=v at *;generalize wr=wo at *;obtain⟨d2,o2,L2,rs,mk,cT,hj2,hv2,aeL,jw,Ng,aaB,tL,xU⟩:=hrel;have eV:=ae cT;have VW:=ae hj2;have UQ:=ae hv2;have Fk:=ae aeL;have AY:=ae jw;have DN:=ae Ng;have aeM:=ae aaB;have SM:=ae xU;have s7:Hid (need L2<=need L+4*es.length):=ae (OV jw RT.out cT.aY.keys Ng);have OX:Hid (∀x,¬il out x->aB L2 x=aB L x):=ae (fun x hx=>by rw[Ng,eJ _ _ _ (fun e=>hx (DM af aaB x e))]);obtain⟨UX,-⟩:=hj2.cells;unfold ptrTo at UX;obtain⟨g,off,cap,rfl⟩:=hv2.shape;obtain⟨-,hl2,Oz,-⟩:=hv2.cells;unfold maxLen at Oz;have hsz:w.heap.size<=wo.heap.size:=cT.size;clear cT hj2 hv2 aeL jw Ng xU;rw[List.length_map]at *;rcases aaB with⟨x,rfl⟩|⟨hr2,SN⟩
   ·have hx:x=aC by' es:=by
     have h1:=AY.out.each (out,x) ai;have h2:=AY.out.all;simp only[ep,List.map_cons,List.map_nil,List.flatten_cons,List.flatten_nil,List.append_nil]at h2;rw[<- h2];exact h1.symm
    have HX:=ae hx;have MU:=ae (aay.out wo o2 d2 L2 x eV.out.aY (by rw[DN.out];exact xe _ _ AY.out.nodup (out,x) ai));clear hx;simp only[List.map_cons,List.map_nil,List.length_cons,List.length_nil]at *;go_wp2_with fail;refine MU.out.mono ?_;rintro e w3⟨c3,d3,o3,rfl,eE,DB⟩;have eH:=ae (eV.out.trans eE (fun _ _ h=>h.elim));have Cw:=ae DB;clear eE DB;go_wp2;go_ret;refine⟨c3,d3,o3,_,rfl,eH.out,fun y hy=>?_,?_⟩
    ·have h1:=OX.out y hy;split
     ·rw[ay,if_neg (fun e=>hy (.inl e)),h1]
     ·exact h1
    ·rcases Cw.out with h | h
     ·subst h;refine .inl ⟨rfl,fun y=>?_⟩;rw[if_pos rfl,ay,ay,HX.out];by_cases e:y=out
      ·rw[if_pos e,if_pos e]
      ·rw[if_neg e,if_neg e,DN.out,eJ];simpa using e
     ·have h2:=s7.out;exact .inr ((h.num af).later eV.out.on.bO)
   ·have Lg:=ae SN;have Nh:rs.length<=1000:=by omega
    have HNL:=ae (OW HNO.out HNT.out aeM.out);have HRS:=ae (DM af aeM.out);clear SN;generalize hN:rs.length=N at *;have HN:=ae hN;clear hN;by_cases aqf:ways<N
    ·have Fl:=ae (Ex.out wo mk VW.out af);have HNI:Hid (dC mk ∉ rs.map (·.1)):=ae (fun hx=>by
      obtain⟨p,hp,e⟩:=List.mem_map.1 hx;obtain⟨k,hk,e'⟩:=Lg.out p hp;have:=xf (e'.symm.trans e);omega)
     have uR:min (ways:Int) (N:Int)=(ways:Int):=Int.min_eq_left af;have Sl:=ae (Ij (k:=mk) af);unfold ptrTo at Fl;go_wp2_with fail;refine Fl.out.mono ?_;rintro e w3⟨rfl,Qk,yY⟩;have eH:Hid (Moved (fun x=>x=cb\/x=jb) n pb db w o d w3 o2 d2 L2):=ae (eV.out.turned (b:=jb) (eV.out.free SI VO.out) (.inl (.inr rfl)) yY);have Ge:Hid (bG w3 (.slice (some ⟨g,off,none⟩) N cap) (rs.map (·.1))):=ae (UQ.out.turn yY (fun b hb e=>by have:=(Fk.out b hb).2;omega));have HJ3:=ae Qk;have EM:=ae (SH.out w3 o2 d2 L2 (mk+1) rs ways (.slice (some ⟨g,off,none⟩) ways cap) (dC mk) eH.out Qk AY.out DN.out (by rw[List.map_take];exact Ge.out.take (by rw[List.length_map,HN.out];omega)) (fun b hb=>(Fk.out b hb).1) (by rw[HN.out];exact Nh) Sl.out (HNT.out mk) HNI.out);clear Qk yY Fl;unfold ptrTo at EM;generalize vJ:dC mk=nm at *;have aeN:=ae vJ;clear vJ;go_wp2_with fail;refine EM.out.mono ?_;rintro e w4⟨c4,d4,o4,L4,rfl,eX,CO,iz⟩;have gC:=ae (eH.out.trans eX (fun _ _ h=>h.elim));have SP:Hid (∀x,¬il out x->x≠nm/\x ∉ (rs.take ways).map (·.1)):=ae (fun x hx=>⟨fun e=>hx (.inr ⟨mk,af,e.trans aeN.out.symm⟩),fun e=>by
      obtain⟨p,hp,e'⟩:=List.mem_map.1 e;exact hx (HRS.out x (List.mem_map.2 ⟨p,List.mem_of_mem_take hp,e'⟩))⟩)
     by_cases uA:c4=0
     ·subst uA;have V6:=ae (AY.out.merge (q:=ways) HNI.out);have SQ:Hid (∀x,aB L4 x=aB (dL (merged by' rs ways nm) L) x):=ae (by
       rcases iz with⟨_,e⟩| e
       ·rw[e];exact AX AY.out HNI.out HNL.out DN.out
       ·exact absurd rfl e.ne)
      have KD:Hid (bG w4 (.slice (some ⟨g,off,none⟩) N cap) (rs.map (·.1))):=ae (Ge.out.kept (fun b hb=>eX.block (Ge.out.lt b hb) (Fk.out b hb).1 (fun h=>h)));have yo:Hid (o4 g=none/\w.heap.size<=g):=ae ⟨eX.free (Ge.out.lt g rfl) (Fk.out g rfl).1,(Fk.out g rfl).2⟩;have HJ4:Hid (cU w4 jb pb bf (mk+1) by'):=ae (HJ3.out.kept (eX.block HJ3.out.lt.1 (eH.out.free SI VO.out) (fun h=>h)) (eX.block HJ3.out.lt.2 (eH.out.free Wh Wa.out) (fun h=>h)));have HVD:Hid (∀ob,bG (w4.alloc ob) (.slice (some ⟨g,off+ways,none⟩) (N-ways) (cap-ways)) ((rs.map (·.1)).drop ways)):=ae (fun ob=>(KD.out.drop (by rw[List.length_map,HN.out];omega)).below (ak.alloc (Nat.le_refl _) ob));have HDL:Hid (((rs.map (·.1)).drop ways).length<=100000):=ae (by rw[List.length_drop,List.length_map,HN.out];omega);clear eX CO iz EM;go_wp2_with (at_builtin;refine iP rfl _ _ 91 rfl Tryz.underlying91 rfl (HVD.out _) nm ⟨w4.heap.size,0,none⟩ 1 rfl ai HDL.out ?_);intro v5 w5 J1;have RZ:Hid (kK n pb db jb bf cb by' w o d L out es (N-ways+1) v5 w5):=ae (by
       have Cb:(merged by' rs ways nm).length=N-ways+1:=by rw[CN,HN.out]
       refine kK.next (q:=ways) gC.out HJ4.out SI Wh rfl yo.out J1 uU.symm V6.out SQ.out (.inr ⟨by rw[Cb];omega,fun p hp=>?_⟩) (by rw[Cb];omega) Cb.symm;rcases List.mem_append.1 hp with hp | hp
       ·obtain⟨k,hk,e⟩:=Lg.out p (List.mem_of_mem_drop hp);exact⟨k,af,e⟩
       ·rw[List.mem_singleton.1 hp];exact⟨mk,Nat.lt_succ_self _,aeN.out.symm⟩)
      clear J1;go_wp2;go_roundg (N-ways+1)
      case measure=>have:=SM.out;omega
      case rel=>exact RZ.out
     ·have aj2:¬(c4:Int)=0:=by omega
      have Cs:Hid (jL d d4 (need L+8*es.length) c4):=ae (((iz.resolve_left (fun h=>uA h.1)).mono (by
       have h1:=s7.out;have h2:=pQ rs ways;have h3:=AY.out.len;omega)).later eH.out.on.bO)
      have OY:Hid (∀x,¬il out x->aB L4 x=aB L x):=ae (fun x hx=>by rw[CO x (SP.out x hx).1 (SP.out x hx).2,OX.out x hx]);clear uA eX CO iz EM;go_wp2;go_ret;exact⟨c4,d4,o4,L4,rfl,gC.out,OY.out,.inr Cs.out⟩
    ·have HNI:Hid (out ∉ rs.map (·.1)):=ae (fun hx=>by
      obtain⟨p,hp,e⟩:=List.mem_map.1 hx;obtain⟨k,hk,e'⟩:=Lg.out p hp;exact HTO.out k (e.symm.trans e'))
     have uR:min (ways:Int) (N:Int)=(N:Int):=Int.min_eq_right af;have EM:=ae (SH.out wo o2 d2 L2 mk rs N (.slice (some ⟨g,off,none⟩) N cap) out eV.out VW.out AY.out DN.out (by rw[List.map_take];exact UQ.out.take (by rw[List.length_map,HN.out];exact Nat.le_refl _)) (fun b hb=>(Fk.out b hb).1) (by rw[HN.out];exact Nh) aaz.out HNO.out HNI.out);unfold ptrTo at EM;have am6:¬(ways:Int)<(N:Int):=by omega
     go_wp2_with fail;refine EM.out.mono ?_;rintro e w4⟨c4,d4,o4,L4,rfl,eX,CO,iz⟩;have gC:=ae (eV.out.trans eX (fun _ _ h=>h.elim));have SP:Hid (∀x,¬il out x->x≠out/\x ∉ (rs.take N).map (·.1)):=ae (fun x hx=>⟨fun e=>hx (.inl e),fun e=>by
      obtain⟨p,hp,e'⟩:=List.mem_map.1 e;exact hx (HRS.out x (List.mem_map.2 ⟨p,List.mem_of_mem_take hp,e'⟩))⟩)
     by_cases uA:c4=0
     ·subst uA;have V6:=ae (AY.out.merge (q:=N) HNI.out);have SQ:Hid (∀x,aB L4 x=aB (dL (merged by' rs N out) L) x):=ae (by
       rcases iz with⟨_,e⟩| e
       ·rw[e];exact AX AY.out HNI.out HNL.out DN.out
       ·exact absurd rfl e.ne)
      have KD:Hid (bG w4 (.slice (some ⟨g,off,none⟩) N cap) (rs.map (·.1))):=ae (UQ.out.kept (fun b hb=>eX.block (UQ.out.lt b hb) (Fk.out b hb).1 (fun h=>h)));have yo:Hid (o4 g=none/\w.heap.size<=g):=ae ⟨eX.free (UQ.out.lt g rfl) (Fk.out g rfl).1,(Fk.out g rfl).2⟩;have HJ4:Hid (cU w4 jb pb bf mk by'):=ae (VW.out.kept (eX.block VW.out.lt.1 (eV.out.free SI VO.out) (fun h=>h)) (eX.block VW.out.lt.2 (eV.out.free Wh Wa.out) (fun h=>h)));have SR:merged by' rs N out=[(out,aC by' (ep (rs.take N)))]:=by
       unfold merged;rw[List.drop_of_length_le (by rw[HN.out];exact Nat.le_refl _),List.nil_append]
      have RZ:Hid (∀vd v5 w5 ob,vd.ownBlock=some g->lz (w4.alloc ob) vd [] out v5 w5->kK n pb db jb bf cb by' w o d L out es 1 v5 w5):=ae (fun vd v5 w5 ob hvd J1=>by
       refine kK.next (q:=N) gC.out HJ4.out SI Wh hvd yo.out J1 (by rw[SR];rfl) V6.out SQ.out (.inl ⟨_,SR⟩) (by rw[SR];simp only[List.length_singleton];omega) (by rw[SR];rfl))
      have HVD:Hid (∀ob,(cap=N->bG (w4.alloc ob) (.slice (some ⟨g,off,none⟩) 0 0) [])/\(N<cap->bG (w4.alloc ob) (.slice (some ⟨g,off+N,none⟩) 0 (cap-N)) [])):=ae (fun ob=>⟨fun e=>(KD.out.VK e.symm).below (ak.alloc (Nat.le_refl _) ob),fun e=>by
       have:=KD.out.drop (n:=N) (by rw[List.length_map,HN.out];exact Nat.le_refl _);rw[Nat.sub_self,List.drop_of_length_le (by rw[List.length_map,HN.out];exact Nat.le_refl _)]at this;exact this.below (ak.alloc (Nat.le_refl _) ob)⟩)
      clear eX CO iz EM SR;by_cases hcN:cap=N
      ·have HCN:=ae hcN;subst hcN;have HV0:Hid (∀ob,bG (w4.alloc ob) (.slice (some ⟨g,off,none⟩) 0 0) []):=ae (fun ob=>(HVD.out ob).1 rfl);go_wp2_with (at_builtin;refine iP rfl _ _ 91 rfl Tryz.underlying91 rfl (HV0.out _) out ⟨w4.heap.size,0,none⟩ 1 rfl ai ai ?_);intro v5 w5 J1;have HNY:=ae (RZ.out _ v5 w5 _ rfl J1);clear J1;go_wp2;go_roundg 1
       case measure=>have:=SM.out;omega
       case rel=>exact HNY.out
      ·have aj5:N<cap:=by omega
       go_wp2_with (at_builtin;refine iP rfl _ _ 91 rfl Tryz.underlying91 rfl ((HVD.out _).2 aj5) out ⟨w4.heap.size,0,none⟩ 1 rfl ai ai ?_);intro v5 w5 J1;have HNY:=ae (RZ.out _ v5 w5 _ rfl J1);clear J1;go_wp2;go_roundg 1
       case measure=>have:=SM.out;omega
       case rel=>exact HNY.out
     ·have aj2:¬(c4:Int)=0:=by omega
      have Cs:Hid (jL d d4 (need L+8*es.length) c4):=ae (((iz.resolve_left (fun h=>uA h.1)).mono (by
       have h1:=s7.out;have h2:=pQ rs N;have h3:=AY.out.len;omega)).later eV.out.on.bO)
      have OY:Hid (∀x,¬il out x->aB L4 x=aB L x):=ae (fun x hx=>by rw[CO x (SP.out x hx).1 (SP.out x hx).2,OX.out x hx]);clear uA eX CO iz EM;go_wp2;go_ret;exact⟨c4,d4,o4,L4,rfl,gC.out,OY.out,.inr Cs.out⟩
 ·have zS:¬(c1:Int)=0:=by have:=tM.ne;omega
  have Dx:=ae tM;clear tM ej aaA;go_wp2;go_ret;exact⟨c1,d1,o1,L1,rfl,e9.out,aeJ.out,.inr Dx.out⟩
end
end
end Go.Proofs.YthkkgdpomhhjjaaGreatDoor
