/-
  Joined.
-/
import Derived.Test.YthkkgdpomhhjjaaGreatDoorC07
set_option maxRecDepth 100000
set_option maxHeartbeats 32000000
namespace Go.Proofs.YthkkgdpomhhjjaaGreatDoor
open Go.Proofs.Tryz
section
open Go.RowKit Go.Maps Go.MapKept
section
variable {S:Nat->Prop} {w w':World} {pb db n cb kb sb jb bf made:Nat} {by':Bool} {name:Name} {o o':ar} {d d':Dsk} {L L':aC}
theorem jr(h:aP w pb db n o d L):Calls prog 44 #[ptrTo pb] w fun e w'=>e=.returned (.int .i64 (n:Int))/\w=w':=by
 obtain⟨fb,mb,l,hand,mf,hp,rfl,-⟩:=h;obtain⟨⟨-,hc1,-⟩,-⟩:=hp.head.cells;have hm:=hp.most;clear hp;unfold ptrTo;generalize l.length=n at *;go_enter func44,ntmps44;go_wp2;go_ret;exact⟨rfl,rfl⟩
theorem aB.Vi(hst:aB w sb pb name 20)(hm:aw S n pb db w o d w' o' d' L')(ho:o sb=none)(hs:¬S sb):aB w' sb pb name 20:=hst.moved hm ho hs
def pw(w:World)(cb N:Nat):Nat:=N-(intOf ((w.cell? ⟨cb,1,none⟩).getD undef)).toNat
theorem pz{i N:Nat}{x:aF}(h:bC w cb sb i N x):pw w cb N=N-i:=by
 unfold pw;rw[h.cells.1.2.1];simp[intOf]
def wh(many:Bool)(out:Name)(r:Nat):Name:=if many then dw r else out
structure mN(n pb db jb bf cb sb:Nat)(by':Bool)(w:World)(o:ar)(d:Dsk)(N made p:Nat)(v:Value)(nm:List Name)(l:Value)(c:List aF)(W:World)(o':ar)(d':Dsk)(L':aC):Prop where
 mv:aw (fun x=>x=cb\/x=jb) n pb db w o d W o' d' L'
 Es:cT W jb pb bf made by'
 src:∃x,bC W cb sb p N x
 row:W.ownsRow w.heap.size 9 1 v nm.length (nm.map Value.string)
 rf:∀x,v.ownBlock=some x->o' x=none
 ed:aI W w.heap.size l c
 ef:∀x,l.ownBlock=some x->o' x=none
 old:(jb<w.heap.size/\o jb=none)/\(bf<w.heap.size/\o bf=none)/\cb<w.heap.size/\o cb=none
theorem mN.step{N made p:Nat}{v l:Value}{nm:List Name}{c:List aF}{W W':World}{gL:ar}{gw:Dsk}(h:mN n pb db jb bf cb sb by' w o d N made p v nm l c W o' d' L'){T:Nat->Prop}{xJ:aC}(_hm:aw (fun x=>x=cb\/x=jb) n pb db w o d W' gL gw xJ)(ho:∀x,x<W.heap.size->o' x=none->gL x=none)(hh:∀x,x<W.heap.size->o' x=none->¬T x->W'.heap[x]? = W.heap[x]?) :
 (¬T jb->¬T bf->cT W' jb pb bf made by')/\(¬T cb->∃x,bC W' cb sb p N x)/\((∀x,v.ownBlock=some x->¬T x)->W'.ownsRow w.heap.size 9 1 v nm.length (nm.map Value.string)/\∀x,v.ownBlock=some x->gL x=none)/\((∀x,l.ownBlock=some x->¬T x)->aI W' w.heap.size l c/\∀x,l.ownBlock=some x->gL x=none):=by
 obtain⟨⟨j1,j2⟩,⟨b1,b2⟩,c1,c2⟩:=h.old;have hz:=h.mv.size;refine⟨fun t1 t2=>h.Es.kept (hh _ ae (h.mv.free j1 j2) t1) (hh _ ae (h.mv.free b1 b2) t2),fun t=>?_,fun t=>⟨bI h.row fun x hx=>hh x (aL h.row x hx).1 (h.rf x hx) (t x hx),fun x hx=>ho x (aL h.row x hx).1 (h.rf x hx)⟩,fun t=>⟨bI h.ed fun x hx=>hh x (aL h.ed x hx).1 (h.ef x hx) (t x hx),fun x hx=>ho x (aL h.ed x hx).1 (h.ef x hx)⟩⟩;obtain⟨x,hx⟩:=h.src;exact⟨x,hx.kept (hh _ ae (h.mv.free c1 c2) t)⟩
structure pA(by':Bool)(out:Name)(es:List aF)(most:Nat)(many:Bool)(rs:List tx)(i:Nat):Prop where
 nm:rs.map (·.1)=(List.range rs.length).map (wh many out)
 at':i=min es.length (rs.length*most)
 each:∀p∈rs,aK by' p.2=p.2
 all:aK by' (dZ rs)=aK by' (es.take i)
 len:lens rs<=i
 one:many=false->rs.length<=1
 pos:0<rs.length->0<es.length
 top:rs.length<=51
def Hd(n pb db jb bf cb sb:Nat)(by':Bool)(w:World)(o:ar)(d:Dsk)(L:aC)(out:Name)(es:List aF)(most:Nat)(many:Bool)(v:Value)(wr:World):Prop:=
 ∃rs i o' d',pA by' out es most many rs i/\mN n pb db jb bf cb sb by' w o d es.length (if many=true then rs.length else 0) i v (rs.map (·.1)) (.slice none 0 0) [] wr o' d' (dL rs L)
def qG(n pb db jb bf cb:Nat)(by':Bool)(w:World)(o:ar)(d:Dsk)(L:aC)(out:Name)(es:List aF)(e:Ending)(w':World):Prop:=
 ∃v c d' o' L',e=.returned (.tuple #[v,.int .i64 ((c:Nat):Int)])/\aw (fun x=>x=cb\/x=jb) n pb db w o d w' o' d' L'/\(∀x,¬gT out x->aA L' x=aA L x) /\
  ((c=0/\∃rs r,L'=dL rs L/\nH by' es rs/\((∃x,rs=[(out,x)])\/(2<=rs.length/\48<es.length/\∀p∈rs,∃k,k<r/\p.1=dw k))/\r<=rs.length/\rs.length<=51/\cT w' jb pb bf r by'/\bH w' v (rs.map (·.1))/\∀b,v.ownBlock=some b->o' b=none/\w.heap.size<=b)\/jq d d' (need L+8*es.length) c)
theorem xU(many:Bool)(out:Name)(r:Nat)(h1:many=false->r<=1) :
 ((List.range r).map (wh many out)).Nodup/\(r<=51->∀x∈(List.range r).map (wh many out),gT out x):=by
 constructor
 ·cases many with
  |true=>exact List.pairwise_map.2 (List.nodup_range.imp (fun{a b}h e=>h (vZ e)))
  |false=>
    have:=h1 rfl;match r,this with
    |0,_=>exact List.Pairwise.nil
    |1,_=>exact List.pairwise_singleton _ _
 ·intro hr x hx;obtain⟨k,hk,rfl⟩:=List.mem_map.1 hx;rw[List.mem_range]at hk;cases many with
  |true=>exact .inr ⟨k,ae,rfl⟩
  |false=>exact .inl rfl
theorem Ks(many:Bool)(out:Name)(r:Nat)(h1:many=false->r=0):wh many out r ∉ (List.range r).map (wh many out):=by
 intro hx;obtain⟨k,hk,e⟩:=List.mem_map.1 hx;rw[List.mem_range]at hk;cases many with
 |true=>have:=vZ e;omega
 |false=>have:=h1 rfl;omega
theorem pA.fin{by':Bool}{out:Name}{es:List aF}{X M:Nat}{many:Bool}{rs:List tx}{i:Nat}(h:pA by' out es X many rs i)(hX:X=min es.length M)(h48:48<=M)(hm:many=true↔M<es.length)(hi:i=es.length)(h0:0<es.length) :
 nH by' es rs/\((∃x,rs=[(out,x)])\/(2<=rs.length/\48<es.length/\∀p∈rs,∃k,k<(if many=true then rs.length else 0)/\p.1=dw k)):=by
 have hl:=h.at';refine⟨⟨h.each,by rw[h.all,List.take_of_length_le ae],by have:=h.len;omega,by rw[h.nm];exact(xU many out _ h.one).1⟩,?_⟩;cases many with
 |true=>
   have hM:=hm.1 rfl;obtain rfl:X=M:=by omega
   refine .inr ⟨?_,ae,fun p hp=>?_⟩
   ·rcases Nat.lt_or_ge rs.length 2 with g | g
    ·have g2:rs.length=0\/rs.length=1:=by omega
     rcases g2 with g2 | g2<;>rw[g2]at hl<;>omega
    ·exact g
   ·have h4:=List.mem_map_of_mem (f:=(·.1)) hp;rw[h.nm]at h4;obtain⟨q,hq,e⟩:=List.mem_map.1 h4;exact⟨q,List.mem_range.1 hq,e.symm⟩
 |false=>
   match rs,h with
   | [],_=>simp at hl;omega
   | [p],h=>exact .inl ⟨p.2,by have e:=(List.cons.inj h.nm).1;rw[show out=p.1 from e.symm]⟩
   |_::_::_,h=>have:=h.one rfl;simp at this
theorem pA.next{by':Bool}{out:Name}{es:List aF}{X M:Nat}{many:Bool}{rs:List tx}{i k:Nat}(h:pA by' out es X many rs i)(hX:X=min es.length M)(h48:48<=M)(hN:es.length<=2400)(hm:many=true↔M<es.length)(hk:k=min X (es.length-i))(h0:0<k\/es.length=0) :
 rs.length<51/\(many=false->rs.length=0)/\(0<es.length->pA by' out es X many (rs++[(wh many out rs.length,aK by' ((es.drop i).take k))]) (i+k)):=by
 have hl:=h.at';have h1:many=false->rs.length=0:=fun e=>by
  have g1:=h.one e;have g2:=h.pos;have g3:¬M<es.length:=fun g=>by rw[hm.2 g]at e;cases e
  rcases Nat.eq_zero_or_pos rs.length with g | g
  ·exact g
  ·have g5:rs.length=1:=by omega
   have:=g2 g;rw[g5]at hl;omega
 have h51:rs.length<51:=by
  cases many with
  |false=>have:=h1 rfl;omega
  |true=>
    have g1:=hm.1 rfl;obtain rfl:X=M:=by omega
    have:=Nat.mul_le_mul_left rs.length h48;omega
 have e1:es.take (i+k)=es.take i++(es.drop i).take k:=by rw[List.take_add]
 refine⟨h51,h1,fun hp=>⟨?_,?_,fun p hp=>?_,?_,?_,fun e=>?_,fun _=>hp,by rw[List.length_append];exact h51⟩⟩
 ·rw[List.map_append,h.nm,List.length_append,List.length_singleton,List.range_succ,List.map_append];rfl
 ·rw[List.length_append,List.length_singleton,Nat.add_mul,Nat.one_mul];generalize rs.length*X=P at *;omega
 ·rcases List.mem_append.1 hp with hp | hp
  ·exact h.each p hp
  ·rw[List.mem_singleton.1 hp];exact mL _ _
 ·rw[uu,e1,show dZ [(wh many out rs.length,aK by' ((es.drop i).take k))]=aK by' ((es.drop i).take k) by simp[dZ]];exact NY h.all (mL _ _)
 ·have h2:=b9 by' ((es.drop i).take k)
  rw[List.length_take]at h2;rw[xT,show lens [(wh many out rs.length,aK by' ((es.drop i).take k))]=(aK by' ((es.drop i).take k)).length by simp[lens]];have:=h.len;omega
 ·rw[List.length_append,h1 e];exact Nat.le_refl _
theorem He(HW:aQ){m:Nat}(HS:qC m)(h:aP w pb db n o d L)(hn:8<=n)(hj:cT w jb pb bf 0 by')(lC:o jb=none)(Cn:o bf=none)(hne:bf≠jb){es:List aF}{fl:Bool}{qH out:Name}{x0:aF}(hL:aA L qH=some (au es fl))(pn:bC w cb sb 0 es.length x0)(hst:aB w sb pb qH 20)(NK:o cb=none)(Vj:o sb=none)(hcj:cb≠jb)(hcb:cb≠bf)(hsj:sb≠jb)(hsc:sb≠cb)(hout:bM out=true)(hno:aA L out=none)(BD:∀k,aA L (dw k)=none)(_hto:∀k,out≠dw k)(hm:es.length<=m)(hN:es.length<=2400) :
 Calls prog 177 #[ptrTo jb,ptrTo cb,.string out] w (qG n pb db jb bf cb by' w o d L out es):=by
 have T6:n<=4096:=by
  obtain⟨fb,mb,l,hand,mf,hp,rfl,-⟩:=h;exact hp.most
 have rC:=aa (jr h);obtain⟨M,hM⟩:∃M:Nat,M=(n-4)*12:=⟨_,rfl⟩;obtain⟨N,YK⟩:∃N,N=es.length:=⟨_,rfl⟩;obtain⟨X,hX⟩:∃X,X=min N M:=⟨_,rfl⟩;obtain⟨many,hmy⟩:∃b,b=decide (M<N):=⟨_,rfl⟩;have HX:Hid (X=min N M/\48<=M/\N<=2400/\(many=true↔M<N)/\N=es.length):=aa ⟨hX,ae,ae,by rw[hmy,decide_eq_true_eq],YK⟩;have Hf:Hid (∀{made p v nm l c W o' d' rs},mN n pb db jb bf cb sb by' w o d N made p v nm l c W o' d' (dL rs L)->(∀x∈rs.map (·.1),gT out x)->∀x,es[p]? = some x->Calls prog 221 #[ptrTo cb] W (zZ n pb db W o' d' (dL rs L) cb sb p N x)):=aa (fun hs hrs x hx=>by
  obtain⟨_,hsx⟩:=hs.src;have hi:=aN hx;rw[List.getElem?_eq_getElem hi]at hx;obtain rfl:=Option.some.inj hx;rw[YK]at hsx ⊢;refine si HW hs.mv.aX (hst.Vi hs.mv Vj (fun e=>e.elim hsc hsj)) (hs.mv.free hst.lt Vj) hsx (hs.mv.free pn.lt NK) (fl:=fl) ?_ hi;rw[eH,hL];intro hx;rcases hrs _ hx with e |⟨k,_,e⟩
  ·rw[e,hno]at hL;cases hL
  ·rw[e,BD]at hL;cases hL)
 have RB:Hid (∀{made p v nm l c W o' d' rs}(out':Name),mN n pb db jb bf cb sb by' w o d N made p v nm l c W o' d' (dL rs L)->bM out'=true->aA (dL rs L) out'=none->c.length<=es.length ->
  Calls prog 222 #[ptrTo jb,.string out',l] W (G7 (fun x=>l.ownBlock=some x) n pb db W o' d' (dL rs L) out' (aK by' c) (need (dL rs L)+4*c.length))):=aa (fun out' hs fw Zd hc=>
  EB HW HS hs.mv.aX hs.Es (hs.mv.free hj.lt.1 lC) (hs.mv.free hj.lt.2 Cn) fw Zd hs.ed (fun x hx=>by have h1:=aG hs.ed x hx;have:=hj.lt;exact⟨hs.ef x hx,ae,ae⟩) ae ae)
 have EG:Hid (mN n pb db jb bf cb sb by' w o d N 0 0 (.slice none 0 0) [] (.slice none 0 0) [] w o d L):=aa ⟨aw.refl _ h,hj,by rw[YK];exact⟨_,pn⟩,World.ownsRow_nil w _ _ 1,fun x hx=>(by cases hx),World.ownsRow_nil w _ _ 4,fun x hx=>(by cases hx),⟨hj.lt.1,lC⟩,⟨hj.lt.2,Cn⟩,pn.lt,NK⟩;have rz:=aa (show bf≠jb/\cb≠jb/\cb≠bf from⟨hne,hcj,hcb⟩);have Gu:Hid (∀rs i,pA by' out es X many rs i->(∀x∈rs.map (·.1),gT out x)/\(∀x,¬gT out x->aA (dL rs L) x=aA L x)/\need (dL rs L)<=need L+4*i):=aa (fun rs i hr=>by
  have h1:∀x∈rs.map (·.1),gT out x:=by rw[hr.nm];exact(xU many out _ hr.one).2 hr.top
  refine⟨h1,fun x hx=>eH _ _ _ (fun hm=>hx (h1 x hm)),?_⟩;have:=sZ rs L;have:=hr.len;omega)
 have Xh:Hid (∀rs i,pA by' out es X many rs i->(many=false->rs.length=0)->rs.length<51->aA (dL rs L) (wh many out rs.length)=none/\bM (wh many out rs.length)=true/\gT out (wh many out rs.length)):=aa (fun rs i hr h1 h2=>by
  refine⟨?_,?_⟩
  ·rw[eH]
   ·cases many
    ·exact hno
    ·exact BD _
   ·rw[hr.nm];exact Ks many out _ h1
  ·cases many
   ·exact⟨hout,.inl rfl⟩
   ·exact⟨Hb ae,.inr ⟨_,ae,rfl⟩⟩)
 obtain⟨⟨-,-,hs2⟩,-⟩:=pn.cells;rw[<- YK]at hs2;obtain⟨TZ,-⟩:=hj.cells;have rN:IntKind.i64.wrap ((n:Int)-4)=(n:Int)-4:=ax ae ae;have hw2:IntKind.i64.wrap (((n:Int)-4)*12)=(M:Int):=by rw[ax]<;>omega
 clear h hj lC Cn hL pn hst NK Vj hsj hsc hout hno BD _hto hm hne hcj hcb hM hX hmy YK hN;unfold ptrTo at *;go_enter func177,ntmps177;go_wp2_with fail;refine rC.o.mono ?_;rintro e w'⟨rfl,rfl⟩;go_upto_if 27 with fail
 go_cut [8] from 22 to 31 (fun v wx=>v=.int .i64 (X:Int)/\w=wx)
 case first=>
  by_cases hNM:(N:Int)<=(M:Int)
  ·have hd:decide ((N:Int)<=(M:Int))=true:=decide_eq_true hNM;have hXN:(X:Int)=(N:Int):=by have:=HX.o;omega
   go_wp2;go_meet
   exact⟨by rw[hXN],rfl⟩
  ·have hd:decide ((N:Int)<=(M:Int))=false:=decide_eq_false hNM;have hXN:(X:Int)=(M:Int):=by have:=HX.o;omega
   go_wp2;go_meet
   exact⟨by rw[hXN],rfl⟩
 case rest=>
  obtain⟨rfl,rfl⟩:=hcut;clear rN hw2 hs2 rC TZ;go_wp2_with fail;go_loopw [9] (fun v wr=>Hd n pb db jb bf cb sb by' w o d L out es X many v wr) (fun _ wr=>pw wr cb N)
  case atStart=>exact⟨[],0,o,d,⟨rfl,ah,fun p hp=>(by cases hp),by simp[dZ],Nat.zero_le _,fun _=>Nat.zero_le _,fun g=>absurd g (Nat.lt_irrefl 0),Nat.zero_le _⟩,by rw[<- HX.o.2.2.2.2];cases many<;>exact EG.o⟩
  case round=>
   generalize u9=v at *;generalize wr=W1 at *;obtain⟨rs,i,o1,d1,hr,hs⟩:=hrel;rw[<- HX.o.2.2.2.2]at hs;have HR:=aa hr;have iU:=aa hs;have NZ:Hid (pw W1 cb N=N-i/\i<=N):=aa ⟨by obtain⟨_,h⟩:=hs.src;exact pz h,by have:=hr.at';have:=HX.o.2.2.2.2;omega⟩;clear hr hs EG;generalize hjm:(if many=true then rs.length else 0)=jm at *;have HJM:=aa hjm;clear hjm;go_upto_block 2 with fail
   go_cut [10] from 32 to 53 (fun lv W=>∃(k:Nat)(la:Option Addr)(lc:Nat)(o':ar)(d':Dsk),lv=.slice la k lc/\k=min X (N-i)/\Hid (mN n pb db jb bf cb sb by' w o d N jm (i+k) v (rs.map (·.1)) (.slice la k lc) ((es.drop i).take k) W o' d' (dL rs L)))
   case first=>
    go_wp2_with fail;go_loopw [10] (fun lv W=>∃(k:Nat)(la:Option Addr)(lc:Nat)(o':ar)(d':Dsk),lv=.slice la k lc/\k<=X/\i+k<=N/\Hid (mN n pb db jb bf cb sb by' w o d N jm (i+k) v (rs.map (·.1)) (.slice la k lc) ((es.drop i).take k) W o' d' (dL rs L))) (fun _ W=>pw W cb N)
    case atStart=>exact⟨0,none,0,o1,d1,rfl,Nat.zero_le _,NZ.o.2,iU⟩
    case round=>
     generalize wr=W2 at *;obtain⟨k,la,lc,o2,d2,rfl,hk,hik,eM⟩:=hrel;have eu:Hid (pw W2 cb N=N-(i+k)):=aa (by obtain⟨_,h⟩:=eM.out.src;exact pz h);clear iU;by_cases hlt:k<X
     ·by_cases p9:i+k<N
      ·have PH:i+k<es.length:=by have:=HX.o;omega
       obtain⟨y,hy⟩:∃y,es[i+k]? = some y:=⟨_,List.getElem?_eq_getElem PH⟩;have oT:Hid ((es.drop i).take k++[y]=(es.drop i).take (k+1)/\((es.drop i).take k).length=k):=aa ⟨(by
        rw[List.take_add_one,List.getElem?_drop,hy];rfl),by rw[List.length_take,List.length_drop];omega⟩
       have aM:=aa (Hf.o eM.out (Gu.o _ _ HR.o).1 y hy);clear PH hy;unfold ptrTo at aM;go_wp2_with fail;refine aM.o.mono ?_;rintro e W3⟨c3,d3,o3,rfl,eA,Dc,hs3⟩;have eF:=aa (eM.out.mv.trans eA (fun x _ e=>.inl e));obtain⟨PE,-,hv3,NN⟩:=eM.out.step (T:=(·=cb)) eF.o (fun x h1 h2=>eA.free h1 h2) (fun x h1 h2 h3=>eA.block h1 h2 h3);have Ze:=aa (PE (fun e=>rz.o.2.1 e.symm) (fun e=>rz.o.2.2 e.symm));have FE:=aa (hv3 (fun x hx e=>by have:=aG eM.out.row x hx;have:=eM.out.old;omega));have RD:=aa (NN (fun x hx e=>by have:=aG eM.out.ed x hx;have:=eM.out.old;omega));have mB:=aa eM.out.old;have HQU:=aa eM.out.mv.on.bD;have B8:=aa Dc;have Jp:=aa hs3;have hz3:w.heap.size<=W3.heap.size:=eF.o.size;clear eA Dc hs3 PE hv3 NN aM eM;by_cases hc3:c3=0
       ·subst hc3;have Bv:=aa (Jp.o rfl);obtain⟨-,⟨k0,k1,k2,k3⟩,-⟩:=Bv.o.cells;go_wp2_with (at_builtin;refine cR rfl _ _ rfl w.heap.size _ _ rfl RD.o.1 y 1 rfl (by rw[oT.o.2];have:=HX.o;omega) hz3 ?_);intro l4 W4 hl4 Kt;obtain⟨eC,N0,Pp,uT⟩:=Kt.moved eF.o (fun x hx=>⟨RD.o.2 x hx,aG RD.o.1 x hx⟩);rw[oT.o.1]at hl4;obtain⟨a4,c4,rfl⟩:=az hl4;have hlen:((es.drop i).take (k+1)).length=k+1:=by rw[<- oT.o.1,List.length_append,oT.o.2];rfl
        rw[hlen]at hl4 N0 ⊢;have h3:mN n pb db jb bf cb sb by' w o d N jm (i+k+1) v (rs.map (·.1)) (.slice la k lc) ((es.drop i).take k) W3 o3 d3 (dL rs L):=⟨eF.o,Ze.o,⟨_,Bv.o⟩,FE.o.1,FE.o.2,RD.o.1,RD.o.2,mB.o⟩
        obtain⟨hj5,hs5,T7,-⟩:=h3.step (T:=fun x=>(Value.slice la k lc).ownBlock=some x) eC (fun _ _ e=>e) (fun x h1 _ h3=>Pp x h1 h3);have hb:=fun x hx=>aG RD.o.1 x hx;have hold:=mB.o;have b8:Hid (mN n pb db jb bf cb sb by' w o d N jm (i+(k+1)) v (rs.map (·.1)) (.slice a4 (k+1) c4) ((es.drop i).take (k+1)) W4 o3 d3 (dL rs L)):=aa ⟨eC,hj5 (fun e=>by have:=hb _ e;omega) (fun e=>by have:=hb _ e;omega),hs5 (fun e=>by have:=hb _ e;omega),(T7 (fun x hx e=>j8 FE.o.1 RD.o.1 af x hx e)).1,FE.o.2,hl4,fun x hx=>(N0 x hx).1,hold⟩;clear eC N0 Pp Kt hl4 k0 k1 k2 k3 h3 hj5 hs5 T7 hb hold hlen;go_wp2;go_roundw
        case rel=>exact⟨k+1,a4,c4,o3,d3,rfl,ae,ae,b8⟩
        case measure=>obtain⟨_,h⟩:=b8.o.src;rw[eu.o,pz h];omega
       ·have Ka:¬(c3:Int)=0:=by omega
        have WK:(c3 == 0)=false:=by simpa using hc3
        have HQ:Hid (qG n pb db jb bf cb by' w o d L out es (.returned (.tuple #[v,.int .i64 (c3:Int)])) W3):=aa (by
         obtain⟨-,g2,g3⟩:=Gu.o _ _ HR.o;have:=HR.o.top;have:=HR.o.pos;have hx:=HX.o;exact⟨_,c3,d3,o3,_,rfl,eF.o,g2,.inr (((B8.o.resolve_left hc3).num ae).later HQU.o)⟩)
        clear hc3;go_wp2;go_ret2;exact HQ.o
      ·obtain⟨x2,hx2⟩:=eM.out.src;have hend:=aa (lU hx2 ae);unfold ptrTo at hend;clear hx2;go_wp2_with fail;refine hend.o.mono ?_;rintro e W5⟨rfl,q5,rfl⟩;have b8:Hid (mN n pb db jb bf cb sb by' w o d N jm (i+k) v (rs.map (·.1)) (.slice la k lc) ((es.drop i).take k) (W2.drewN q5) o2 d2 (dL rs L)):=aa (by
        have h:=eM.out;obtain⟨_,hx⟩:=h.src;exact⟨h.mv.drewN q5,h.Es.below (below_drewN aj _),⟨_,hx.below (below_drewN aj _)⟩,h.row,h.rf,h.ed,h.ef,h.old⟩)
       clear hend eM;go_wp2;go_meet
       exact⟨k,la,lc,o2,d2,rfl,ae,b8⟩
     ·have aoB:¬((k:Int)<(X:Int)):=by omega
      go_wp2;go_meet
      exact⟨k,la,lc,o2,d2,rfl,ae,eM⟩
   case rest=>
    obtain⟨k,la,lc,o2,d2,rfl,hk,eM⟩:=hcut;generalize wc=W2 at *;obtain⟨x2,hx2⟩:=eM.out.src;obtain⟨⟨-,-,c2⟩,-⟩:=hx2.cells;have HK:=aa hk;clear hx2 iU Hf;by_cases hK0:k=0/\0<N
    ·obtain⟨rfl,Qc⟩:=hK0;have aoC:(N:Int)>0:=by omega
     have HQ:Hid (qG n pb db jb bf cb by' w o d L out es (.returned (.tuple #[v,.int .i64 0])) W2):=aa (by
      have hx:=HX.o;have BI:=NZ.o;have hl:=HK.o;obtain⟨g1,g2⟩:=HR.o.fin (M:=M) (by rw[<- hx.2.2.2.2];exact hx.1) hx.2.1 (by rw[<- hx.2.2.2.2];exact hx.2.2.2.1) ae ae;rw[HJM.o]at g2;have hs:=eM.out;refine⟨v,0,d2,o2,_,rfl,hs.mv,(Gu.o _ _ HR.o).2.1,.inl ⟨rfl,rs,jm,rfl,g1,g2,by rw[<- HJM.o];split<;>omega,HR.o.top,hs.Es,bH.Df hs.row (fun e=>?_),fun b hb=>⟨hs.rf b hb,aG hs.row b hb⟩⟩⟩;have e0:rs.length=0:=by simpa using congrArg List.length e
      rcases g2 with⟨x,g⟩|⟨g,_⟩
      ·rw[g]at e0;cases e0
      ·omega)
     clear hk;go_wp2;go_ret2;exact HQ.o
    ·have Ps:Hid (rs.length<51/\(many=false->rs.length=0)/\(0<es.length->pA by' out es X many (rs++[(wh many out rs.length,aK by' ((es.drop i).take k))]) (i+k))):=aa (by
      obtain⟨x1,x2,x3,x4,x5⟩:=HX.o;rw[x5]at x1 x3 x4 hk hK0;exact HR.o.next x1 x2 x3 x4 hk ae)
     have Jt:0<k\/N=0:=by omega
     have HF:=aa (Xh.o _ _ HR.o Ps.o.2.1 Ps.o.1);obtain⟨NM,hNM⟩:∃y,y=wh many out rs.length:=⟨_,rfl⟩;rw[<- hNM]at HF Ps;have RF:=aa hNM;clear hNM hk;go_upto_region 12 with fail
     go_cut [63] from 54 to 62 (fun b W=>b=.bool false/\W2=W)
     case first=>
      by_cases FI:k=0
      ·have hN0:decide (0<N)=false:=decide_eq_false ae;have hkb:((k:Int) == 0)=true:=by simp[FI]
       clear Jt hK0 FI;go_wp2;go_meet
       exact⟨rfl,rfl⟩
      ·have hkb:((k:Int) == 0)=false:=by simp[FI]
       clear Jt hK0 FI;go_wp2;go_meet
       exact⟨rfl,rfl⟩
     case rest=>
     obtain⟨rfl,rfl⟩:=hcut;go_upto_if 71 with fail
     go_cut [13] from 66 to 73 (fun nv W=>nv=.string NM/\Hid (mN n pb db jb bf cb sb by' w o d N (if many=true then rs.length+1 else 0) (i+k) v (rs.map (·.1)) (.slice la k lc) ((es.drop i).take k) W o2 d2 (dL rs L)))
     case first=>
      cases UL:many
      ·have yS:¬(N:Int)>(X:Int):=by have:=HX.o;rw[UL]at this;simp at this;omega
       have kC:Hid (NM=out/\jm=0):=aa (by rw[RF.o,<- HJM.o,UL];exact⟨rfl,rfl⟩);have Xi:=aa UL;clear UL;go_wp2;go_meet
       exact⟨by rw[kC.o.1],by rw[kC.o.2]at eM;rw[Xi.o];exact eM⟩
      ·have yS:(N:Int)>(X:Int):=by have:=HX.o;rw[UL]at this;simp at this;omega
       have kC:Hid (NM=dw rs.length/\jm=rs.length):=aa (by rw[RF.o,<- HJM.o,UL];exact⟨rfl,rfl⟩);have Xi:=aa UL;clear UL;have aM:=aa (Dg eM.out.Es (by rw[kC.o.2];have:=Ps.o.1;omega) rz.o.1);unfold ptrTo at aM;go_wp2_with fail;refine aM.o.mono ?_;rintro e W6⟨rfl,hj6,UE⟩;have gu:Hid (mN n pb db jb bf cb sb by' w o d N (rs.length+1) (i+k) v (rs.map (·.1)) (.slice la k lc) ((es.drop i).take k) W6 o2 d2 (dL rs L)):=aa (by
        have h:=eM.out;have hm:=h.mv.turned (h.mv.free h.old.1.1 h.old.1.2) (.inl (.inr rfl)) UE;obtain⟨-,g2,g3,g4⟩:=h.step (T:=(·=jb)) hm (fun _ _ e=>e) (fun x h1 _ h3=>UE.block x h1 h3);have hold:=h.old;have g5:=g3 (fun x hx e=>by have:=aG h.row x hx;omega);have g6:=g4 (fun x hx e=>by have:=aG h.ed x hx;omega);rw[kC.o.2]at hj6;exact⟨hm,hj6,g2 rz.o.2.1,g5.1,g5.2,g6.1,g6.2,h.old⟩)
       rw[kC.o.2,<- kC.o.1];clear hj6 UE aM;go_wp2;go_meet
       exact⟨rfl,by rw[Xi.o];exact gu⟩
     case rest=>
      obtain⟨rfl,gu⟩:=hcut;generalize wc=W6 at *;clear eM c2;generalize hcc:(es.drop i).take k=C at *;have HCL:Hid (C.length<=es.length/\C.length<=k):=aa ⟨by rw[<- hcc,List.length_take,List.length_drop];omega,by rw[<- hcc,List.length_take];omega⟩;clear hcc;have WS:(rs.map (·.1)).length<=100000:=by rw[List.length_map];have:=Ps.o.1;omega
      have WC:w.heap.size<=W6.heap.size:=gu.o.mv.size;go_wp2_with (at_builtin;refine uw rfl _ _ rfl w.heap.size _ _ rfl gu.o.row NM 1 rfl WS WC ?_);intro v7 W7 hv7 Xj;have jR:Hid (mN n pb db jb bf cb sb by' w o d N (if many=true then rs.length+1 else 0) (i+k) v7 (rs.map (·.1)++[NM]) (.slice la k lc) C W7 o2 d2 (dL rs L)):=aa (by
       have h:=gu.o;obtain⟨rD,aio,hh7,hz7⟩:=Xj.moved h.mv (fun x hx=>⟨h.rf x hx,aG h.row x hx⟩);obtain⟨g1,g2,-,g4⟩:=h.step (T:=fun x=>v.ownBlock=some x) rD (fun _ _ e=>e) (fun x h1 _ h3=>hh7 x h1 h3);have hb:=fun x hx=>aG h.row x hx;have hold:=h.old;have g5:=g4 (fun x hx e=>j8 h.ed h.row af x hx e);exact⟨rD,g1 (fun e=>by have:=hb _ e;omega) (fun e=>by have:=hb _ e;omega),g2 (fun e=>by have:=hb _ e;omega),by simpa using hv7,fun x hx=>(aio x hx).1,g5.1,g5.2,hold⟩)
      have aM:=aa (RB.o NM jR.o HF.o.2.1 HF.o.1 HCL.o.1);clear hv7 Xj WS WC gu RB;unfold ptrTo at aM;go_wp2_with fail;refine aM.o.mono ?_;rintro e W8⟨c8,d8,o8,L8,rfl,EH,hc8,ac1⟩;have rY:=aa (jR.o.mv.trans EH (fun x hx e=>by have:=aG jR.o.ed x e;omega));obtain⟨g1,g2,g3,-⟩:=jR.o.step (T:=fun x=>(Value.slice la k lc).ownBlock=some x) rY.o (fun x h1 h2=>EH.free h1 h2) (fun x h1 h2 h3=>EH.block h1 h2 h3);have hb:=fun x hx=>aG jR.o.ed x hx;have hold:=jR.o.old;have HJ8:=aa (g1 (fun e=>by have:=hb _ e;omega) (fun e=>by have:=hb _ e;omega));have HC8:=aa (g2 (fun e=>by have:=hb _ e;omega));have Xk:=aa (g3 (fun x hx e=>j8 jR.o.row jR.o.ed af x hx e));have HO8:=aa hold;have HE8:=aa hc8;have HT8:=aa ac1;clear EH hc8 ac1 aM g1 g2 g3 hb hold;by_cases hc:c8=0
      ·subst hc;obtain⟨x8,hx8⟩:=HC8.o;obtain⟨⟨-,-,c2⟩,-⟩:=hx8.cells;clear hx8;have hL8:L8=dL (rs++[(NM,aK by' C)]) L:=by
        rcases HE8.o with⟨_,e⟩| e
        ·rw[Ak];exact e
        ·exact absurd rfl e.ne
       rw[hL8]at rY;clear hL8;have lB:(if many=true then rs.length+1 else 0)=if many=true then (rs++[(NM,aK by' C)]).length else 0:=by rw[List.length_append];rfl
       rw[lB]at HJ8;clear lB;have BI:rs.map (·.1)++[NM]=(rs++[(NM,aK by' C)]).map (·.1):=by rw[List.map_append];rfl
       rw[BI]at Xk;clear BI;by_cases hN0:N=0
       ·have aoD:(N:Int)=0:=by omega
        have HQ:Hid (qG n pb db jb bf cb by' w o d L out es (.returned (.tuple #[v7,.int .i64 0])) W8):=aa (by
         have hx:=HX.o;have Yb:many=false:=by cases h:many;rfl;rw[h]at hx;simp at hx;omega
         have jE:rs=[]:=List.eq_nil_of_length_eq_zero (Ps.o.2.1 Yb);have hC:C=[]:=List.eq_nil_of_length_eq_zero (by have:=HCL.o;omega);have hes:es=[]:=List.eq_nil_of_length_eq_zero ae;have uZ:NM=out:=by rw[RF.o,Yb];rfl
         subst jE hC hes uZ Yb;have hb0:aK by' []=[]:=List.eq_nil_of_length_eq_zero (by simpa using b9 by' [])
         refine⟨v7,0,d8,o8,_,rfl,rY.o,fun x hx=>eH _ _ _ (fun mo=>hx ?_),.inl ⟨rfl,_,0,rfl,⟨by simp[hb0],by simp[dZ,hb0],by simp[lens,hb0],ah⟩,.inl ⟨_,rfl⟩,Nat.zero_le _,ah,HJ8.o,bH.Df Xk.o.1 ah,fun b hb=>⟨Xk.o.2 b hb,aG Xk.o.1 b hb⟩⟩⟩;rw[List.mem_singleton.1 mo];exact HF.o.2.2)
        clear hN0;go_wp2;go_ret2;exact HQ.o
       ·have aoE:¬(N:Int)=0:=by omega
        have Pr:0<k:=by omega
        have HH:Hid (Hd n pb db jb bf cb sb by' w o d L out es X many v7 W8/\pw W8 cb N=N-(i+k)):=aa ⟨⟨_,i+k,o8,d8,Ps.o.2.2 (by have:=HX.o;omega),by rw[<- HX.o.2.2.2.2];exact⟨rY.o,HJ8.o,HC8.o,Xk.o.1,Xk.o.2,World.ownsRow_nil _ _ _ 4,fun x hx=>(by cases hx),HO8.o⟩⟩,by obtain⟨_,h⟩:=HC8.o;exact pz h⟩;have HKL:=aa (show i+k<=N/\0<k by have:=HK.o;have:=NZ.o;omega);go_wp2;go_roundw
        case rel=>exact HH.o.1
        case measure=>rw[NZ.o.1,HH.o.2];have:=HKL.o;omega
      ·have hc':¬(c8:Int)=0:=by omega
       have HQ:Hid (qG n pb db jb bf cb by' w o d L out es (.returned (.tuple #[v7,.int .i64 (c8:Int)])) W8):=aa (by
        obtain⟨-,g2,g3⟩:=Gu.o _ _ HR.o;have h1:=HCL.o;have h2:=HR.o.pos;have h3:=HR.o.len;have h4:=HK.o;have h5:=NZ.o;have h6:=sZ rs L;have h7:=HX.o;refine⟨_,c8,d8,o8,_,rfl,rY.o,fun x hx=>by rw[HT8.o x (fun e=>hx (e▸HF.o.2.2)),g2 x hx],.inr ?_⟩;rcases HE8.o with⟨e,_⟩| e
        ·exact absurd e hc
        ·exact(e.mono ae).later jR.o.mv.on.bD)
       clear hc;go_wp2;go_ret2;exact HQ.o
end
end
section
open Go.RowKit Go.Maps Go.MapKept
section
variable {w w':World} {pb db n cb kb sb jb bf made:Nat} {by':Bool} {name:Name} {o o':ar} {d d':Dsk} {L L':aC}
def oC(S:Nat->Prop)(n pb db:Nat)(w:World)(o:ar)(d:Dsk)(L:aC)(out:Name)(Zf:List aF)(N:Nat)(e:Ending)(w':World):Prop:=
 ∃c d' o' L',e=.returned (.int .i64 ((c:Nat):Int))/\aw S n pb db w o d w' o' d' L'/\(∀x,¬gT out x->aA L' x=aA L x)/\((c=0/\∀x,aA L' x=aA (aS L out (au Zf true)) x)\/jq d d' (need L+8*N) c)
def dX(m:Nat):Prop:=∀{w:World}{pb db n cb sb jb bf:Nat}{by':Bool}{o:ar}{d:Dsk}{L:aC},aP w pb db n o d L->8<=n->cT w jb pb bf 0 by'->o jb=none->o bf=none->bf≠jb ->
 ∀{es:List aF}{fl:Bool}{qH out:Name}{x0:aF},aA L qH=some (au es fl)->bC w cb sb 0 es.length x0->aB w sb pb qH 20->o cb=none->o sb=none->cb≠jb->cb≠bf->sb≠jb->sb≠cb ->
 bM out=true->aA L out=none->(∀k,aA L (dw k)=none)->(∀k,out≠dw k)->es.length<=m ->
 Calls prog 117 #[ptrTo jb,ptrTo cb,.string out] w (oC (fun x=>x=cb\/x=jb) n pb db w o d L out (aK by' es) es.length)
theorem pB(HW:aQ)(h:aP w pb db n o d L){ps:List Pg}{fl:Bool}(hL:aA L name=some (.inl (ps,fl))) :
 Calls prog 79 #[ptrTo pb,.string name] w (jk (fun _=>False) n pb db w o d L (aS L name (.inl (ps,true)))):=
 (NF HW h hL).mono fun _ _ ⟨c,d',o',he,hp,ht,hg,yl,hc⟩=>⟨c,d',o',he,jh hp ht hg yl,hc⟩
end
end
section
open Go.RowKit Go.Maps Go.MapKept Go.Sort
def N1:Option Nat->Value
 |none=>.pointer none
 |some b=>ptrTo b
def gU(w:World)(g:Nat)(mO:List Nat):Prop:=Holds N1 w g 0 (mO.map some).toArray
theorem ux:(prog.info? 206).map (fun i=>(i.zero,i.size,i.bytes))=some (some (.pointer none),1,8):=by kernel_rfl
section
variable {w w':World} {g cap:Nat} {mO:List Nat}
theorem uy{α:Type}[Inhabited α](enc:α->Value)(w:World)(blk off:Nat)(d:Array α){x:Nat}(hx:x≠blk):(putRow enc w blk off d).heap[x]? = w.heap[x]? := by
 grind [putRow,mapBlock]
theorem Hg{α:Type}[Inhabited α](enc:α->Value)(w:World)(q blk off:Nat)(d:Array α):aH (·=blk) w (putRow enc (Sort.ahead w q) blk off d):=
 ⟨rfl,rfl,rfl,ah,fun x _ hn=>uy enc (Sort.ahead w q) blk off d hn⟩
theorem gU.cell(h:gU w g mO){k:Nat}(hk:k<mO.length):w.cell? ⟨g,k,none⟩=some (ptrTo mO[k]):=by
 have:=(h k (by grind)).1;grind [N1]
theorem gU.kept(h:gU w g mO)(hb:w'.heap[g]? = w.heap[g]?):gU w' g mO:=by
 intro j hj;obtain⟨h1,h2⟩:=h j hj;grind [World.cell?,World.frozen?]
theorem gU.Df{base:Nat}(hr:w.ownsRow base 206 1 (.slice (some ⟨g,0,none⟩) mO.length cap) mO.length (mO.map ptrTo)):gU w g mO/\mO.length<=cap/\cap<=maxLen/\base<=g:=by
 obtain⟨hl,⟨h1,h2⟩|⟨g',cap',cur,he,hg,hh,hc,hm,hs,ht⟩⟩:=hr
 ·cases h1
 ·cases he;refine⟨fun j hj=>?_,hc,hm,hg⟩;have hj':j<mO.length:=by grind
  rw[Nat.zero_add];refine⟨?_,aO hh _⟩;rw[aq hh,getElem!_pos _ j hj];have h3:(cur.toList.take (mO.length*1))[j]? = (mO.map ptrTo)[j]? := by rw[ht]
  grind [N1]
theorem Ku(h:gU w g mO)(hc:mO.length<=cap)(hm:cap<=maxLen){k:Nat}(hk:k<mO.length) :
 Calls prog 226 #[.slice (some ⟨g,0,none⟩) mO.length cap,.int .i64 (k:Int),.int .i64 ((k+1:Nat):Int)] w fun e w'=>
  e=.returned (.slice (some ⟨g,0,none⟩) (mO.length-1) cap)/\gU w' g (mO.eraseIdx k)/\aH (·=g) w w':=by
 obtain⟨i0,uV,hz0,hz1,hz2⟩:=info_parts ux;have hsz:((mO.map some).toArray).size=mO.length:=by simp
 have:=AnyE.slices_Delete (P:=prog) (ρ:=Tryz.Ab) { Tryz.YZ with } N1 (by intro x;cases x<;>rfl) none (fun w=>Tryz.zeroValue206 w) i0 uV hz1 g 0 cap k (k+1) (mO.map some).toArray w h ae (by assumption) ae ae;rw[hsz]at this;refine Calls.mono this ?_;rintro e w'⟨he,q,rfl⟩;refine⟨by grind,?_,Hg _ _ _ _ _ _⟩;have hd:((mO.map some).toArray.toList.take k++(mO.map some).toArray.toList.drop (k+1)++List.replicate (k+1-k) none)=(mO.eraseIdx k).map some++[none]:=by
  rw[show k+1-k=1 by omega,List.eraseIdx_eq_take_drop_succ];simp
 rw[hd];have hh:=holds_putRow N1 (Sort.ahead w q) g 0 (mO.map some).toArray ((mO.eraseIdx k).map some++[none]).toArray (holds_ahead N1 w q g 0 _ h) (by grind);intro j hj;have hj':j<(mO.eraseIdx k).length:=by grind
 obtain⟨h1,h2⟩:=hh j (by grind);grind
theorem uz{ops:Array Oper}{rest:List Oper}{op:Oper}{a:Act}{Q:Exit->Act->World->Prop}(hgd:op.guard=none)(s x:Operand)(ho:op.op=.call { callee:=.builtin .append,args:=#[s,x],argTypes:=#[301,301] })(base:Nat)(v:Value)(l:List Nat)(hs:a.eval s=v)(hown:w.ownsRow base 206 1 v l.length (l.map ptrTo))(y:Nat)(c:Nat)(hx:a.eval x=.slice (some ⟨w.heap.size,0,none⟩) 1 c)(hl:l.length<=100000)(hbase:base<=w.heap.size)(k:∀v' w',w'.ownsRow base 206 1 v' (l++[y]).length ((l++[y]).map ptrTo)->lq v (w.alloc (.cells #[ptrTo y] 206)) w' v'->wpList prog ops Q rest (a.put op.dst v') w') :
 wpList prog ops Q (op::rest) a (w.alloc (.cells #[ptrTo y] 206)):=by
 refine dO hgd s x 301 ho base 206 _ 1 8 Tryz.underlying301 ux rfl af v l.length (l.map ptrTo) hs (World.ownsRow.alloc hown _) ⟨w.heap.size,0,none⟩ 1 c [ptrTo y] hx rfl (fun j u hj=>?_) (by simp[ptrTo,Value.oneCell']) (by grind [maxLen]) ae (by simp;omega) (fun v' w' h1 h2=>k v' w' ?_ h2)
 ·rw[bG,Nat.zero_add];simp_all
 grind
end
end
section
open Go.RowKit Go.Maps Go.MapKept
structure Src where
 cb:Nat
 sb:Nat
 name:Name
 es:List aF
 pos:Nat
def Src.cur(s:Src):aF:=(s.es[s.pos-1]?).getD Ac
def Src.left(s:Src):List aF:=s.es.drop (s.pos-1)
def Src.step(s:Src):Src:={ s with pos:=s.pos+1 }
structure Src.Ok(s:Src):Prop where
 lo:1<=s.pos
 hi:s.pos<=s.es.length
theorem Src.left_eq{s:Src}(h:s.Ok):s.left=s.cur::s.es.drop s.pos:=by
 grind [Ok.lo,Ok.hi,Src.left,Src.cur,List.drop_eq_getElem_cons]
theorem Src.N2{s:Src}:s.step.left=s.es.drop s.pos:=by
 rfl
def cC(l:List Src):List aF:=(l.map Src.left).flatten
theorem Hi:cC []=[]:=rfl
theorem lX(a b:List Src):cC (a++b)=cC a++cC b:=by grind [cC]
structure Taken(b:Bool)(all taken:List aF)(l:List Src):Prop where
 perm:(taken++cC l).Perm all
 gy:taken.Pairwise (dB b)
 ahead:∀x∈taken,∀y∈cC l,dB b x y
 each:∀s∈l,s.left.Pairwise (dB b)
 ok:∀s∈l,s.Ok
theorem Hj{l:List Src}{x:aF}:x∈cC l ↔ ∃s∈l,x∈s.left:=by
 grind [cC]
theorem Taken.least{b:Bool}{all taken:List aF}{l:List Src}(h:Taken b all taken l){k:Nat}(hk:k<l.length)(uA:∀s∈l,dB b l[k].cur s.cur):∀y∈cC l,dB b l[k].cur y:=by
 intro y hy;obtain⟨s,hs,Pu⟩:=Hj.1 hy;have h1:=h.each s hs;rw[Src.left_eq (h.ok s hs)]at h1 Pu;rcases List.mem_cons.1 Pu with rfl | Pu
 ·grind
 ·exact(uA s hs).trans ((List.pairwise_cons.1 h1).1 y Pu)
theorem N3{α:Type}(l:List α)(k:Nat)(hk:k<l.length)(x:α):l.set k x=l.take k++x::l.drop (k+1):=by
 grind [List.set_eq_take_append_cons_drop]
theorem Taken.go{b:Bool}{all taken:List aF}{l l':List Src}(h:Taken b all taken l){k:Nat}(hk:k<l.length)(uA:∀s∈l,dB b l[k].cur s.cur)(hl:cC l'=cC (l.take k)++(l[k].es.drop l[k].pos++cC (l.drop (k+1))))(CR:∀s∈l',s.left.Pairwise (dB b))(fw:∀s∈l',s.Ok):Taken b all (taken++[l[k].cur]) l':=by
 have hkm:l[k]∈l:=List.getElem_mem hk;have hle:=h.least hk uA;have hsp:cC l=cC (l.take k)++(l[k].cur::(l[k].es.drop l[k].pos)++cC (l.drop (k+1))):=by
  grind [tL,cC,Src.left_eq,ok]
 have hp:(l[k].cur::cC l').Perm (cC l):=by
  rw[hl,hsp];exact List.perm_middle.symm
 refine⟨?_,?_,?_,CR,fw⟩
 ·rw[List.append_assoc];refine List.Perm.trans (List.Perm.append_left taken ?_) h.perm;exact hp
 ·grind [gy,ahead]
 grind [ahead]
theorem Taken.step{b:Bool}{all taken:List aF}{l:List Src}(h:Taken b all taken l){k:Nat}(hk:k<l.length)(uA:∀s∈l,dB b l[k].cur s.cur)(Al:l[k].pos<l[k].es.length) :
 Taken b all (taken++[l[k].cur]) (l.set k l[k].step):=by
 have hkm:l[k]∈l:=List.getElem_mem hk;have FN:∀s∈l.set k l[k].step,s∈l\/s=l[k].step:=fun s hs=>List.mem_or_eq_of_mem_set hs;refine h.go hk uA ?_ ?_ ?_
 ·rw[N3 l k hk,lX];congr 1
 ·intro s hs;rcases FN s hs with hs | rfl
  ·grind [each]
  ·rw[Src.N2];have:=h.each _ hkm;grind [Src.left_eq,ok]
 ·intro s hs;rcases FN s hs with hs | rfl
  ·exact h.ok s hs
  ·exact⟨Nat.le_add_left _ _,Al⟩
theorem Taken.gone{b:Bool}{all taken:List aF}{l:List Src}(h:Taken b all taken l){k:Nat}(hk:k<l.length)(uA:∀s∈l,dB b l[k].cur s.cur)(hend:l[k].es.length<=l[k].pos) :
 Taken b all (taken++[l[k].cur]) (l.eraseIdx k):=by
 grind [go,each,ok,lX,List.drop_eq_nil_of_le]
theorem Taken.done{b:Bool}{all taken:List aF}(h:Taken b all taken []):fE taken=aK b all:=by
 have hp:=h.perm;rw[Hi,List.append_nil]at hp;exact((vM h.gy).congr (fun x=>hp.mem_iff)).eq
theorem Kv{b:Bool}{l:List aF}(h:aK b l=l):l.Pairwise (dB b):=by
 have:=(bU b l).gy;rw[h]at this;exact this.imp (fun h=>.inl h)
end
section
open Go.RowKit Go.Maps Go.MapKept
section
variable {S:Nat->Prop} {w w':World} {pb db n base cb sb kb yE g:Nat} {name out:Name} {o o':ar} {d d':Dsk} {L L':aC} {s:Src} {l:List Src}
theorem fV{i N sz sb':Nat}{x:aF}(h:bC w cb sb' i N x)(hs:aB w sb pb name sz):sb≠cb:=by
 rintro rfl;obtain⟨t,h1⟩:=h;obtain⟨t',h2⟩:=hs;grind
theorem yF{i N sb':Nat}{x:aF}{res:List aF}(h:bC w cb sb' i N x)(hs:eV w kb yE res):kb≠cb:=by
 rintro rfl;obtain⟨y,a,t',h2⟩:∃y a,dI w kb yE y a:=by
  rcases hs with⟨_,y,h⟩|⟨y,_,h⟩
  ·grind
  grind
 obtain⟨t,h1⟩:=h;grind
theorem yG{sz:Nat}{res:List aF}(h:aB w sb pb name sz)(hs:eV w kb yE res):kb≠sb:=by
 rintro rfl;obtain⟨y,a,t',h2⟩:∃y a,dI w kb yE y a:=by
  rcases hs with⟨_,y,h⟩|⟨y,_,h⟩
  ·grind
  grind
 obtain⟨t,h1⟩:=h;grind
structure uB(w:World)(pb:Nat)(o:ar)(L:aC)(base:Nat)(out:Name)(s:Src):Prop where
 src:bC w s.cb s.sb s.pos s.es.length s.cur
 str:aB w s.sb pb s.name 20
 oc:o s.cb=none
 os:o s.sb=none
 bc:base<=s.cb
 bs:base<=s.sb
 file:∃fl,aA L s.name=some (au s.es fl)
 N4:s.name≠out
theorem uB.moved(h:uB w pb o L base out s)(hm:aw S n pb db w o d w' o' d' L')(h1:¬S s.cb)(h2:¬S s.sb)(hL:∀x,x≠out->aA L' x=aA L x):uB w' pb o' L' base out s where
 src:=h.src.kept (hm.block h.src.lt h.oc h1)
 str:=h.str.kept (hm.block h.str.lt h.os h2)
 oc:=hm.free h.src.lt h.oc
 os:=hm.free h.str.lt h.os
 bc:=h.bc
 bs:=h.bs
 file:=by grind [N4,file]
 N4:=h.N4
theorem uB.kept(h:uB w pb o L base out s)(h1:w'.heap[s.cb]? = w.heap[s.cb]?)(h2:w'.heap[s.sb]? = w.heap[s.sb]?):uB w' pb o L base out s where
 src:=h.src.kept h1
 str:=h.str.kept h2
 oc:=h.oc
 os:=h.os
 bc:=h.bc
 bs:=h.bs
 file:=h.file
 N4:=h.N4
structure cZ(w:World)(pb:Nat)(o:ar)(L:aC)(base:Nat)(out:Name)(v:Value)(l:List Src):Prop where
 each:∀s∈l,uB w pb o L base out s
 apart:(l.map Src.cb).Nodup
 row:∀x,v.ownBlock=some x->o x=none/\base<=x/\∀s∈l,x≠s.cb/\x≠s.sb
theorem cZ.nil:cZ w pb o L base out (.slice none 0 0) []:=⟨(fun _ h=>nomatch h),List.Pairwise.nil,fun x hx=>by cases hx⟩
theorem cZ.moved{v:Value}(h:cZ w pb o L base out v l)(hm:aw S n pb db w o d w' o' d' L')(hv:∀x,v.ownBlock=some x->x<w.heap.size)(h1:∀s∈l,¬S s.cb/\¬S s.sb)(hL:∀x,x≠out->aA L' x=aA L x):cZ w' pb o' L' base out v l where
 each:=fun s hs=>(h.each s hs).moved hm (h1 s hs).1 (h1 s hs).2 hL
 apart:=h.apart
 row:=fun x hx=>⟨hm.free (hv x hx) (h.row x hx).1,(h.row x hx).2⟩
theorem cZ.below{v:Value}(h:cZ w pb o L base out v l)(hb:Below w.heap.size w w'):cZ w' pb o L base out v l where
 each:=fun s hs=>(h.each s hs).kept (hb.block _ (h.each s hs).src.lt) (hb.block _ (h.each s hs).str.lt)
 apart:=h.apart
 row:=h.row
theorem cZ.idx{v:Value}(h:cZ w pb o L base out v l){i j:Nat}(hi:i<l.length)(hj:j<l.length)(hne:i≠j):l[i].cb≠l[j].cb:=by
 intro e;have h1:=h.apart;grind [List.pairwise_iff_getElem]
theorem sk{v:Value}(h:cZ w pb o L base out v l){k:Nat}(hk:k<l.length){t:Src}:∀s∈l.set k t,s=t\/(s∈l/\s.cb≠l[k].cb):=by
 grind [List.getElem_of_mem,cZ.idx]
theorem cZ.step{v:Value}(h:cZ w pb o L base out v l){k:Nat}(hk:k<l.length)(hm:aw (·=l[k].cb) n pb db w o d w' o' d' L)(hv:∀x,v.ownBlock=some x->x<w.heap.size)(hs:bC w' l[k].cb l[k].sb (l[k].pos+1) l[k].es.length l[k].step.cur):cZ w' pb o' L base out v (l.set k l[k].step):=by
 have hkm:l[k]∈l:=List.getElem_mem hk;have Ms:=h.each _ hkm;have hcb:(l.set k l[k].step).map Src.cb=l.map Src.cb:=by
  apply List.ext_getElem
  ·simp
  ·intro i h1 h2;rw[List.getElem_map,List.getElem_map,List.getElem_set];split
   ·rename_i e;subst e;rfl
   ·rfl
 refine⟨fun s hs'=>?_,by grind [apart],fun x hx=>⟨hm.free (hv x hx) (h.row x hx).1,(h.row x hx).2.1,fun s hs'=>?_⟩⟩
 ·rcases sk h hk s hs' with rfl |⟨h1,h2⟩
  ·exact⟨hs,Ms.str.kept (hm.block Ms.str.lt Ms.os (fV Ms.src Ms.str)),hm.free Ms.src.lt Ms.oc,hm.free Ms.str.lt Ms.os,Ms.bc,Ms.bs,Ms.file,Ms.N4⟩
  ·exact(h.each s h1).moved hm h2 (fV Ms.src (h.each s h1).str) (fun _ _=>rfl)
 ·rcases sk h hk s hs' with rfl |⟨h1,h2⟩
  ·exact(h.row x hx).2.2 l[k] hkm
  ·exact(h.row x hx).2.2 _ h1
theorem cZ.gone{v v':Value}(h:cZ w pb o L base out v l)(k:Nat)(ht:aH (fun x=>v.ownBlock=some x) w w')(hv:v'.ownBlock=v.ownBlock):cZ w' pb o L base out v' (l.eraseIdx k):=by
 refine⟨fun s hs=>?_,?_,fun x hx=>?_⟩
 ·have hs:=List.mem_of_mem_eraseIdx hs;have hI:=h.each s hs;exact hI.kept (ht.block _ hI.src.lt (fun e=>((h.row _ e).2.2 s hs).1 rfl)) (ht.block _ hI.str.lt (fun e=>((h.row _ e).2.2 s hs).2 rfl))
 ·grind [List.eraseIdx_sublist,apart]
 ·rw[hv]at hx;exact⟨(h.row x hx).1,(h.row x hx).2.1,fun s hs=>(h.row x hx).2.2 s (List.mem_of_mem_eraseIdx hs)⟩
theorem cZ.append{v v':Value}{ob:Obj}(h:cZ w pb o L base out v l)(ha:lq v (w.alloc ob) w' v')(hI:uB w pb o L base out s)(hcb:∀t∈l,t.cb≠s.cb)(hv:∀x,v.ownBlock=some x->x<w.heap.size/\x≠s.cb/\x≠s.sb)(dQ:∀x,w.heap.size<=x->o x=none)(hbase:base<=w.heap.size):cZ w' pb o L base out v' (l++[s]):=by
 obtain⟨hg,hb⟩:=ha;have hs:(w.alloc ob).heap.size=w.heap.size+1:=by simp
 have hk:∀x,x<w.heap.size->v.ownBlock≠some x->w'.heap[x]? = w.heap[x]? := fun x hx hne=>
  (hg.block x ae (fun e=>hne e.symm)).trans ((MapKept.heap_alloc w ob).2 x hx)
 have hall:∀t∈l++[s],uB w pb o L base out t/\∀x,v.ownBlock=some x->x≠t.cb/\x≠t.sb:=fun t ht=>by
  rcases List.mem_append.1 ht with ht | ht
  ·exact⟨h.each t ht,fun x hx=>(h.row x hx).2.2 t ht⟩
  grind
 refine⟨fun t ht=>?_,?_,fun x hx=>?_⟩
 ·obtain⟨h1,h2⟩:=hall t ht;exact h1.kept (hk _ h1.src.lt (fun e=>(h2 _ e).1 rfl)) (hk _ h1.str.lt (fun e=>(h2 _ e).2 rfl))
 ·grind [apart]
 ·rcases hb with e | e
  ·rw[e]at hx;refine⟨(h.row x hx).1,(h.row x hx).2.1,fun t ht=>(hall t ht).2 x hx⟩
  ·rw[e]at hx;cases hx;refine⟨dQ _ ae,ae,fun t ht=>?_⟩;have h1:=(hall t ht).1.src.lt;have h2:=(hall t ht).1.str.lt;omega
def uC(w:World)(v:Value)(mO:List Nat):Prop:=(v=.slice none 0 0/\mO=[])\/∃g cap,v=.slice (some ⟨g,0,none⟩) mO.length cap/\mO.length<=cap/\cap<=maxLen/\gU w g mO/\g<w.heap.size
theorem uC.kept{v:Value}{mO:List Nat}(h:uC w v mO)(hb:∀x,v.ownBlock=some x->w'.heap[x]? = w.heap[x]?)(hs:w.heap.size<=w'.heap.size):uC w' v mO:=by
 rcases h with h |⟨g,cap,rfl,h1,h2,h3,h4⟩
 ·exact .inl h
 ·exact .inr ⟨g,cap,rfl,h1,h2,h3.kept (hb g rfl),Nat.lt_of_lt_of_le h4 hs⟩
theorem uC.lt{v:Value}{mO:List Nat}(h:uC w v mO):∀x,v.ownBlock=some x->x<w.heap.size:=by
 rcases h with⟨rfl,h⟩|⟨g,cap,rfl,h1,h2,h3,h4⟩
 ·intro x hx;cases hx
 ·intro x hx;cases hx;exact h4
theorem uC.Df{v:Value}{mO:List Nat}(hr:w.ownsRow base 206 1 v mO.length (mO.map ptrTo)):uC w v mO:=by
 have LP:=hr;obtain⟨hl,⟨h1,h2⟩|⟨g,cap,cur,rfl,hg,hh,hc,hm,hs,ht⟩⟩:=LP
 ·exact .inl ⟨h1,List.eq_nil_of_length_eq_zero h2⟩
 ·obtain⟨h1,h2,h3,h4⟩:=gU.Df hr;exact .inr ⟨g,cap,rfl,h2,h3,h1,(Array.getElem?_eq_some_iff.1 hh).1⟩
theorem uC.ofNil{base:Nat}:w.ownsRow base 206 1 (.slice none 0 0) 0 ([]:List Value):=⟨rfl,.inl ⟨rfl,rfl⟩⟩
end
end
section
open Go.RowKit Go.Maps Go.MapKept
section
variable {S:Nat->Prop} {w w' w1 w2 w3 w4:World} {pb db n base cb sb kb yE jb bf made g:Nat} {by':Bool} {name out nm:Name} {o o' o1 o2 o3:ar} {d d' d1 d2 d3:Dsk} {L L':aC} {l:List Src} {v v':Value}
theorem cZ.opened(hl:cZ w1 pb o1 L base out v l)(hv:∀x,v.ownBlock=some x->x<w1.heap.size)(cP:aw (fun _=>False) n pb db w1 o1 d1 w2 o2 d2 L)(eA:aw (·=cb) n pb db w2 o2 d2 w3 o3 d3 L)(hbase:base<=w1.heap.size)(hcb:w1.heap.size<=cb)(yU:w1.heap.size<=sb){N:Nat}{x0:aF}(hs2:bC w2 cb sb 0 N x0)(hst:aB w2 sb pb nm 20)(NK:o2 cb=none)(Vj:o2 sb=none){es:List aF}{x:aF}{fl:Bool}(hs3:bC w3 cb sb 1 es.length x)(hx:es[0]? = some x)(hf:aA L nm=some (au es fl))(hno:nm≠out){ob:Obj}(ha:lq v (w3.alloc ob) w4 v') :
 cZ w4 pb o3 L base out v' (l++[⟨cb,sb,nm,es,1⟩]):=by
 have hne:=fV hs2 hst;have hz2:w1.heap.size<=w2.heap.size:=cP.size;have hz3:w2.heap.size<=w3.heap.size:=eA.size;have h2:=hl.moved cP hv (fun _ _=>⟨fun h=>h,fun h=>h⟩) (fun _ _=>rfl);have h3:=h2.moved eA (fun y hy=>Nat.lt_of_lt_of_le (hv y hy) hz2) (fun s hs=>⟨fun e=>by have:=(hl.each s hs).src.lt;omega,fun e=>by have:=(hl.each s hs).str.lt;omega⟩) (fun _ _=>rfl);refine h3.append ha ⟨?_,hst.moved eA Vj hne,eA.free hs2.lt NK,eA.free hst.lt Vj,Nat.le_trans hbase hcb,Nat.le_trans hbase yU,⟨fl,hf⟩,hno⟩ (fun t ht e=>?_) (fun y hy=>⟨Nat.lt_of_lt_of_le (hv y hy) ae,?_,?_⟩) (fun y hy=>eA.aX.fresh hy) ae
 ·grind [Src.cur]
 ·have:=(hl.each t ht).src.lt;grind
 ·grind
 grind
theorem Hk(s:Src):cC [s]=s.left:=by grind [cC]
theorem Kw{rs:List tx}{k:Nat}{p:tx}(h:rs[k]? = some p):dZ (rs.take (k+1))=dZ (rs.take k)++p.2:=by
 grind [List.take_succ_eq_append_getElem,dZ]
def RG(n pb db:Nat)(by':Bool)(w:World)(o:ar)(d:Dsk)(L:aC)(out:Name)(rs:List tx)(k:Nat)(v:Value)(wr:World):Prop:=
 ∃(d':Dsk)(o':ar)(l:List Src),aw (fun _=>False) n pb db w o d wr o' d' L/\cZ wr pb o' L w.heap.size out v l/\wr.ownsRow w.heap.size 206 1 v (l.map Src.cb).length ((l.map Src.cb).map ptrTo)/\cC l=dZ (rs.take k) /\
  (∀s∈l,s.left.Pairwise (dB by'))/\(∀s∈l,s.Ok)/\(l.map Src.cb).length<=k
def N5(n pb db kb yE:Nat)(by':Bool)(w:World)(o:ar)(d:Dsk)(L:aC)(out:Name)(all:List aF)(left:Nat)(v:Value)(wr:World):Prop:=
 ∃(d':Dsk)(o':ar)(l:List Src)(taken:List aF),aw (fun _=>False) n pb db w o d wr o' d' (aS L out (au (fE taken) false))/\cZ wr pb o' (aS L out (au (fE taken) false)) w.heap.size out v l/\uC wr v (l.map Src.cb)/\Taken by' all taken l /\
  eV wr kb yE (fE taken)/\aB wr yE pb out 20/\o' kb=none/\o' yE=none/\(∀x,v.ownBlock=some x->x≠kb/\x≠yE)/\left=(cC l).length
def Dj(n pb db:Nat)(w:World)(o:ar)(d:Dsk)(L:aC)(out:Name)(ns:List Name)(Zf:List aF)(N:Nat)(e:Ending)(w':World):Prop:=
 ∃c d' o' L',e=.returned (.int .i64 ((c:Nat):Int))/\aw (fun _=>False) n pb db w o d w' o' d' L'/\(∀x,x≠out->x ∉ ns->aA L' x=aA L x)/\((c=0/\L'=ns.foldl b7 (aS L out (au Zf false)))\/jq d d' (need L+4*N) c)
theorem cZ.cells(h:cZ w pb o L base out v l)(hr:gU w g (l.map Src.cb)){k:Nat}{s:Src}(hk:l[k]? = some s) :
 w.cell? ⟨g,k,none⟩=some (ptrTo s.cb)/\w.cell? ⟨s.cb,3,none⟩=some (.int .u32 (s.cur.t.toNat:Int))/\w.cell? ⟨s.cb,4,none⟩=some (.int .u32 (s.cur.h.toNat:Int))/\w.cell? ⟨s.cb,5,none⟩=some (.int .u64 (s.cur.x.toNat:Int))/\w.cell? ⟨s.cb,6,none⟩=some (.int .u32 (s.cur.m.toNat:Int)):=by
 have hl:=aN hk;rw[List.getElem?_eq_getElem hl]at hk;have h1:=hr.cell (k:=k) (by grind);rw[List.getElem_map]at h1;obtain⟨-,⟨h3,h4,h5,h6⟩,-⟩:=(h.each _ (List.getElem_mem hl)).src.cells;grind
theorem Hn{es:List aF}(hno:aA L out=none):need (aS L out (au es false))<=need L+4*es.length:=by
 grind [pS,cF]
theorem Taken.len{b:Bool}{all taken:List aF}(h:Taken b all taken l):taken.length+(cC l).length=all.length:=by
 rw[<- List.length_append];exact h.perm.length_eq
end
end
section
open Go.RowKit Go.Maps Go.MapKept
section
variable {w w':World} {pb db n jb bf made:Nat} {by':Bool} {o o':ar} {d d':Dsk} {L L':aC}
theorem EI(HW:aQ)(h:aP w pb db n o d L)(hj:cT w jb pb bf made by')(lC:o jb=none)(Cn:o bf=none){v:Value}{rs:List tx}(hv:bH w v (rs.map (·.1)))(mm:∀b,v.ownBlock=some b->o b=none)(hL:∀p∈rs,aA L p.1=some (au p.2 false))(JM:(rs.map (·.1)).Nodup)(hlen:rs.length<=1000)(CR:∀p∈rs,aK by' p.2=p.2)(hall:lens rs<=60000){out:Name}(fw:bM out=true)(hno:aA L out=none) :
 Calls prog 179 #[ptrTo jb,v,.string out] w (Dj n pb db w o d L out (rs.map (·.1)) (aK by' (dZ rs)) (lens rs)):=by
 have pQ:Hid (∀W o' d' nm es,aw (fun _=>False) n pb db w o d W o' d' L->(nm,es)∈rs->Calls prog 116 #[ptrTo jb,.string nm] W (qB n pb db W o' d' L nm es.length)):=aa (fun W o' d' nm es hm hp=>xQ HW hm.aX (hj.moved hm lC Cn (fun h=>h) (fun h=>h)) (hL _ hp));have Hf:Hid (∀W o' d' L' cb sb nm(es:List aF)x0 i fl x,aP W pb db n o' d' L'->aB W sb pb nm 20->o' sb=none->bC W cb sb i es.length x0->o' cb=none->aA L' nm=some (au es fl)->es[i]? = some x->Calls prog 221 #[ptrTo cb] W (zZ n pb db W o' d' L' cb sb i es.length x)):=aa (fun W o' d' L' cb sb nm es x0 i fl x a b c e f g hx=>by
  have hi:=aN hx;grind [si])
 have EC:Hid (∀W o' d',aw (fun _=>False) n pb db w o d W o' d' L->Calls prog 223 #[ptrTo jb,.string out] W (lV n pb db W o' d' L out)):=aa (fun W o' d' hm=>sj hm.aX (hj.moved hm lC Cn (fun h=>h) (fun h=>h)) (hm.free hj.lt.1 lC) fw hno);have hput:Hid (∀W o' d' kb sb res,aP W pb db n o' d' (aS L out (au res false))->aB W sb pb out 20->o' sb=none->o' kb=none->kb≠sb->eV W kb sb res->res.length<65535->∀x:aF,
  Calls prog 225 #[ptrTo kb,.agg #[.int .u32 (x.t.toNat:Int),.int .u32 (x.h.toNat:Int),.int .u64 (x.x.toNat:Int),.int .u32 (x.m.toNat:Int)]] W (z7 n pb db W o' d' (aS L out (au res false)) out kb sb res x)):=
  aa (fun W o' d' kb sb res hW hst ho Rw hne hk hl x=>xO HW hW hst ho Rw hne (by grind [ay]) hl hk x)
 have Ky:∀x∈rs.map (·.1),x≠out:=fun x hx e=>by
  grind
 have tT:Hid (∀W o' d' es,aw (fun _=>False) n pb db w o d W o' d' (aS L out (au es false))->Calls prog 227 #[ptrTo jb,v] W (xP n pb db W o' d' (aS L out (au es false)) (rs.map (·.1)))):=aa (fun W o' d' es hm=>by
  refine G0 hm.aX (hj.moved hm lC Cn (fun h=>h) (fun h=>h)) (hm.free hj.lt.1 lC) (hv.kept (fun b hb=>hm.block (hv.lt b hb) (mm b hb) (fun h=>h))) (fun b hb=>hm.free (hv.lt b hb) (mm b hb)) (fun x hx=>?_) JM (by grind);rw[ay,if_neg (Ky x hx)];obtain⟨p,hp,rfl⟩:=List.mem_map.1 hx;exact⟨_,_,hL p hp⟩)
 have yr:Hid (∀W,cT W jb pb bf made by'->∀x y:aF,Calls prog 224 #[ptrTo jb,.agg #[.int .u32 (x.t.toNat:Int),.int .u32 (x.h.toNat:Int),.int .u64 (x.x.toNat:Int),.int .u32 (x.m.toNat:Int)],.agg #[.int .u32 (y.t.toNat:Int),.int .u32 (y.h.toNat:Int),.int .u64 (y.x.toNat:Int),.int .u32 (y.m.toNat:Int)]] W
  fun e w'=>e=.returned (.int .i64 (aR by' x y))/\dV W w'):=aa (fun W hW x y=>xM hW x y)
 have hcell:Hid (∀W o' d' L',aw (fun _=>False) n pb db w o d W o' d' L'->∀k p,rs[k]? = some p->∀g off len cap,v=.slice (some ⟨g,off,none⟩) len cap->W.cell? ⟨g,off+k,none⟩=some (.string p.1)):=aa (fun W o' d' L' hm k p hp g off len cap e=>by
  subst e;have hkr:=aN hp;have h1:=(hv.kept (fun b hb=>hm.block (hv.lt b hb) (mm b hb) (fun h=>h))).cells.2.2.2 k (by grind);grind)
 have H:=aa h;have HJ:=aa hj;have HL:=aa hL;have ac5:=aa CR;have Zb:=aa hno;have HNS:=aa Ky;have BV:Hid ((dZ rs).length=lens rs):=aa (uv rs);have UW:=aa lC;have Vk:=aa Cn;obtain⟨g,off,cap,rfl⟩:=hv.shape;obtain⟨-,hl2,NN,-⟩:=hv.cells;unfold maxLen at NN;clear h hj lC Cn hv mm hL JM CR fw hno Ky;rw[List.length_map]at *;generalize hN:rs.length=N at *;have HN:=aa hN;clear hN;generalize hM:lens rs=M at *;clear hM;unfold ptrTo at *;go_enter func179,ntmps179;go_wp2;go_loopw [22,7] (fun i v wr=>∃k:Nat,k<=N/\i=.int .i64 (k:Int)/\RG n pb db by' w o d L out rs k v wr) (fun i _ _=>N-(intOf i).toNat)
 case atStart=>exact⟨0,Nat.zero_le _,rfl,d,o,[],aw.refl _ H.o,cZ.nil,uC.ofNil,rfl,(fun s hs=>nomatch hs),(fun s hs=>nomatch hs),Nat.le_refl _⟩
 case round=>
  generalize u7=v at *;obtain⟨k,hk,rfl,d1,o1,l,dY,Mg,hr1,Xl,RH,uh,hlk⟩:=hrel;have eo:=aa dY;have Ho:=aa Mg;have nu:=aa hr1;have RI:=aa Xl;have EJ:=aa RH;have Vl:=aa uh;have hs1:w.heap.size<=wr.heap.size:=dY.size;have NV:Hid (∀x,v.ownBlock=some x->x<wr.heap.size):=aa (fun x hx=>(aL hr1 x hx).1);clear dY Mg hr1 Xl RH uh;by_cases hlt:k<N
  ·obtain⟨nm,es,hp⟩:∃nm es,rs[k]? = some (nm,es):=by
    have hkr:k<rs.length:=by grind [Hid.out]
    exact⟨rs[k].1,rs[k].2,List.getElem?_eq_getElem hkr⟩
   have mo:(nm,es)∈rs:=List.mem_of_getElem? hp;have hc:=hcell.o wr o1 d1 L eo.o k (nm,es) hp g off N cap rfl;have aM:=aa (pQ.o wr o1 d1 nm es eo.o mo);have HF:Hid (aA L nm=some (au es false)):=aa (HL.o _ mo);have Gu:Hid (nm≠out):=aa (HNS.o nm (List.mem_map.2 ⟨_,mo,rfl⟩));have mP:Hid (es.Pairwise (dB by')):=aa (Kv (ac5.o _ mo));have ac6:Hid (dZ (rs.take (k+1))=dZ (rs.take k)++es):=aa (Kw hp);clear hp mo;dsimp only at hc;go_wp2_with fail;refine aM.o.mono ?_;rintro e w2⟨v2,c2,d2,o2,rfl,cP,om,jl⟩;have eu:=aa (eo.o.trans cP (fun _ _ h=>h));have Xm:=aa cP;have GR:=aa om;clear cP om hc aM;by_cases hc2:c2=0
   ·subst hc2;obtain⟨cb,sb,rfl,hs2,oA,Kz,Aj,Vm,Rb⟩:=jl rfl;have eM:=aa hs2;have nz:=aa oA;have RJ:=aa Kz;have Cl:=aa Aj;have hz2:wr.heap.size<=w2.heap.size:=Xm.o.size;clear hs2 oA Kz Aj jl;unfold ptrTo at *;by_cases hes:0<es.length
    ·have hx:es[0]? = some es[0]:=List.getElem?_eq_getElem hes;have aM:=aa (Hf.o w2 o2 d2 L cb sb nm es Ac 0 false es[0] eu.o.aX nz.o Cl.o eM.o RJ.o HF.o hx);have HX:=aa hx;clear hx;generalize es[0]=x at *;go_wp2_with fail;refine aM.o.mono ?_;rintro e w3⟨c3,d3,o3,rfl,eA,Dc,hs3⟩;have eF:=aa (eu.o.trans eA (fun x hx e=>by omega));have HMT:=aa eA;have B8:=aa Dc;have hz3:w2.heap.size<=w3.heap.size:=eA.size;clear eA Dc aM;by_cases hc3:c3=0
     ·subst hc3;have fy:=aa (hs3 rfl);have Br:Hid (w3.ownsRow w.heap.size 206 1 v (l.map Src.cb).length ((l.map Src.cb).map ptrTo)):=aa (by
       have fM:∀b,v.ownBlock=some b->o1 b=none:=fun b hb=>(Ho.o.row b hb).1;have h2:=Xm.o.ownsRow nu.o (fun b hb=>⟨fM b hb,fun h=>h⟩);exact HMT.o.ownsRow h2 (fun b hb=>⟨Xm.o.free (NV.o b hb) (fM b hb),fun e=>by have:=NV.o b hb;omega⟩))
      clear hs3;go_wp2_with (at_builtin;refine uz rfl _ _ rfl w.heap.size _ _ rfl Br.o cb 1 rfl ae ae ?_);intro v4 w4 hr4 Kt;have PI:=aa (Kt.moved eF.o (fun x hx=>⟨HMT.o.free (Nat.lt_of_lt_of_le (NV.o x hx) hz2) (Xm.o.free (NV.o x hx) (Ho.o.row x hx).1),(Ho.o.row x hx).2.1⟩));have Ml:=aa (Ho.o.opened NV.o Xm.o HMT.o hs1 Vm Rb eM.o nz.o RJ.o Cl.o fy.o HX.o HF.o Gu.o Kt);have LZ:=aa hr4;clear hr4 Kt;go_wp2;go_roundw
      case rel=>exact⟨k+1,ae,by go_num,d3,o3,_,PI.o.1,Ml.o,(by simpa using LZ.o),(by rw[lX,Hk,RI.o,ac6.o];rfl),(fun s hs=>(List.mem_append.1 hs).elim (EJ.o s) (fun hs=>by rw[List.mem_singleton.1 hs];assumption)),(fun s hs=>(List.mem_append.1 hs).elim (Vl.o s) (fun hs=>by rw[List.mem_singleton.1 hs];exact⟨Nat.le_refl _,hes⟩)),(by grind)⟩
      grind [intOf]
     ·have Ka:¬(c3:Int)=0:=by omega
      have HE:Hid (jq d d3 (need L+4*M) c3):=aa (((B8.o.resolve_left hc3).num (Nat.le_add_right _ _)).later eu.o.on.bD);clear hc3 hs3;go_wp2;go_ret;exact⟨c3,d3,o3,L,rfl,eF.o,(fun _ _ _=>rfl),.inr HE.o⟩
    ·have ait:es=[]:=List.eq_nil_of_length_eq_zero ae;subst ait;have aM:=aa (lU eM.o (Nat.le_refl _));unfold ptrTo at aM;go_wp2_with fail;refine aM.o.mono ?_;rintro e w3⟨rfl,q,rfl⟩;have HB:Hid (Below w2.heap.size w2 (w2.drewN q)):=aa (below_drewN aj _);have Br:Hid (w2.ownsRow w.heap.size 206 1 v (l.map Src.cb).length ((l.map Src.cb).map ptrTo)):=aa (Xm.o.ownsRow nu.o (fun b hb=>⟨(Ho.o.row b hb).1,fun h=>h⟩));have RD:=aa ((Ho.o.moved Xm.o NV.o (fun _ _=>⟨fun h=>h,fun h=>h⟩) (fun _ _=>rfl)).below HB.o);have LZ:Hid ((w2.drewN q).ownsRow w.heap.size 206 1 v (l.map Src.cb).length ((l.map Src.cb).map ptrTo)):=aa (bI Br.o (fun x hx=>HB.o.block x (Nat.lt_of_lt_of_le (NV.o x hx) hz2)));have eF:=aa (eu.o.drewN q);generalize w2.drewN q=w3 at *;go_wp2;go_roundw
     case rel=>exact⟨k+1,ae,by go_num,d2,o2,l,eF.o,RD.o,LZ.o,(by grind [Hid.out]),EJ.o,Vl.o,ae⟩
     grind [intOf]
   ·have Kh:¬(c2:Int)=0:=by omega
    have HE:Hid (jq d d2 (need L+4*M) c2):=aa (((GR.o.resolve_left hc2).num (Nat.le_add_right _ _)).later eo.o.on.bD);clear hc2 jl;go_wp2;go_ret;exact⟨c2,d2,o2,L,rfl,eu.o,(fun _ _ _=>rfl),.inr HE.o⟩
  ·obtain rfl:k=N:=by omega
   have HT0:Hid (Taken by' (dZ rs) [] l):=aa ⟨by rw[List.nil_append,RI.o,List.take_of_length_le (by grind [Hid.out])],List.Pairwise.nil,(fun x hx=>nomatch hx),EJ.o,Vl.o⟩;have aM:=aa (EC.o wr o1 d1 eo.o);unfold ptrTo at aM;go_wp2_with fail;refine aM.o.mono ?_;rintro e w2⟨v2,c2,d2,o2,rfl,cP,om,jl⟩;have GR:=aa om;by_cases hc2:c2=0
   ·subst hc2;obtain⟨kb,yE,rfl,hk2,oA,G8,Aj,pq,hkb,yU⟩:=jl rfl;simp only[if_true]at cP;have eu:=aa (eo.o.trans cP (fun _ _ h=>h));have Jn:Hid (cZ w2 pb o2 (aS L out (au [] false)) w.heap.size out v l):=aa (Ho.o.moved cP NV.o (fun _ _=>⟨fun h=>h,fun h=>h⟩) (fun x hx=>by rw[ay,if_neg hx]));have Co:Hid (uC w2 v (l.map Src.cb)):=aa (uC.Df (cP.ownsRow nu.o (fun b hb=>⟨(Ho.o.row b hb).1,fun h=>h⟩)));have HK2:=aa hk2;have nz:=aa oA;have Ve:=aa G8;have Cl:=aa Aj;have Kq:=aa pq;have HVK:Hid (∀x,v.ownBlock=some x->x≠kb/\x≠yE):=aa (fun x hx=>by have:=NV.o x hx;omega);have hkw:w.heap.size<=kb:=by omega
    clear jl cP hk2 oA G8 Aj pq om aM;unfold ptrTo;have aiv:Hid ((dZ rs).length<=60000):=aa (by rw[BV.o];omega);clear Ho nu RI EJ Vl NV eo hlk;go_wp2;go_loopg [7] (dZ rs).length (fun left v wr=>N5 n pb db kb yE by' w o d L out (dZ rs) left v wr)
    case atStart=>exact⟨d2,o2,l,[],eu.o,Jn.o,Co.o,HT0.o,HK2.o,nz.o,Ve.o,Cl.o,HVK.o,by have:=HT0.o.len;simpa using this.symm⟩
    case round=>
     clear eu Jn Co HT0 HK2 nz Ve Cl HVK;generalize u7=v at *;generalize wr=wo at *;obtain⟨d3,o3,l3,taken,eA,NN,hr3,yz,hk3,uf,ue,NW,Zg,Qn⟩:=hrel;have eF:=aa eA;have Ze:Hid (cT wo jb pb bf made by'):=aa (HJ.o.moved eA UW.o Vk.o (fun h=>h) (fun h=>h));by_cases hz:l3=[]
     ·subst hz;have hv0:∃a cap,v=.slice a 0 cap:=by
       rcases hr3 with⟨rfl,_⟩|⟨g',cap',rfl,_⟩
       ·simp
       simp
      have HD:=aa yz.done;have aM:=aa (tT.o wo o3 d3 (fE taken) eA);clear eA NN hr3 yz hk3 uf ue NW Zg Qn;obtain⟨a,cap',rfl⟩:=hv0;go_wp2_with fail;refine aM.o.mono ?_;rintro e w4⟨c4,d4,o4,L4,rfl,eC,gZ⟩;have fZ:=aa (eF.o.trans eC (fun _ _ h=>h));have Bv:=aa gZ;clear eC gZ aM;go_wp2;go_ret;refine⟨c4,d4,o4,L4,rfl,fZ.o,fun x hx TW=>?_,?_⟩
      ·rcases Bv.o with⟨_,e⟩|⟨_,_,e⟩
       ·rw[e,rA,if_neg TW,ay,if_neg hx]
       ·rw[e x TW,ay,if_neg hx]
      ·rcases Bv.o with⟨h1,e⟩|⟨h1,h2,_⟩
       ·exact .inl ⟨h1,by rw[e,HD.o]⟩
       ·exact .inr (.inr ⟨h1,h2⟩)
     ·have Yj:0<l3.length:=List.length_pos_iff.2 hz;obtain⟨g3,yH,rfl,acX,Ry,hpr,hg3⟩:∃g3 yH,v=.slice (some ⟨g3,0,none⟩) l3.length yH/\l3.length<=yH/\yH<=maxLen/\gU wo g3 (l3.map Src.cb)/\g3<wo.heap.size:=by
       rcases hr3 with⟨rfl,h⟩|⟨g,cap,rfl,h1,h2,h3,h4⟩
       ·exact absurd (List.map_eq_nil_iff.1 h) hz
       ·rw[List.length_map]at *;exact⟨g,cap,rfl,h1,h2,h3,h4⟩
      have EK:Hid (∀W,dV wo W->∀(k:Nat)(s:Src),l3[k]? = some s->W.cell? ⟨g3,k,none⟩=some (ptrTo s.cb)/\W.cell? ⟨s.cb,3,none⟩=some (.int .u32 (s.cur.t.toNat:Int))/\W.cell? ⟨s.cb,4,none⟩=some (.int .u32 (s.cur.h.toNat:Int))/\W.cell? ⟨s.cb,5,none⟩=some (.int .u64 (s.cur.x.toNat:Int))/\W.cell? ⟨s.cb,6,none⟩=some (.int .u32 (s.cur.m.toNat:Int))):=aa (fun W hW k s hk=>by
       obtain⟨h1,h2,h3,h4,h5⟩:=NN.cells hpr hk;exact⟨hW.cell h1,hW.cell h2,hW.cell h3,hW.cell h4,hW.cell h5⟩)
      have RD:=aa NN;have q9:=aa yz;have HK3:=aa hk3;have Cm:=aa uf;have Rx:=aa ue;have vX:=aa NW;have RM:=aa Zg;have HGK:=aa Qn;have HPR:=aa hpr;clear eA NN hr3 yz hk3 uf ue NW Zg Qn hpr hz;unfold maxLen at Ry;have Am:Hid (∀k,k<l3.length->∃s,l3[k]? = some s):=aa (fun k hk=>⟨l3[k],List.getElem?_eq_getElem hk⟩);generalize hZ:l3.length=Z at *;have HZ:=aa hZ;clear hZ;go_wp2;go_loopw [15,63] (fun kv iv W=>∃k i:Nat,k<Z/\i<=Z/\kv=.int .i64 (k:Int)/\iv=.int .i64 (i:Int)/\dV wo W/\∀(s t:Src)(j:Nat),j<i->l3[k]? = some s->l3[j]? = some t->dB by' s.cur t.cur) (fun _ iv _=>Z-(intOf iv).toNat)
      case atStart=>exact⟨0,0,Yj,Nat.zero_le _,rfl,rfl,dV.refl _,fun _ _ j hj=>absurd hj (Nat.not_lt_zero _)⟩
      case round=>
       generalize wr=W at *;obtain⟨k,i,hk,hi,rfl,rfl,hgr,uA⟩:=hrel;have HG:=aa hgr;have N6:=aa uA;clear hgr uA;by_cases hlt:i<Z
       ·obtain⟨x,hx⟩:=Am.o i hlt;obtain⟨y,hy⟩:=Am.o k hk;have HCX:Hid (∀W',dV W W'->W'.cell? ⟨g3,i,none⟩=some (ptrTo x.cb)/\W'.cell? ⟨x.cb,3,none⟩=some (.int .u32 (x.cur.t.toNat:Int))/\W'.cell? ⟨x.cb,4,none⟩=some (.int .u32 (x.cur.h.toNat:Int))/\W'.cell? ⟨x.cb,5,none⟩=some (.int .u64 (x.cur.x.toNat:Int))/\W'.cell? ⟨x.cb,6,none⟩=some (.int .u32 (x.cur.m.toNat:Int))):=aa (fun W' hW=>EK.o W' (HG.o.trans hW) i x hx);have HCY:Hid (∀W',dV W W'->W'.cell? ⟨g3,k,none⟩=some (ptrTo y.cb)/\W'.cell? ⟨y.cb,3,none⟩=some (.int .u32 (y.cur.t.toNat:Int))/\W'.cell? ⟨y.cb,4,none⟩=some (.int .u32 (y.cur.h.toNat:Int))/\W'.cell? ⟨y.cb,5,none⟩=some (.int .u64 (y.cur.x.toNat:Int))/\W'.cell? ⟨y.cb,6,none⟩=some (.int .u32 (y.cur.m.toNat:Int))):=aa (fun W' hW=>EK.o W' (HG.o.trans hW) k y hy);have aM:=aa (fun W'(hW:dV W W')=>yr.o W' (Ze.o.below (HG.o.trans hW).below) x.cur y.cur);have ac7:Hid (aR by' x.cur y.cur<0->∀(s t:Src)(j:Nat),j<i+1->l3[i]? = some s->l3[j]? = some t->dB by' s.cur t.cur):=aa (fun hc s t j hj hs ht=>by
         rw[hx]at hs;obtain rfl:=Option.some.inj hs;rcases Nat.lt_or_ge j i with vw | vw
         ·have h1:=N6.o y t j vw hy ht;rw[zW]at hc;exact dB.trans (by unfold dB;omega) h1
         ·obtain rfl:j=i:=by omega
          rw[hx]at ht;obtain rfl:=Option.some.inj ht;exact dB.refl _ _)
        have Xn:Hid (¬aR by' x.cur y.cur<0->∀(s t:Src)(j:Nat),j<i+1->l3[k]? = some s->l3[j]? = some t->dB by' s.cur t.cur):=aa (fun hc s t j hj hs ht=>by
         rcases Nat.lt_or_ge j i with vw | vw
         ·exact N6.o s t j vw hs ht
         ·obtain rfl:j=i:=by omega
          rw[hx]at ht;obtain rfl:=Option.some.inj ht;rw[hy]at hs;obtain rfl:=Option.some.inj hs;exact(zX _ _ _).1 hc)
        clear hx hy;unfold ptrTo at *;generalize aR by' x.cur y.cur=R at *
        generalize x.cur.t.toNat=xt at *;generalize x.cur.h.toNat=xh at *;generalize x.cur.x.toNat=xx at *;generalize x.cur.m.toNat=xm at *;generalize y.cur.t.toNat=yt at *;generalize y.cur.h.toNat=yh at *;generalize y.cur.x.toNat=yx at *;generalize y.cur.m.toNat=ym at *;generalize x.cb=xb at *;generalize y.cb=yb at *;by_cases hR:R<0;case' pos=>have hRd:decide (R<0)=true:=decide_eq_true hR
        case' neg=>have hRd:decide (R<0)=false:=decide_eq_false hR
        all_goals
         go_wp2;refine cQ (dV W) (by rfl) ag (dV.refl W).drew ?_;iterate 4 (refine qz ?_)
         refine qz ?_ (fun w' hw'=>by have hc:=(HCX.o w' hw').1;go_simp<;>rfl);iterate 2 (refine qz ?_)
         refine qz ?_ (fun w' hw'=>by obtain⟨-,e0,e1,e2,e3⟩:=HCX.o w' hw';go_simp<;>rfl);iterate 3 (refine qz ?_)
         refine qz ?_ (fun w' hw'=>by have hc:=(HCY.o w' hw').1;go_simp<;>rfl);iterate 2 (refine qz ?_)
         refine qz ?_ (fun w' hw'=>by obtain⟨-,e0,e1,e2,e3⟩:=HCY.o w' hw';go_simp<;>rfl);refine qw (fun w' hw'=>(aM.o w' hw').mono (fun e w'' h=>⟨h.1,hw'.trans h.2⟩)) ?_;refine qz ?_;refine wpQuiet_nil ?_;intro W1 hW1;have Jm:=aa (HG.o.trans hW1);clear hW1 aM HCX HCY;go_wp2;go_roundw
         case measure=>simp[intOf];omega
        ·exact⟨k,i+1,hk,ae,rfl,by go_num,Jm.o,Xn.o ae⟩
        ·exact⟨i,i+1,hlt,ae,rfl,by go_num,Jm.o,ac7.o ae⟩
       ·obtain rfl:Z=i:=by omega
        obtain⟨y,hy⟩:=Am.o k hk;obtain⟨e0,e3,e4,e5,e6⟩:=EK.o W HG.o k y hy;have HPL:Hid ((fE taken).length<=taken.length):=aa (mD _);have HLEN:Hid (taken.length+(cC l3).length=(dZ rs).length):=aa q9.o.len;have HY:=aa hy;have eC:aw (fun _=>False) n pb db w o d W o3 d3 (aS L out (au (fE taken) false)):=eF.o.below HG.o.below;have fZ:=aa eC;have hk4:eV W kb yE (fE taken):=HK3.o.below HG.o.below;have HK4:=aa hk4;have Ek:aB W yE pb out 20:=Cm.o.below HG.o.below;have ui:=aa Ek;have hl4:=RD.o.below HG.o.below;have Ml:=aa hl4;have aM:=aa (hput.o W o3 d3 kb yE (fE taken) eC.aX Ek vX.o Rx.o Kq.o hk4 (by have:=HPL.o;have:=HLEN.o;have:=aiv.o;omega) y.cur);have nw:Hid (sQ (fE taken) y.cur=fE (taken++[y.cur])):=aa (vK _ _).symm;have hky:k<l3.length:=by rw[HZ.o];exact hk
        have Zh:Hid (l3[k]=y):=aa (by rw[List.getElem?_eq_getElem hky]at hy;exact Option.some.inj hy);have Xo:=hl4.each y (List.mem_of_getElem? hy);have alw:=aa Xo;have RN:Hid (∀s∈l3,dB by' l3[k].cur s.cur):=aa (fun s hs=>by
         obtain⟨j,hj,rfl⟩:=List.getElem_of_mem hs;exact N6.o _ _ j (by rw[<- HZ.o];exact hj) (List.getElem?_eq_getElem hky) (List.getElem?_eq_getElem hj))
        have HNK:Hid (∀s∈l3,kb≠s.cb/\kb≠s.sb/\yE≠s.cb):=aa (fun s hs=>⟨yF (hl4.each s hs).src hk4,yG (hl4.each s hs).str hk4,fV (hl4.each s hs).src Ek⟩);have hyo:=q9.o.ok y (List.mem_of_getElem? hy);have HYO:=aa hyo;have HYM:=aa (List.mem_of_getElem? hy);have hg4:g3<W.heap.size:=Nat.lt_of_lt_of_le hg3 HG.o.below.size;have aiz:Hid (gU W g3 (l3.map Src.cb)):=aa (HPR.o.kept (HG.o.below.block _ hg3));clear eC hk4 Ek hl4 hy Xo hyo EK N6;unfold ptrTo at *;generalize hyc:y.cur=yc at *;have HYC:=aa hyc;clear hyc;generalize hyb:y.cb=yb at *;have Vn:=aa hyb;clear hyb;go_wp2_with fail;refine aM.o.mono ?_;rintro e w5⟨c5,d5,o5,rfl,j7,PA,RA⟩;have QO:=aa PA;by_cases Bq:c5=0
        ·subst Bq;simp only[if_true,iM]at j7;rw[nw.o]at j7 RA;have HK5:=aa (RA rfl);have kV:=aa (fZ.o.trans j7 (fun x hx e=>by omega));have hl5:cZ w5 pb o5 (aS L out (au (fE (taken++[yc])) false)) w.heap.size out (.slice (some ⟨g3,0,none⟩) Z yH) l3:=Ml.o.moved j7 (fun x hx=>by cases hx;omega) (fun s hs=>⟨fun e=>(HNK.o s hs).1 e.symm,fun e=>(HNK.o s hs).2.1 e.symm⟩) (fun x hx=>by rw[ay,if_neg hx,ay,if_neg hx]);have HL5:=aa hl5;have hrow:=Ml.o.row g3 rfl;have Yv:w5.heap[g3]? = W.heap[g3]? := j7.block hg4 hrow.1 (RM.o g3 rfl).1;have Zi:Hid (gU w5 g3 (l3.map Src.cb)):=aa (aiz.o.kept Yv);have Hp:Hid (aB w5 yE pb out 20):=aa (ui.o.moved j7 vX.o (fun e=>Kq.o e.symm));have Zj:Hid (o5 kb=none):=aa (j7.free HK4.o.lt Rx.o);have Hq:Hid (o5 yE=none):=aa (j7.free ui.o.lt vX.o);have Jl:g3<w5.heap.size:=Nat.lt_of_lt_of_le hg4 j7.size;have e0:w5.cell? ⟨g3,k,none⟩=some (.pointer (some ⟨yb,0,none⟩)):=by
          have:=Zi.o.cell (k:=k) (by rw[List.length_map];omega);rw[List.getElem_map,Zh.o,Vn.o]at this;exact this
         have uD:=hl5.each y HYM.o;have ada:=aa uD;clear j7 RA PA hl5 hrow Yv e3 e4 e5 e6 aM;have HTL:Hid ((taken++[yc]).length<=(dZ rs).length):=aa (by
          rw[List.length_append,List.length_singleton,<- HLEN.o];have h1:=Src.left_eq HYO.o;have h2:y.left.length<=(cC l3).length:=by
           exact(List.sublist_flatten_of_mem (List.mem_map.2 ⟨y,HYM.o,rfl⟩)).length_le
          rw[h1,List.length_cons]at h2;omega)
         have adb:Hid (need (aS L out (au (fE (taken++[yc])) false))<=need L+4*M):=aa (by
          have h1:=Hn (es:=fE (taken++[yc])) Zb.o;have h2:=mD (taken++[yc]);have h3:=HTL.o;rw[BV.o]at h3;omega)
         obtain⟨fl,RO⟩:=uD.file;by_cases Al:y.pos<y.es.length
         ·obtain⟨x,hx⟩:∃x,y.es[y.pos]? = some x:=⟨_,List.getElem?_eq_getElem Al⟩;have aM:=aa (Hf.o w5 o5 d5 _ y.cb y.sb y.name y.es y.cur y.pos fl x kV.o.aX uD.str uD.os uD.src uD.oc RO hx);have HX:=aa hx;clear uD RO hx;rw[Vn.o]at aM;have Xn:=aa Al;clear Al;go_wp2_with fail;refine aM.o.mono ?_;rintro e w6⟨c6,d6,o6,rfl,nO,he6,T5⟩;have HE6:=aa he6;have xV:Hid (aw (fun _=>False) n pb db w o d w6 o6 d6 (aS L out (au (fE (taken++[yc])) false))):=aa (kV.o.trans nO (fun x hx e=>by
           have:=ada.o.bc;rw[Vn.o]at this;omega))
          by_cases hc6:c6=0
          ·subst hc6;have ade:=T5 rfl;have hstep:y.step.cur=x:=by
            unfold Src.cur Src.step;show(y.es[y.pos+1-1]?).getD Ac=x;rw[Nat.add_sub_cancel,HX.o];rfl
           rw[<- hstep,<- Vn.o]at ade;have RP:aw (·=l3[k].cb) n pb db w5 o5 d5 w6 o6 d6 (aS L out (au (fE (taken++[yc])) false)):=by rw[Zh.o,Vn.o];omega
           have HL6:=aa (HL5.o.step hky RP (fun x hx=>by cases hx;omega) (by rw[Zh.o];omega));have hrow:=HL5.o.row g3 rfl;have Yv:w6.heap[g3]? = w5.heap[g3]? := nO.block Jl hrow.1 (fun e=>(hrow.2.2 y HYM.o).1 (e.trans Vn.o.symm));have RQ:(l3.set k l3[k].step).map Src.cb=l3.map Src.cb:=by
            rw[List.map_set];apply List.ext_getElem?;intro j;rw[List.getElem?_set];split
            ·rename_i e
             subst e;rw[List.getElem?_eq_getElem (by rw[List.length_map];omega),if_pos (by rw[List.length_map];omega),List.getElem_map];rfl
            ·rfl
           have JV:Hid (uC w6 (.slice (some ⟨g3,0,none⟩) Z yH) ((l3.set k l3[k].step).map Src.cb)):=aa (by
            rw[RQ];exact .inr ⟨g3,yH,by rw[List.length_map,HZ.o],by rw[List.length_map,HZ.o];omega,by assumption,Zi.o.kept Yv,Nat.lt_of_lt_of_le Jl nO.size⟩)
           have Ql:Hid (Taken by' (dZ rs) (taken++[yc]) (l3.set k l3[k].step)):=aa (by
            have:=q9.o.step hky RN.o (by rw[Zh.o];assumption);rw[show l3[k].cur=yc by rw[Zh.o,HYC.o]]at this;omega)
           have HK6:Hid (eV w6 kb yE (fE (taken++[yc]))):=aa (HK5.o.kept (nO.block HK5.o.lt Zj.o (fun e=>(HNK.o y HYM.o).1 (e.trans Vn.o.symm))));have RR:Hid (aB w6 yE pb out 20):=aa (Hp.o.moved nO Hq.o (fun e=>(HNK.o y HYM.o).2.2 (e.trans Vn.o.symm)));have aiB:Hid (o6 kb=none):=aa (nO.free HK5.o.lt Zj.o);have aiC:Hid (o6 yE=none):=aa (nO.free Hp.o.lt Hq.o);have aoJ:Hid ((cC (l3.set k l3[k].step)).length<gk):=aa (by
            have h1:=Ql.o.len;have h2:=HLEN.o;have h3:=HGK.o;rw[List.length_append,List.length_singleton]at h1;omega)
           clear nO he6 T5 ade hstep RP hrow Yv RQ aM e0;generalize Vo:l3.set k l3[k].step=ln at *;have HLN:=aa Vo;clear Vo;go_wp2;go_roundg (cC ln).length
           case measure=>assumption
           case rel=>exact⟨d6,o6,ln,taken++[yc],xV.o,HL6.o,JV.o,Ql.o,HK6.o,RR.o,aiB.o,aiC.o,RM.o,rfl⟩
          ·have aoK:¬(c6:Int)=0:=by omega
           have HE:Hid (jq d d6 (need L+4*M) c6):=aa (((HE6.o.resolve_left hc6).num adb.o).later kV.o.on.bD);clear hc6 T5 nO he6 aM;go_wp2;go_ret;exact⟨c6,d6,o6,_,rfl,xV.o,(fun x hx _=>by rw[ay,if_neg hx]),.inr HE.o⟩
         ·have zb:y.es.length<=y.pos:=Nat.le_of_not_lt Al;have aM:=aa (lU uD.src zb);have Hr:=aa zb;clear uD RO zb Al;rw[Vn.o]at aM;unfold ptrTo at aM;go_wp2_with fail;refine aM.o.mono ?_;rintro e w6⟨rfl,q,rfl⟩;have mQ:Hid (Below w5.heap.size w5 (w5.drewN q)):=aa (below_drewN aj _);generalize w5.drewN q=w6 at *;have aiD:Hid (gU w6 g3 (l3.map Src.cb)):=aa (Zi.o.kept (mQ.o.block _ Jl));have hg6:g3<w6.heap.size:=Nat.lt_of_lt_of_le Jl mQ.o.size;have Zk:=Ku (cap:=yH) aiD.o (by rw[List.length_map,HZ.o];omega) (by assumption) (k:=k) (by rw[List.length_map];omega);rw[List.length_map,HZ.o,show((k+1:Nat):Int)=(k:Int)+1 by omega]at Zk;have aM:=aa Zk;clear Zk e0;go_wp2_with fail;refine aM.o.mono ?_;rintro e w7⟨rfl,Zl,Pt⟩;have Bz:Hid (aw (fun _=>False) n pb db w o d w7 o5 d5 (aS L out (au (fE (taken++[yc])) false))):=aa ((kV.o.below mQ.o).turned (b:=g3) (HL5.o.row g3 rfl).1 (.inr (HL5.o.row g3 rfl).2.1) Pt);have adf:aH (fun x=>(Value.slice (some ⟨g3,0,none⟩) Z yH).ownBlock=some x) w6 w7:=Pt.mono (fun x _ e=>by rw[e];rfl);have HL7:=aa ((HL5.o.below mQ.o).gone (v':=.slice (some ⟨g3,0,none⟩) (Z-1) yH) k adf rfl);have RQ:(l3.map Src.cb).eraseIdx k=(l3.eraseIdx k).map Src.cb:=by
           rw[List.eraseIdx_eq_take_drop_succ,List.eraseIdx_eq_take_drop_succ,List.map_append,List.map_take,List.map_drop]
          have tV:(l3.eraseIdx k).length=Z-1:=by rw[List.length_eraseIdx,if_pos hky,HZ.o]
          have EM:Hid (uC w7 (.slice (some ⟨g3,0,none⟩) (Z-1) yH) ((l3.eraseIdx k).map Src.cb)):=aa (by
           rw[RQ]at Zl;exact .inr ⟨g3,yH,by rw[List.length_map,tV],by rw[List.length_map,tV];omega,by assumption,Zl,Nat.lt_of_lt_of_le hg6 Pt.size⟩)
          have TT:Hid (Taken by' (dZ rs) (taken++[yc]) (l3.eraseIdx k)):=aa (by
           have:=q9.o.gone hky RN.o (by rw[Zh.o];assumption);rw[show l3[k].cur=yc by rw[Zh.o,HYC.o]]at this;omega)
          have HK7:Hid (eV w7 kb yE (fE (taken++[yc]))):=aa ((HK5.o.below mQ.o).kept (Pt.block kb (Nat.lt_of_lt_of_le HK5.o.lt mQ.o.size) (fun e=>(RM.o g3 rfl).1 e.symm)));have RS:Hid (aB w7 yE pb out 20):=aa ((Hp.o.below mQ.o).kept (Pt.block yE (Nat.lt_of_lt_of_le Hp.o.lt mQ.o.size) (fun e=>(RM.o g3 rfl).2 e.symm)));have aoL:Hid ((cC (l3.eraseIdx k)).length<gk):=aa (by
           have h1:=TT.o.len;have h2:=HLEN.o;have h3:=HGK.o;rw[List.length_append,List.length_singleton]at h1;omega)
          clear Zl Pt adf RQ tV aM;generalize Vo:l3.eraseIdx k=ln at *;have HLN:=aa Vo;clear Vo;go_wp2;go_roundg (cC ln).length
          case measure=>assumption
          case rel=>exact⟨d5,o5,ln,taken++[yc],Bz.o,HL7.o,EM.o,TT.o,HK7.o,RS.o,Zj.o,Hq.o,RM.o,rfl⟩
        ·have ab9:¬(c5:Int)=0:=by omega
         rw[if_neg Bq]at j7;have kV:=aa (fZ.o.trans j7 (fun x hx e=>by omega));have HE:Hid (jq d d5 (need L+4*M) c5):=aa (((QO.o.resolve_left Bq).num (by
          have h1:=Hn (es:=fE taken) Zb.o;have h2:=HPL.o;have h3:=HLEN.o;rw[BV.o]at h3;omega)).later fZ.o.on.bD)
         clear Bq j7 RA PA aM;go_wp2;go_ret;exact⟨c5,d5,o5,_,rfl,kV.o,(fun x hx _=>by rw[ay,if_neg hx]),.inr HE.o⟩
   ·have Kh:¬(c2:Int)=0:=by omega
    have HC2:=aa hc2;rw[if_neg hc2]at cP;have eu:=aa (eo.o.trans cP (fun _ _ h=>h));clear hc2 cP jl om aM;go_wp2;go_ret;exact⟨c2,d2,o2,L,rfl,eu.o,(fun _ _ _=>rfl),.inr (.inr (GR.o.resolve_left HC2.o))⟩
end
end
section
open Go.RowKit Go.Maps Go.MapKept
section
variable {b:Bool} {es:List aF} {rs:List tx} {L L':aC} {name out:Name} {q:Nat}
noncomputable def merged(b:Bool)(rs:List tx)(q:Nat)(name:Name):List tx:=rs.drop q++[(name,aK b (dZ (rs.take q)))]
theorem uE:(merged b rs q name).map (·.1)=(rs.map (·.1)).drop q++[name]:=by
 grind [merged,List.map_drop]
theorem Cp:(merged b rs q name).length=rs.length-q+1:=by
 grind [merged]
theorem pC(rs:List tx)(q:Nat):lens rs=lens (rs.take q)+lens (rs.drop q):=by
 rw[<- xT,List.take_append_drop]
theorem nH.merge(h:nH b es rs)(hn:name ∉ rs.map (·.1)):nH b es (merged b rs q name) where
 each:=fun p hp=>by
  rcases List.mem_append.1 hp with hp | hp
  ·grind [each]
  grind [mL]
 all:=by
  grind [merged,uu,dZ,EE,G9,List.take_append_drop,all]
 len:=by
  have h1:=h.len;grind [pC,b9,uv,merged,lens]
 nodup:=by
  grind [uE,nodup]
theorem Ao(h:nH b es rs)(hn:name ∉ rs.map (·.1))(hL:∀p∈rs,aA L p.1=none)(he:∀x,aA L' x=aA (dL rs L) x)(x:Name) :
 aA (((rs.take q).map (·.1)).foldl b7 (aS L' name (au (aK b (dZ (rs.take q))) false))) x=aA (dL (merged b rs q name) L) x:=by
 have Zm:=h.nodup;have Zn:rs.map (·.1)=(rs.take q).map (·.1)++(rs.drop q).map (·.1):=by simp
 rw[Zn]at Zm hn;rw[List.nodup_append]at Zm;rw[List.mem_append,not_or]at hn;obtain⟨n1,n2,n3⟩:=Zm;unfold merged;rw[rA,ay,Ak,ay];by_cases hx:x=name
 ·grind
 ·rw[if_neg hx,if_neg hx];by_cases ht:x∈(rs.take q).map (·.1)
  ·grind [eH]
  ·rw[if_neg ht,he];by_cases hd:x∈(rs.drop q).map (·.1)
   ·obtain⟨p,hp,rfl⟩:=List.mem_map.1 hd;grind [vY]
   grind [eH]
theorem N7(h:nH b es rs)(hk:(L.map (·.1)).Nodup)(BK:(L'.map (·.1)).Nodup)(he:∀x,aA L' x=aA (dL rs L) x):need L'<=need L+4*es.length:=by
 rw[zQ (Kr rs L hk) BK he];have h1:=sZ rs L;have h2:=h.len;omega
end
end
section
open Go.RowKit Go.Maps Go.MapKept
section
variable {w w':World} {pb db n cb kb sb jb bf made:Nat} {by':Bool} {name:Name} {o o':ar} {d d':Dsk} {L L':aC}
def kD(n pb db jb bf cb:Nat)(by':Bool)(w:World)(o:ar)(d:Dsk)(L:aC)(out:Name)(es:List aF)(left:Nat)(v:Value)(wr:World):Prop:=
 ∃(d':Dsk)(o':ar)(L':aC)(rs:List tx)(made:Nat),aw (fun x=>x=cb\/x=jb) n pb db w o d wr o' d' L'/\cT wr jb pb bf made by'/\bH wr v (rs.map (·.1))/\(∀b,v.ownBlock=some b->o' b=none/\w.heap.size<=b)/\nH by' es rs /\
  (∀x,aA L' x=aA (dL rs L) x)/\((∃x,rs=[(out,x)])\/(2<=rs.length/\∀p∈rs,∃k,k<made/\p.1=dw k))/\made+rs.length<=102/\left=rs.length
theorem N8{out:Name}{rs:List tx}(hno:aA L out=none)(BD:∀k,aA L (dw k)=none)(h:(∃x,rs=[(out,x)])\/(2<=rs.length/\∀p∈rs,∃k,k<made/\p.1=dw k)):∀p∈rs,aA L p.1=none:=by
 intro p hp;rcases h with⟨x,rfl⟩|⟨_,h⟩
 ·rw[List.mem_singleton.1 hp];exact hno
 ·obtain⟨k,_,e⟩:=h p hp;rw[e];exact BD k
theorem Dk{out:Name}{rs:List tx}(hmd:made<=128)(h:(∃x,rs=[(out,x)])\/(2<=rs.length/\∀p∈rs,∃k,k<made/\p.1=dw k)):∀x∈rs.map (·.1),gT out x:=by
 intro y hy;obtain⟨p,hp,rfl⟩:=List.mem_map.1 hy;rcases h with⟨x,rfl⟩|⟨_,h⟩
 ·rw[List.mem_singleton.1 hp];exact .inl rfl
 ·obtain⟨k,hk,e⟩:=h p hp;exact .inr ⟨k,ae,e⟩
theorem kD.next{out nm:Name}{es:List aF}{rs:List tx}{q left g mk:Nat}{w4 w5:World}{o4:ar}{d4:Dsk}{L4:aC}{vd v5:Value}{nsd:List Name}{ob:Obj}(hm:aw (fun x=>x=cb\/x=jb) n pb db w o d w4 o4 d4 L4)(hj:cT w4 jb pb bf mk by')(h1:jb<w.heap.size)(h2:bf<w.heap.size)(hvd:vd.ownBlock=some g)(hg:o4 g=none/\w.heap.size<=g)(ha:lh (w4.alloc ob) vd nsd nm v5 w5)(TW:nsd++[nm]=(merged by' rs q nm).map (·.1))(fw:nH by' es (merged by' rs q nm))(iR:∀x,aA L4 x=aA (dL (merged by' rs q nm) L) x)(hsh:(∃x,merged by' rs q nm=[(out,x)])\/(2<=(merged by' rs q nm).length/\∀p∈merged by' rs q nm,∃k,k<mk/\p.1=dw k))(vG:mk+(merged by' rs q nm).length<=102)(hl:left=(merged by' rs q nm).length):kD n pb db jb bf cb by' w o d L out es left v5 w5:=by
 obtain⟨hr,ht,hb⟩:=ha;have hs:w4.heap.size<(w4.alloc ob).heap.size:=by simp
 have hw:w.heap.size<=w4.heap.size:=hm.size;have ht':aH (·=g) (w4.alloc ob) w5:=ht.mono (fun x _ e=>by rw[hvd]at e;exact(Option.some.inj e).symm);rw[TW]at hr;have hjk:∀x,x<w.heap.size->w5.heap[x]? = w4.heap[x]? := fun x hx=>(ht'.block x ae (fun e=>by omega)).trans ((MapKept.heap_alloc w4 ob).2 x ae);refine⟨d4,o4,L4,merged by' rs q nm,mk,(hm.alloc ob).turned (b:=g) hg.1 (.inr hg.2) ht',hj.kept (hjk jb h1) (hjk bf h2),hr,fun b hb'=>?_,fw,iR,hsh,vG,hl⟩;rcases hb with e | e
 ·rw[e,hvd]at hb';cases hb';exact hg
 ·rw[e]at hb';cases hb';exact⟨hm.aX.fresh (Nat.le_of_lt hs),ae⟩
theorem Hs(HW:aQ){m:Nat}(HS:qC m)(aoM:m<=2400):dX m:=by
 intro w pb db n cb sb jb bf by' o d L h hn hj lC Cn hne es fl qH out x0 hL pn hst NK Vj hcj hcb hsj hsc hout hno BD hto hm
 have adh:=aa (He HW HS h hn hj lC Cn hne hL pn hst NK Vj hcj hcb hsj hsc hout hno BD hto hm ae);have rC:Hid (∀W o' d' L',aP W pb db n o' d' L'->Calls prog 44 #[ptrTo pb] W fun e w'=>e=.returned (.int .i64 (n:Int))/\W=w'):=aa (fun W o' d' L' hW=>jr hW);have Zo:Hid (∀W o' d' L' x,aP W pb db n o' d' L'->aA L' out=some (au x false)->Calls prog 79 #[ptrTo pb,.string out] W (jk (fun _=>False) n pb db W o' d' L' (aS L' out (au x true)))):=aa (fun W o' d' L' x hW Bp=>pB HW hW Bp);have D3:Hid (∀W made,cT W jb pb bf made by'->made<100->Calls prog 178 #[ptrTo jb] W fun e w'=>e=.returned (.string (dw made))/\cT w' jb pb bf (made+1) by'/\aH (·=jb) W w'):=aa (fun W made hW hm=>Dg hW hm hne);have RT:Hid (∀W o' d' L' made rs q v nm,aw (fun x=>x=cb\/x=jb) n pb db w o d W o' d' L'->cT W jb pb bf made by'->nH by' es rs->(∀x,aA L' x=aA (dL rs L) x)->bH W v ((rs.take q).map (·.1))->(∀b,v.ownBlock=some b->o' b=none)->rs.length<=1000->bM nm=true->aA L nm=none->nm ∉ rs.map (·.1) ->
  Calls prog 179 #[ptrTo jb,v,.string nm] W (Dj n pb db W o' d' L' nm ((rs.take q).map (·.1)) (aK by' (dZ (rs.take q))) (lens (rs.take q)))):=aa (fun W o' d' L' made rs q v nm pY hjW fw he hv mm hl uZ Zd hni=>by
  have Mg:=pC rs q;have hl2:=fw.len;refine EI HW pY.aX hjW (pY.free hj.lt.1 lC) (pY.free hj.lt.2 Cn) hv mm (fun p hp=>?_) ?_ ?_ (fun p hp=>fw.each p (List.mem_of_mem_take hp)) ae uZ ?_
  ·rw[he];exact vY _ _ fw.nodup p (List.mem_of_mem_take hp)
  ·rw[List.map_take];exact List.Nodup.sublist (List.take_sublist _ _) fw.nodup
  ·rw[List.length_take];omega
  ·rw[he,eH _ _ _ hni,Zd])
 have T6:n<=4096:=by
  obtain⟨fb,mb,l,hand,mf,hp,rfl,-⟩:=h;exact hp.most
 have Zb:=aa hno;have HNT:=aa BD;have HTO:=aa hto;have Zp:=aa hout;have Ra:=aa h.keys;have UW:=aa lC;have HCJ:=aa hcj;have Vk:=aa Cn;have RU:=hj.lt.1;have Vp:=hj.lt.2;clear h hj lC Cn hne hL pn hst NK Vj hcj hcb hsj hsc hout hno BD hto hm;unfold ptrTo at *;obtain⟨ways,RV⟩:∃ways:Nat,(ways:Int)=(n:Int)-4:=⟨n-4,ae⟩;have rN:IntKind.i64.wrap ((n:Int)-4)=(ways:Int):=by rw[ax ae ae,RV]
 have RX:4<=ways/\ways<=4092:=by omega
 obtain⟨RX,aiE⟩:=RX;have alC:=aa RV;clear RV;go_enter func117,ntmps117;go_wp2_with fail;refine adh.o.mono ?_;rintro e w1⟨v1,c1,d1,o1,L1,rfl,dY,Zq,hc1⟩;have eo:=aa dY;have adj:=aa Zq;rcases hc1 with⟨rfl,rs,r,Mt,fw,uZ,hrr,aiF,Ke,M9,adk⟩| tu
 ·have HEAD:Hid (kD n pb db jb bf cb by' w o d L out es rs.length v1 w1):=aa ⟨d1,o1,L1,rs,r,dY,Ke,M9,adk,fw,(fun x=>by rw[Mt]),uZ.imp id (fun h=>⟨h.1,h.2.2⟩),ae,rfl⟩;obtain⟨TZ,-⟩:=Ke.cells;have RY:=aa (rC.o w1 o1 d1 L1 dY.aX);clear Mt fw uZ hrr aiF Ke M9 adk dY Zq;unfold ptrTo at TZ;generalize rs.length=r0 at *;clear rs;go_wp2_with fail;refine RY.o.mono ?_;rintro e w2⟨rfl,rfl⟩;go_wp2;go_loopg [7] r0 (fun left v wr=>kD n pb db jb bf cb by' w o d L out es left v wr)
  case atStart=>exact HEAD.o
  case round=>
   clear TZ HEAD eo adj RY;generalize u7=v at *;generalize wr=wo at *;obtain⟨d2,o2,L2,rs,mk,cP,hj2,hv2,adl,jl,Mu,Zr,vG,xv⟩:=hrel;have eu:=aa cP;have U4:=aa hj2;have TV:=aa hv2;have EN:=aa adl;have Ap:=aa jl;have Dl:=aa Mu;have adm:=aa Zr;have RZ:=aa xv;have rz:Hid (need L2<=need L+4*es.length):=aa (N7 jl Ra.o cP.aX.keys Mu);have N9:Hid (∀x,¬gT out x->aA L2 x=aA L x):=aa (fun x hx=>by rw[Mu,eH _ _ _ (fun e=>hx (Dk ae Zr x e))]);obtain⟨TZ,-⟩:=hj2.cells;unfold ptrTo at TZ;obtain⟨g,off,cap,rfl⟩:=hv2.shape;obtain⟨-,hl2,NN,-⟩:=hv2.cells;unfold maxLen at NN;have hsz:w.heap.size<=wo.heap.size:=cP.size;clear cP hj2 hv2 adl jl Mu xv;rw[List.length_map]at *;rcases Zr with⟨x,rfl⟩|⟨hr2,R1⟩
   ·have hx:x=aK by' es:=by
     have h1:=Ap.o.each (out,x) ah;have h2:=Ap.o.all;simp only[dZ,List.map_cons,List.map_nil,List.flatten_cons,List.flatten_nil,List.append_nil]at h2;rw[<- h2];exact h1.symm
    have HX:=aa hx;have Mc:=aa (Zo.o wo o2 d2 L2 x eu.o.aX (by rw[Dl.o];exact vY _ _ Ap.o.nodup (out,x) ah));clear hx;simp only[List.map_cons,List.map_nil,List.length_cons,List.length_nil]at *;go_wp2_with fail;refine Mc.o.mono ?_;rintro e w3⟨c3,d3,o3,rfl,eA,Dc⟩;have eF:=aa (eu.o.trans eA (fun _ _ h=>h.elim));have B8:=aa Dc;clear eA Dc;go_wp2;go_ret;refine⟨c3,d3,o3,_,rfl,eF.o,fun y hy=>?_,?_⟩
    ·have h1:=N9.o y hy;split
     ·rw[ay,if_neg (fun e=>hy (.inl e)),h1]
     ·exact h1
    ·rcases B8.o with h | h
     ·subst h;refine .inl ⟨rfl,fun y=>?_⟩;rw[if_pos rfl,ay,ay,HX.o];by_cases e:y=out
      ·rw[if_pos e,if_pos e]
      ·rw[if_neg e,if_neg e,Dl.o,eH];simpa using e
     ·have h2:=rz.o;exact .inr ((h.num ae).later eu.o.on.bD)
   ·have KA:=aa R1;have Mv:rs.length<=1000:=by omega
    have HNL:=aa (N8 Zb.o HNT.o adm.o);have HRS:=aa (Dk ae adm.o);clear R1;generalize hN:rs.length=N at *;have HN:=aa hN;clear hN;by_cases aoP:ways<N
    ·have EO:=aa (D3.o wo mk U4.o ae);have Zs:Hid (dw mk ∉ rs.map (·.1)):=aa (fun hx=>by
      obtain⟨p,hp,e⟩:=List.mem_map.1 hx;obtain⟨k,hk,e'⟩:=KA.o p hp;have:=vZ (e'.symm.trans e);omega)
     have uA:min (ways:Int) (N:Int)=(ways:Int):=Int.min_eq_left ae;have Rw:=aa (Hb (k:=mk) ae);unfold ptrTo at EO;go_wp2_with fail;refine EO.o.mono ?_;rintro e w3⟨rfl,PE,yz⟩;have eF:Hid (aw (fun x=>x=cb\/x=jb) n pb db w o d w3 o2 d2 L2):=aa (eu.o.turned (b:=jb) (eu.o.free RU UW.o) (.inl (.inr rfl)) yz);have FE:Hid (bH w3 (.slice (some ⟨g,off,none⟩) N cap) (rs.map (·.1))):=aa (TV.o.turn yz (fun b hb e=>by have:=(EN.o b hb).2;omega));have Ze:=aa PE;have Ei:=aa (RT.o w3 o2 d2 L2 (mk+1) rs ways (.slice (some ⟨g,off,none⟩) ways cap) (dw mk) eF.o PE Ap.o Dl.o (by rw[List.map_take];exact FE.o.take (by rw[List.length_map,HN.o];omega)) (fun b hb=>(EN.o b hb).1) (by rw[HN.o];exact Mv) Rw.o (HNT.o mk) Zs.o);clear PE yz EO;unfold ptrTo at Ei;generalize uZ:dw mk=nm at *;have adn:=aa uZ;clear uZ;go_wp2_with fail;refine Ei.o.mono ?_;rintro e w4⟨c4,d4,o4,L4,rfl,eC,Cq,gZ⟩;have fZ:=aa (eF.o.trans eC (fun _ _ h=>h.elim));have R3:Hid (∀x,¬gT out x->x≠nm/\x ∉ (rs.take ways).map (·.1)):=aa (fun x hx=>⟨fun e=>hx (.inr ⟨mk,ae,e.trans adn.o.symm⟩),fun e=>by
      obtain⟨p,hp,e'⟩:=List.mem_map.1 e;exact hx (HRS.o x (List.mem_map.2 ⟨p,List.mem_of_mem_take hp,e'⟩))⟩)
     by_cases tZ:c4=0
     ·subst tZ;have Vg:=aa (Ap.o.merge (q:=ways) Zs.o);have R4:Hid (∀x,aA L4 x=aA (dL (merged by' rs ways nm) L) x):=aa (by
       rcases gZ with⟨_,e⟩| e
       ·rw[e];exact Ao Ap.o Zs.o HNL.o Dl.o
       ·exact absurd rfl e.ne)
      have J7:Hid (bH w4 (.slice (some ⟨g,off,none⟩) N cap) (rs.map (·.1))):=aa (FE.o.kept (fun b hb=>eC.block (FE.o.lt b hb) (EN.o b hb).1 (fun h=>h)));have tq:Hid (o4 g=none/\w.heap.size<=g):=aa ⟨eC.free (FE.o.lt g rfl) (EN.o g rfl).1,(EN.o g rfl).2⟩;have HJ4:Hid (cT w4 jb pb bf (mk+1) by'):=aa (Ze.o.kept (eC.block Ze.o.lt.1 (eF.o.free RU UW.o) (fun h=>h)) (eC.block Ze.o.lt.2 (eF.o.free Vp Vk.o) (fun h=>h)));have HVD:Hid (∀ob,bH (w4.alloc ob) (.slice (some ⟨g,off+ways,none⟩) (N-ways) (cap-ways)) ((rs.map (·.1)).drop ways)):=aa (fun ob=>(J7.o.drop (by rw[List.length_map,HN.o];omega)).below (aj.alloc (Nat.le_refl _) ob));have HDL:Hid (((rs.map (·.1)).drop ways).length<=100000):=aa (by rw[List.length_drop,List.length_map,HN.o];omega);clear eC Cq gZ Ei;go_wp2_with (at_builtin;refine iE rfl _ _ 91 rfl Tryz.underlying91 rfl (HVD.o _) nm ⟨w4.heap.size,0,none⟩ 1 rfl ah HDL.o ?_);intro v5 w5 Ju;have Mr:Hid (kD n pb db jb bf cb by' w o d L out es (N-ways+1) v5 w5):=aa (by
       have BI:(merged by' rs ways nm).length=N-ways+1:=by rw[Cp,HN.o]
       refine kD.next (q:=ways) fZ.o HJ4.o RU Vp rfl tq.o Ju uE.symm Vg.o R4.o (.inr ⟨by rw[BI];omega,fun p hp=>?_⟩) (by rw[BI];omega) BI.symm;rcases List.mem_append.1 hp with hp | hp
       ·obtain⟨k,hk,e⟩:=KA.o p (List.mem_of_mem_drop hp);exact⟨k,ae,e⟩
       ·rw[List.mem_singleton.1 hp];exact⟨mk,Nat.lt_succ_self _,adn.o.symm⟩)
      clear Ju;go_wp2;go_roundg (N-ways+1)
      case measure=>have:=RZ.o;omega
      case rel=>exact Mr.o
     ·have aiG:¬(c4:Int)=0:=by omega
      have B0:Hid (jq d d4 (need L+8*es.length) c4):=aa (((gZ.resolve_left (fun h=>tZ h.1)).mono (by
       have h1:=rz.o;have h2:=pC rs ways;have h3:=Ap.o.len;omega)).later eF.o.on.bD)
      have Oa:Hid (∀x,¬gT out x->aA L4 x=aA L x):=aa (fun x hx=>by rw[Cq x (R3.o x hx).1 (R3.o x hx).2,N9.o x hx]);clear tZ eC Cq gZ Ei;go_wp2;go_ret;exact⟨c4,d4,o4,L4,rfl,fZ.o,Oa.o,.inr B0.o⟩
    ·have Zs:Hid (out ∉ rs.map (·.1)):=aa (fun hx=>by
      obtain⟨p,hp,e⟩:=List.mem_map.1 hx;obtain⟨k,hk,e'⟩:=KA.o p hp;exact HTO.o k (e.symm.trans e'))
     have uA:min (ways:Int) (N:Int)=(N:Int):=Int.min_eq_right ae;have Ei:=aa (RT.o wo o2 d2 L2 mk rs N (.slice (some ⟨g,off,none⟩) N cap) out eu.o U4.o Ap.o Dl.o (by rw[List.map_take];exact TV.o.take (by rw[List.length_map,HN.o];exact Nat.le_refl _)) (fun b hb=>(EN.o b hb).1) (by rw[HN.o];exact Mv) Zp.o Zb.o Zs.o);unfold ptrTo at Ei;have alE:¬(ways:Int)<(N:Int):=by omega
     go_wp2_with fail;refine Ei.o.mono ?_;rintro e w4⟨c4,d4,o4,L4,rfl,eC,Cq,gZ⟩;have fZ:=aa (eu.o.trans eC (fun _ _ h=>h.elim));have R3:Hid (∀x,¬gT out x->x≠out/\x ∉ (rs.take N).map (·.1)):=aa (fun x hx=>⟨fun e=>hx (.inl e),fun e=>by
      obtain⟨p,hp,e'⟩:=List.mem_map.1 e;exact hx (HRS.o x (List.mem_map.2 ⟨p,List.mem_of_mem_take hp,e'⟩))⟩)
     by_cases tZ:c4=0
     ·subst tZ;have Vg:=aa (Ap.o.merge (q:=N) Zs.o);have R4:Hid (∀x,aA L4 x=aA (dL (merged by' rs N out) L) x):=aa (by
       rcases gZ with⟨_,e⟩| e
       ·rw[e];exact Ao Ap.o Zs.o HNL.o Dl.o
       ·exact absurd rfl e.ne)
      have J7:Hid (bH w4 (.slice (some ⟨g,off,none⟩) N cap) (rs.map (·.1))):=aa (TV.o.kept (fun b hb=>eC.block (TV.o.lt b hb) (EN.o b hb).1 (fun h=>h)));have tq:Hid (o4 g=none/\w.heap.size<=g):=aa ⟨eC.free (TV.o.lt g rfl) (EN.o g rfl).1,(EN.o g rfl).2⟩;have HJ4:Hid (cT w4 jb pb bf mk by'):=aa (U4.o.kept (eC.block U4.o.lt.1 (eu.o.free RU UW.o) (fun h=>h)) (eC.block U4.o.lt.2 (eu.o.free Vp Vk.o) (fun h=>h)));have R5:merged by' rs N out=[(out,aK by' (dZ (rs.take N)))]:=by
       unfold merged;rw[List.drop_of_length_le (by rw[HN.o];exact Nat.le_refl _),List.nil_append]
      have Mr:Hid (∀vd v5 w5 ob,vd.ownBlock=some g->lh (w4.alloc ob) vd [] out v5 w5->kD n pb db jb bf cb by' w o d L out es 1 v5 w5):=aa (fun vd v5 w5 ob hvd Ju=>by
       refine kD.next (q:=N) fZ.o HJ4.o RU Vp hvd tq.o Ju (by rw[R5];rfl) Vg.o R4.o (.inl ⟨_,R5⟩) (by rw[R5];simp only[List.length_singleton];omega) (by rw[R5];rfl))
      have HVD:Hid (∀ob,(cap=N->bH (w4.alloc ob) (.slice (some ⟨g,off,none⟩) 0 0) [])/\(N<cap->bH (w4.alloc ob) (.slice (some ⟨g,off+N,none⟩) 0 (cap-N)) [])):=aa (fun ob=>⟨fun e=>(J7.o.UQ e.symm).below (aj.alloc (Nat.le_refl _) ob),fun e=>by
       have:=J7.o.drop (n:=N) (by rw[List.length_map,HN.o];exact Nat.le_refl _);rw[Nat.sub_self,List.drop_of_length_le (by rw[List.length_map,HN.o];exact Nat.le_refl _)]at this;exact this.below (aj.alloc (Nat.le_refl _) ob)⟩)
      clear eC Cq gZ Ei R5;by_cases hcN:cap=N
      ·have HCN:=aa hcN;subst hcN;have HV0:Hid (∀ob,bH (w4.alloc ob) (.slice (some ⟨g,off,none⟩) 0 0) []):=aa (fun ob=>(HVD.o ob).1 rfl);go_wp2_with (at_builtin;refine iE rfl _ _ 91 rfl Tryz.underlying91 rfl (HV0.o _) out ⟨w4.heap.size,0,none⟩ 1 rfl ah ah ?_);intro v5 w5 Ju;have HNY:=aa (Mr.o _ v5 w5 _ rfl Ju);clear Ju;go_wp2;go_roundg 1
       case measure=>have:=RZ.o;omega
       case rel=>exact HNY.o
      ·have aiJ:N<cap:=by omega
       go_wp2_with (at_builtin;refine iE rfl _ _ 91 rfl Tryz.underlying91 rfl ((HVD.o _).2 aiJ) out ⟨w4.heap.size,0,none⟩ 1 rfl ah ah ?_);intro v5 w5 Ju;have HNY:=aa (Mr.o _ v5 w5 _ rfl Ju);clear Ju;go_wp2;go_roundg 1
       case measure=>have:=RZ.o;omega
       case rel=>exact HNY.o
     ·have aiG:¬(c4:Int)=0:=by omega
      have B0:Hid (jq d d4 (need L+8*es.length) c4):=aa (((gZ.resolve_left (fun h=>tZ h.1)).mono (by
       have h1:=rz.o;have h2:=pC rs N;have h3:=Ap.o.len;omega)).later eu.o.on.bD)
      have Oa:Hid (∀x,¬gT out x->aA L4 x=aA L x):=aa (fun x hx=>by rw[Cq x (R3.o x hx).1 (R3.o x hx).2,N9.o x hx]);clear tZ eC Cq gZ Ei;go_wp2;go_ret;exact⟨c4,d4,o4,L4,rfl,fZ.o,Oa.o,.inr B0.o⟩
 ·have zr:¬(c1:Int)=0:=by have:=tu.ne;omega
  have Da:=aa tu;clear tu dY Zq;go_wp2;go_ret;exact⟨c1,d1,o1,L1,rfl,eo.o,adj.o,.inr Da.o⟩
end
end
end Go.Proofs.YthkkgdpomhhjjaaGreatDoor
