/-
  Joined.
-/
import Derived.Test.YthkkgdpomhhjjaaGreatDoorD07
set_option maxRecDepth 100000
set_option maxHeartbeats 32000000
namespace Go.Proofs.YthkkgdpomhhjjaaGreatDoor
open Go.Proofs.Tryz
section
open Go.RowKit Go.Maps Go.MapKept
section
variable {S:Nat->Prop} {w w':World} {pb db n cb kb sb jb bf made:Nat} {by':Bool} {name:Name} {o o':ar} {d d':Dsk} {L L':aD}
theorem jv(h:aQ w pb db n o d L):Calls prog 44 #[ptrTo pb] w fun e w'=>e=.returned (.int .i64 (n:Int))/\w=w':=by
 obtain⟨fb,mb,l,hand,mf,hp,rfl,-⟩:=h;obtain⟨⟨-,hc1,-⟩,-⟩:=hp.head.cells;have hm:=hp.most;clear hp;unfold ptrTo;generalize l.length=n at *;go_enter func44,ntmps44;go_wp2;go_ret;exact⟨rfl,rfl⟩
theorem aC.Vs(hst:aC w sb pb name 20)(hm:au S n pb db w o d w' o' d' L')(ho:o sb=none)(hs:¬S sb):aC w' sb pb name 20:=hst.moved hm ho hs
def pC(w:World)(cb N:Nat):Nat:=N-(intOf ((w.cell? ⟨cb,1,none⟩).getD undef)).toNat
theorem pD{i N:Nat}{x:aJ}(h:bC w cb sb i N x):pC w cb N=N-i:=by
 unfold pC;rw[h.cells.1.2.1];simp[intOf]
def wF(many:Bool)(out:Name)(r:Nat):Name:=if many then dz r else out
structure mS(n pb db jb bf cb sb:Nat)(by':Bool)(w:World)(o:ar)(d:Dsk)(N made p:Nat)(v:Value)(nm:List Name)(l:Value)(c:List aJ)(W:World)(o':ar)(d':Dsk)(L':aD):Prop where
 mv:au (fun x=>x=cb\/x=jb) n pb db w o d W o' d' L'
 EE:cU W jb pb bf made by'
 src:∃x,bC W cb sb p N x
 row:W.ownsRow w.heap.size 9 1 v nm.length (nm.map Value.string)
 rf:∀x,v.ownBlock=some x->o' x=none
 ed:aI W w.heap.size l c
 ef:∀x,l.ownBlock=some x->o' x=none
 old:(jb<w.heap.size/\o jb=none)/\(bf<w.heap.size/\o bf=none)/\cb<w.heap.size/\o cb=none
theorem mS.step{N made p:Nat}{v l:Value}{nm:List Name}{c:List aJ}{W W':World}{gP:ar}{gB:Dsk}(h:mS n pb db jb bf cb sb by' w o d N made p v nm l c W o' d' L'){T:Nat->Prop}{xQ:aD}(_hm:au (fun x=>x=cb\/x=jb) n pb db w o d W' gP gB xQ)(ho:∀x,x<W.heap.size->o' x=none->gP x=none)(hh:∀x,x<W.heap.size->o' x=none->¬T x->W'.heap[x]? = W.heap[x]?) :
 (¬T jb->¬T bf->cU W' jb pb bf made by')/\(¬T cb->∃x,bC W' cb sb p N x)/\((∀x,v.ownBlock=some x->¬T x)->W'.ownsRow w.heap.size 9 1 v nm.length (nm.map Value.string)/\∀x,v.ownBlock=some x->gP x=none)/\((∀x,l.ownBlock=some x->¬T x)->aI W' w.heap.size l c/\∀x,l.ownBlock=some x->gP x=none):=by
 obtain⟨⟨j1,j2⟩,⟨b1,b2⟩,c1,c2⟩:=h.old;have hz:=h.mv.size;refine⟨fun t1 t2=>h.EE.kept (hh _ ae (h.mv.free j1 j2) t1) (hh _ ae (h.mv.free b1 b2) t2),fun t=>?_,fun t=>⟨bI h.row fun x hx=>hh x (aL h.row x hx).1 (h.rf x hx) (t x hx),fun x hx=>ho x (aL h.row x hx).1 (h.rf x hx)⟩,fun t=>⟨bI h.ed fun x hx=>hh x (aL h.ed x hx).1 (h.ef x hx) (t x hx),fun x hx=>ho x (aL h.ed x hx).1 (h.ef x hx)⟩⟩;obtain⟨x,hx⟩:=h.src;exact⟨x,hx.kept (hh _ ae (h.mv.free c1 c2) t)⟩
structure pE(by':Bool)(out:Name)(es:List aJ)(most:Nat)(many:Bool)(rs:List tB)(i:Nat):Prop where
 nm:rs.map (·.1)=(List.range rs.length).map (wF many out)
 at':i=min es.length (rs.length*most)
 each:∀p∈rs,aK by' p.2=p.2
 all:aK by' (en rs)=aK by' (es.take i)
 len:lens rs<=i
 one:many=false->rs.length<=1
 pos:0<rs.length->0<es.length
 top:rs.length<=51
def Hv(n pb db jb bf cb sb:Nat)(by':Bool)(w:World)(o:ar)(d:Dsk)(L:aD)(out:Name)(es:List aJ)(most:Nat)(many:Bool)(v:Value)(wr:World):Prop:=
 ∃rs i o' d',pE by' out es most many rs i/\mS n pb db jb bf cb sb by' w o d es.length (if many=true then rs.length else 0) i v (rs.map (·.1)) (.slice none 0 0) [] wr o' d' (dO rs L)
def qL(n pb db jb bf cb:Nat)(by':Bool)(w:World)(o:ar)(d:Dsk)(L:aD)(out:Name)(es:List aJ)(e:Ending)(w':World):Prop:=
 ∃v c d' o' L',e=.returned (.tuple #[v,.int .i64 ((c:Nat):Int)])/\au (fun x=>x=cb\/x=jb) n pb db w o d w' o' d' L'/\(∀x,¬gW out x->aB L' x=aB L x) /\
  ((c=0/\∃rs r,L'=dO rs L/\nL by' es rs/\((∃x,rs=[(out,x)])\/(2<=rs.length/\48<es.length/\∀p∈rs,∃k,k<r/\p.1=dz k))/\r<=rs.length/\rs.length<=51/\cU w' jb pb bf r by'/\bH w' v (rs.map (·.1))/\∀b,v.ownBlock=some b->o' b=none/\w.heap.size<=b)\/ju d d' (need L+8*es.length) c)
theorem x9(many:Bool)(out:Name)(r:Nat)(h1:many=false->r<=1) :
 ((List.range r).map (wF many out)).Nodup/\(r<=51->∀x∈(List.range r).map (wF many out),gW out x):=by
 constructor
 ·cases many with
  |true=>exact List.pairwise_map.2 (List.nodup_range.imp (fun{a b}h e=>h (wD e)))
  |false=>
    have:=h1 rfl;match r,this with
    |0,_=>exact List.Pairwise.nil
    |1,_=>exact List.pairwise_singleton _ _
 ·intro hr x hx;obtain⟨k,hk,rfl⟩:=List.mem_map.1 hx;rw[List.mem_range]at hk;cases many with
  |true=>exact .inr ⟨k,ae,rfl⟩
  |false=>exact .inl rfl
theorem KG(many:Bool)(out:Name)(r:Nat)(h1:many=false->r=0):wF many out r ∉ (List.range r).map (wF many out):=by
 intro hx;obtain⟨k,hk,e⟩:=List.mem_map.1 hx;rw[List.mem_range]at hk;cases many with
 |true=>have:=wD e;omega
 |false=>have:=h1 rfl;omega
theorem pE.fin{by':Bool}{out:Name}{es:List aJ}{X M:Nat}{many:Bool}{rs:List tB}{i:Nat}(h:pE by' out es X many rs i)(hX:X=min es.length M)(h48:48<=M)(hm:many=true↔M<es.length)(hi:i=es.length)(h0:0<es.length) :
 nL by' es rs/\((∃x,rs=[(out,x)])\/(2<=rs.length/\48<es.length/\∀p∈rs,∃k,k<(if many=true then rs.length else 0)/\p.1=dz k)):=by
 have hl:=h.at';refine⟨⟨h.each,by rw[h.all,List.take_of_length_le ae],by have:=h.len;omega,by rw[h.nm];exact(x9 many out _ h.one).1⟩,?_⟩;cases many with
 |true=>
   have hM:=hm.1 rfl;obtain rfl:X=M:=by omega
   refine .inr ⟨?_,ae,fun p hp=>?_⟩
   ·rcases Nat.lt_or_ge rs.length 2 with g | g
    ·have g2:rs.length=0\/rs.length=1:=by omega
     rcases g2 with g2 | g2<;>rw[g2]at hl<;>omega
    ·exact g
   ·have h4:=List.mem_map_of_mem (f:=(·.1)) hp;rw[h.nm]at h4;obtain⟨q,hq,e⟩:=List.mem_map.1 h4;exact⟨q,List.mem_range.1 hq,e.symm⟩
 |false=>
   match rs,h with
   | [],_=>simp at hl;omega
   | [p],h=>exact .inl ⟨p.2,by have e:=(List.cons.inj h.nm).1;rw[show out=p.1 from e.symm]⟩
   |_::_::_,h=>have:=h.one rfl;simp at this
theorem pE.next{by':Bool}{out:Name}{es:List aJ}{X M:Nat}{many:Bool}{rs:List tB}{i k:Nat}(h:pE by' out es X many rs i)(hX:X=min es.length M)(h48:48<=M)(hN:es.length<=2400)(hm:many=true↔M<es.length)(hk:k=min X (es.length-i))(h0:0<k\/es.length=0) :
 rs.length<51/\(many=false->rs.length=0)/\(0<es.length->pE by' out es X many (rs++[(wF many out rs.length,aK by' ((es.drop i).take k))]) (i+k)):=by
 have hl:=h.at';have h1:many=false->rs.length=0:=fun e=>by
  have g1:=h.one e;have g2:=h.pos;have g3:¬M<es.length:=fun g=>by rw[hm.2 g]at e;cases e
  rcases Nat.eq_zero_or_pos rs.length with g | g
  ·exact g
  ·have g5:rs.length=1:=by omega
   have:=g2 g;rw[g5]at hl;omega
 have h51:rs.length<51:=by
  cases many with
  |false=>have:=h1 rfl;omega
  |true=>
    have g1:=hm.1 rfl;obtain rfl:X=M:=by omega
    have:=Nat.mul_le_mul_left rs.length h48;omega
 have e1:es.take (i+k)=es.take i++(es.drop i).take k:=by rw[List.take_add]
 refine⟨h51,h1,fun hp=>⟨?_,?_,fun p hp=>?_,?_,?_,fun e=>?_,fun _=>hp,by rw[List.length_append];exact h51⟩⟩
 ·rw[List.map_append,h.nm,List.length_append,List.length_singleton,List.range_succ,List.map_append];rfl
 ·rw[List.length_append,List.length_singleton,Nat.add_mul,Nat.one_mul];generalize rs.length*X=P at *;omega
 ·rcases List.mem_append.1 hp with hp | hp
  ·exact h.each p hp
  ·rw[List.mem_singleton.1 hp];exact mQ _ _
 ·rw[uz,e1,show en [(wF many out rs.length,aK by' ((es.drop i).take k))]=aK by' ((es.drop i).take k) by simp[en]];exact N8 h.all (mQ _ _)
 ·have h2:=cd by' ((es.drop i).take k)
  rw[List.length_take]at h2;rw[x7,show lens [(wF many out rs.length,aK by' ((es.drop i).take k))]=(aK by' ((es.drop i).take k)).length by simp[lens]];have:=h.len;omega
 ·rw[List.length_append,h1 e];exact Nat.le_refl _
theorem Hw(HW:aP){m:Nat}(HS:qH m)(h:aQ w pb db n o d L)(hn:8<=n)(hj:cU w jb pb bf 0 by')(lI:o jb=none)(Cx:o bf=none)(hne:bf≠jb){es:List aJ}{fl:Bool}{rE out:Name}{x0:aJ}(hL:aB L rE=some (aw es fl))(pA:bC w cb sb 0 es.length x0)(hst:aC w sb pb rE 20)(NY:o cb=none)(Vt:o sb=none)(hcj:cb≠jb)(hcb:cb≠bf)(hsj:sb≠jb)(hsc:sb≠cb)(hout:bM out=true)(hno:aB L out=none)(BQ:∀k,aB L (dz k)=none)(_hto:∀k,out≠dz k)(hm:es.length<=m)(hN:es.length<=2400) :
 Calls prog 177 #[ptrTo jb,ptrTo cb,.string out] w (qL n pb db jb bf cb by' w o d L out es):=by
 have Uh:n<=4096:=by
  obtain⟨fb,mb,l,hand,mf,hp,rfl,-⟩:=h;exact hp.most
 have rF:=aa (jv h);obtain⟨M,hM⟩:∃M:Nat,M=(n-4)*12:=⟨_,rfl⟩;obtain⟨N,Y2⟩:∃N,N=es.length:=⟨_,rfl⟩;obtain⟨X,hX⟩:∃X,X=min N M:=⟨_,rfl⟩;obtain⟨many,hmy⟩:∃b,b=decide (M<N):=⟨_,rfl⟩;have HX:Hid (X=min N M/\48<=M/\N<=2400/\(many=true↔M<N)/\N=es.length):=aa ⟨hX,ae,ae,by rw[hmy,decide_eq_true_eq],Y2⟩;have Hx:Hid (∀{made p v nm l c W o' d' rs},mS n pb db jb bf cb sb by' w o d N made p v nm l c W o' d' (dO rs L)->(∀x∈rs.map (·.1),gW out x)->∀x,es[p]? = some x->Calls prog 221 #[ptrTo cb] W (Ak n pb db W o' d' (dO rs L) cb sb p N x)):=aa (fun hs hrs x hx=>by
  obtain⟨_,hsx⟩:=hs.src;have hi:=aM hx;rw[List.getElem?_eq_getElem hi]at hx;obtain rfl:=Option.some.inj hx;rw[Y2]at hsx ⊢;refine si HW hs.mv.aX (hst.Vs hs.mv Vt (fun e=>e.elim hsc hsj)) (hs.mv.free hst.lt Vt) hsx (hs.mv.free pA.lt NY) (fl:=fl) ?_ hi;rw[eK,hL];intro hx;rcases hrs _ hx with e |⟨k,_,e⟩
  ·rw[e,hno]at hL;cases hL
  ·rw[e,BQ]at hL;cases hL)
 have RS:Hid (∀{made p v nm l c W o' d' rs}(out':Name),mS n pb db jb bf cb sb by' w o d N made p v nm l c W o' d' (dO rs L)->bM out'=true->aB (dO rs L) out'=none->c.length<=es.length ->
  Calls prog 222 #[ptrTo jb,.string out',l] W (Hq (fun x=>l.ownBlock=some x) n pb db W o' d' (dO rs L) out' (aK by' c) (need (dO rs L)+4*c.length))):=aa (fun out' hs eD Zv hc=>
  EO HW HS hs.mv.aX hs.EE (hs.mv.free hj.lt.1 lI) (hs.mv.free hj.lt.2 Cx) eD Zv hs.ed (fun x hx=>by have h1:=aF hs.ed x hx;have:=hj.lt;exact⟨hs.ef x hx,ae,ae⟩) ae ae)
 have EU:Hid (mS n pb db jb bf cb sb by' w o d N 0 0 (.slice none 0 0) [] (.slice none 0 0) [] w o d L):=aa ⟨au.refl _ h,hj,by rw[Y2];exact⟨_,pA⟩,World.ownsRow_nil w _ _ 1,fun x hx=>(by cases hx),World.ownsRow_nil w _ _ 4,fun x hx=>(by cases hx),⟨hj.lt.1,lI⟩,⟨hj.lt.2,Cx⟩,pA.lt,NY⟩;have sX:=aa (show bf≠jb/\cb≠jb/\cb≠bf from⟨hne,hcj,hcb⟩);have GI:Hid (∀rs i,pE by' out es X many rs i->(∀x∈rs.map (·.1),gW out x)/\(∀x,¬gW out x->aB (dO rs L) x=aB L x)/\need (dO rs L)<=need L+4*i):=aa (fun rs i hr=>by
  have h1:∀x∈rs.map (·.1),gW out x:=by rw[hr.nm];exact(x9 many out _ hr.one).2 hr.top
  refine⟨h1,fun x hx=>eK _ _ _ (fun hm=>hx (h1 x hm)),?_⟩;have:=s9 rs L;have:=hr.len;omega)
 have Xx:Hid (∀rs i,pE by' out es X many rs i->(many=false->rs.length=0)->rs.length<51->aB (dO rs L) (wF many out rs.length)=none/\bM (wF many out rs.length)=true/\gW out (wF many out rs.length)):=aa (fun rs i hr h1 h2=>by
  refine⟨?_,?_⟩
  ·rw[eK]
   ·cases many
    ·exact hno
    ·exact BQ _
   ·rw[hr.nm];exact KG many out _ h1
  ·cases many
   ·exact⟨hout,.inl rfl⟩
   ·exact⟨Hu ae,.inr ⟨_,ae,rfl⟩⟩)
 obtain⟨⟨-,-,hs2⟩,-⟩:=pA.cells;rw[<- Y2]at hs2;obtain⟨Ub,-⟩:=hj.cells;have rN:IntKind.i64.wrap ((n:Int)-4)=(n:Int)-4:=ax ae ae;have hw2:IntKind.i64.wrap (((n:Int)-4)*12)=(M:Int):=by rw[ax]<;>omega
 clear h hj lI Cx hL pA hst NY Vt hsj hsc hout hno BQ _hto hm hne hcj hcb hM hX hmy Y2 hN;unfold ptrTo at *;go_enter func177,ntmps177;go_wp2_with fail;refine rF.o.mono ?_;rintro e w'⟨rfl,rfl⟩;go_upto_if 27 with fail
 go_cut [8] from 22 to 31 (fun v wx=>v=.int .i64 (X:Int)/\w=wx)
 case first=>
  by_cases hNM:(N:Int)<=(M:Int)
  ·have hd:decide ((N:Int)<=(M:Int))=true:=decide_eq_true hNM;have hXN:(X:Int)=(N:Int):=by have:=HX.o;omega
   go_wp2;go_meet
   exact⟨by rw[hXN],rfl⟩
  ·have hd:decide ((N:Int)<=(M:Int))=false:=decide_eq_false hNM;have hXN:(X:Int)=(M:Int):=by have:=HX.o;omega
   go_wp2;go_meet
   exact⟨by rw[hXN],rfl⟩
 case rest=>
  obtain⟨rfl,rfl⟩:=hcut;clear rN hw2 hs2 rF Ub;go_wp2_with fail;go_loopw [9] (fun v wr=>Hv n pb db jb bf cb sb by' w o d L out es X many v wr) (fun _ wr=>pC wr cb N)
  case atStart=>exact⟨[],0,o,d,⟨rfl,ah,fun p hp=>(by cases hp),by simp[en],Nat.zero_le _,fun _=>Nat.zero_le _,fun g=>absurd g (Nat.lt_irrefl 0),Nat.zero_le _⟩,by rw[<- HX.o.2.2.2.2];cases many<;>exact EU.o⟩
  case round=>
   generalize u9=v at *;generalize wr=W1 at *;obtain⟨rs,i,o1,d1,hr,hs⟩:=hrel;rw[<- HX.o.2.2.2.2]at hs;have HR:=aa hr;have iY:=aa hs;have N9:Hid (pC W1 cb N=N-i/\i<=N):=aa ⟨by obtain⟨_,h⟩:=hs.src;exact pD h,by have:=hr.at';have:=HX.o.2.2.2.2;omega⟩;clear hr hs EU;generalize hjm:(if many=true then rs.length else 0)=jm at *;have HJM:=aa hjm;clear hjm;go_upto_block 2 with fail
   go_cut [10] from 32 to 53 (fun lv W=>∃(k:Nat)(la:Option Addr)(lc:Nat)(o':ar)(d':Dsk),lv=.slice la k lc/\k=min X (N-i)/\Hid (mS n pb db jb bf cb sb by' w o d N jm (i+k) v (rs.map (·.1)) (.slice la k lc) ((es.drop i).take k) W o' d' (dO rs L)))
   case first=>
    go_wp2_with fail;go_loopw [10] (fun lv W=>∃(k:Nat)(la:Option Addr)(lc:Nat)(o':ar)(d':Dsk),lv=.slice la k lc/\k<=X/\i+k<=N/\Hid (mS n pb db jb bf cb sb by' w o d N jm (i+k) v (rs.map (·.1)) (.slice la k lc) ((es.drop i).take k) W o' d' (dO rs L))) (fun _ W=>pC W cb N)
    case atStart=>exact⟨0,none,0,o1,d1,rfl,Nat.zero_le _,N9.o.2,iY⟩
    case round=>
     generalize wr=W2 at *;obtain⟨k,la,lc,o2,d2,rfl,hk,hik,eR⟩:=hrel;have eB:Hid (pC W2 cb N=N-(i+k)):=aa (by obtain⟨_,h⟩:=eR.out.src;exact pD h);clear iY;by_cases hlt:k<X
     ·by_cases qh:i+k<N
      ·have PT:i+k<es.length:=by have:=HX.o;omega
       obtain⟨y,hy⟩:∃y,es[i+k]? = some y:=⟨_,List.getElem?_eq_getElem PT⟩;have sk:Hid ((es.drop i).take k++[y]=(es.drop i).take (k+1)/\((es.drop i).take k).length=k):=aa ⟨(by
        rw[List.take_add_one,List.getElem?_drop,hy];rfl),by rw[List.length_take,List.length_drop];omega⟩
       have aN:=aa (Hx.o eR.out (GI.o _ _ HR.o).1 y hy);clear PT hy;unfold ptrTo at aN;go_wp2_with fail;refine aN.o.mono ?_;rintro e W3⟨c3,d3,o3,rfl,ej,Dm,hs3⟩;have eC:=aa (eR.out.mv.trans ej (fun x _ e=>.inl e));obtain⟨PQ,-,hv3,N0⟩:=eR.out.step (T:=(·=cb)) eC.o (fun x h1 h2=>ej.free h1 h2) (fun x h1 h2 h3=>ej.block h1 h2 h3);have Zw:=aa (PQ (fun e=>sX.o.2.1 e.symm) (fun e=>sX.o.2.2 e.symm));have FQ:=aa (hv3 (fun x hx e=>by have:=aF eR.out.row x hx;have:=eR.out.old;omega));have RT:=aa (N0 (fun x hx e=>by have:=aF eR.out.ed x hx;have:=eR.out.old;omega));have mG:=aa eR.out.old;have HQU:=aa eR.out.mv.on.bD;have Ck:=aa Dm;have JD:=aa hs3;have hz3:w.heap.size<=W3.heap.size:=eC.o.size;clear ej Dm hs3 PQ hv3 N0 aN eR;by_cases hc3:c3=0
       ·subst hc3;have BG:=aa (JD.o rfl);obtain⟨-,⟨k0,k1,k2,k3⟩,-⟩:=BG.o.cells;go_wp2_with (at_builtin;refine cS rfl _ _ rfl w.heap.size _ _ rfl RT.o.1 y 1 rfl (by rw[sk.o.2];have:=HX.o;omega) hz3 ?_);intro l4 W4 hl4 KH;obtain⟨eG,Oa,PD,uY⟩:=KH.moved eC.o (fun x hx=>⟨RT.o.2 x hx,aF RT.o.1 x hx⟩);rw[sk.o.1]at hl4;obtain⟨a4,c4,rfl⟩:=az hl4;have hlen:((es.drop i).take (k+1)).length=k+1:=by rw[<- sk.o.1,List.length_append,sk.o.2];rfl
        rw[hlen]at hl4 Oa ⊢;have h3:mS n pb db jb bf cb sb by' w o d N jm (i+k+1) v (rs.map (·.1)) (.slice la k lc) ((es.drop i).take k) W3 o3 d3 (dO rs L):=⟨eC.o,Zw.o,⟨_,BG.o⟩,FQ.o.1,FQ.o.2,RT.o.1,RT.o.2,mG.o⟩
        obtain⟨hj5,hs5,Ui,-⟩:=h3.step (T:=fun x=>(Value.slice la k lc).ownBlock=some x) eG (fun _ _ e=>e) (fun x h1 _ h3=>PD x h1 h3);have hb:=fun x hx=>aF RT.o.1 x hx;have hold:=mG.o;have b9:Hid (mS n pb db jb bf cb sb by' w o d N jm (i+(k+1)) v (rs.map (·.1)) (.slice a4 (k+1) c4) ((es.drop i).take (k+1)) W4 o3 d3 (dO rs L)):=aa ⟨eG,hj5 (fun e=>by have:=hb _ e;omega) (fun e=>by have:=hb _ e;omega),hs5 (fun e=>by have:=hb _ e;omega),(Ui (fun x hx e=>j9 FQ.o.1 RT.o.1 af x hx e)).1,FQ.o.2,hl4,fun x hx=>(Oa x hx).1,hold⟩;clear eG Oa PD KH hl4 k0 k1 k2 k3 h3 hj5 hs5 Ui hb hold hlen;go_wp2;go_roundw
        case rel=>exact⟨k+1,a4,c4,o3,d3,rfl,ae,ae,b9⟩
        case measure=>obtain⟨_,h⟩:=b9.o.src;rw[eB.o,pD h];omega
       ·have Kn:¬(c3:Int)=0:=by omega
        have Xa:(c3 == 0)=false:=by simpa using hc3
        have HQ:Hid (qL n pb db jb bf cb by' w o d L out es (.returned (.tuple #[v,.int .i64 (c3:Int)])) W3):=aa (by
         obtain⟨-,g2,g3⟩:=GI.o _ _ HR.o;have:=HR.o.top;have:=HR.o.pos;have hx:=HX.o;exact⟨_,c3,d3,o3,_,rfl,eC.o,g2,.inr (((Ck.o.resolve_left hc3).num ae).later HQU.o)⟩)
        clear hc3;go_wp2;go_ret2;exact HQ.o
      ·obtain⟨x2,hx2⟩:=eR.out.src;have hend:=aa (lZ hx2 ae);unfold ptrTo at hend;clear hx2;go_wp2_with fail;refine hend.o.mono ?_;rintro e W5⟨rfl,q5,rfl⟩;have b9:Hid (mS n pb db jb bf cb sb by' w o d N jm (i+k) v (rs.map (·.1)) (.slice la k lc) ((es.drop i).take k) (W2.drewN q5) o2 d2 (dO rs L)):=aa (by
        have h:=eR.out;obtain⟨_,hx⟩:=h.src;exact⟨h.mv.drewN q5,h.EE.below (below_drewN aj _),⟨_,hx.below (below_drewN aj _)⟩,h.row,h.rf,h.ed,h.ef,h.old⟩)
       clear hend eR;go_wp2;go_meet
       exact⟨k,la,lc,o2,d2,rfl,ae,b9⟩
     ·have apk:¬((k:Int)<(X:Int)):=by omega
      go_wp2;go_meet
      exact⟨k,la,lc,o2,d2,rfl,ae,eR⟩
   case rest=>
    obtain⟨k,la,lc,o2,d2,rfl,hk,eR⟩:=hcut;generalize wc=W2 at *;obtain⟨x2,hx2⟩:=eR.out.src;obtain⟨⟨-,-,c2⟩,-⟩:=hx2.cells;have HK:=aa hk;clear hx2 iY Hx;by_cases hK0:k=0/\0<N
    ·obtain⟨rfl,Qr⟩:=hK0;have apl:(N:Int)>0:=by omega
     have HQ:Hid (qL n pb db jb bf cb by' w o d L out es (.returned (.tuple #[v,.int .i64 0])) W2):=aa (by
      have hx:=HX.o;have BV:=N9.o;have hl:=HK.o;obtain⟨g1,g2⟩:=HR.o.fin (M:=M) (by rw[<- hx.2.2.2.2];exact hx.1) hx.2.1 (by rw[<- hx.2.2.2.2];exact hx.2.2.2.1) ae ae;rw[HJM.o]at g2;have hs:=eR.out;refine⟨v,0,d2,o2,_,rfl,hs.mv,(GI.o _ _ HR.o).2.1,.inl ⟨rfl,rs,jm,rfl,g1,g2,by rw[<- HJM.o];split<;>omega,HR.o.top,hs.EE,bH.Dr hs.row (fun e=>?_),fun b hb=>⟨hs.rf b hb,aF hs.row b hb⟩⟩⟩;have e0:rs.length=0:=by simpa using congrArg List.length e
      rcases g2 with⟨x,g⟩|⟨g,_⟩
      ·rw[g]at e0;cases e0
      ·omega)
     clear hk;go_wp2;go_ret2;exact HQ.o
    ·have PF:Hid (rs.length<51/\(many=false->rs.length=0)/\(0<es.length->pE by' out es X many (rs++[(wF many out rs.length,aK by' ((es.drop i).take k))]) (i+k))):=aa (by
      obtain⟨x1,x2,x3,x4,x5⟩:=HX.o;rw[x5]at x1 x3 x4 hk hK0;exact HR.o.next x1 x2 x3 x4 hk ae)
     have JH:0<k\/N=0:=by omega
     have HF:=aa (Xx.o _ _ HR.o PF.o.2.1 PF.o.1);obtain⟨NM,hNM⟩:∃y,y=wF many out rs.length:=⟨_,rfl⟩;rw[<- hNM]at HF PF;have RU:=aa hNM;clear hNM hk;go_upto_region 12 with fail
     go_cut [63] from 54 to 62 (fun b W=>b=.bool false/\W2=W)
     case first=>
      by_cases FV:k=0
      ·have hN0:decide (0<N)=false:=decide_eq_false ae;have hkb:((k:Int) == 0)=true:=by simp[FV]
       clear JH hK0 FV;go_wp2;go_meet
       exact⟨rfl,rfl⟩
      ·have hkb:((k:Int) == 0)=false:=by simp[FV]
       clear JH hK0 FV;go_wp2;go_meet
       exact⟨rfl,rfl⟩
     case rest=>
     obtain⟨rfl,rfl⟩:=hcut;go_upto_if 71 with fail
     go_cut [13] from 66 to 73 (fun nv W=>nv=.string NM/\Hid (mS n pb db jb bf cb sb by' w o d N (if many=true then rs.length+1 else 0) (i+k) v (rs.map (·.1)) (.slice la k lc) ((es.drop i).take k) W o2 d2 (dO rs L)))
     case first=>
      cases U0:many
      ·have xL:¬(N:Int)>(X:Int):=by have:=HX.o;rw[U0]at this;simp at this;omega
       have kV:Hid (NM=out/\jm=0):=aa (by rw[RU.o,<- HJM.o,U0];exact⟨rfl,rfl⟩);have Ob:=aa U0;clear U0;go_wp2;go_meet
       exact⟨by rw[kV.o.1],by rw[kV.o.2]at eR;rw[Ob.o];exact eR⟩
      ·have xL:(N:Int)>(X:Int):=by have:=HX.o;rw[U0]at this;simp at this;omega
       have kV:Hid (NM=dz rs.length/\jm=rs.length):=aa (by rw[RU.o,<- HJM.o,U0];exact⟨rfl,rfl⟩);have Ob:=aa U0;clear U0;have aN:=aa (Ds eR.out.EE (by rw[kV.o.2];have:=PF.o.1;omega) sX.o.1);unfold ptrTo at aN;go_wp2_with fail;refine aN.o.mono ?_;rintro e W6⟨rfl,hj6,UQ⟩;have gA:Hid (mS n pb db jb bf cb sb by' w o d N (rs.length+1) (i+k) v (rs.map (·.1)) (.slice la k lc) ((es.drop i).take k) W6 o2 d2 (dO rs L)):=aa (by
        have h:=eR.out;have hm:=h.mv.turned (h.mv.free h.old.1.1 h.old.1.2) (.inl (.inr rfl)) UQ;obtain⟨-,g2,g3,g4⟩:=h.step (T:=(·=jb)) hm (fun _ _ e=>e) (fun x h1 _ h3=>UQ.block x h1 h3);have hold:=h.old;have g5:=g3 (fun x hx e=>by have:=aF h.row x hx;omega);have g6:=g4 (fun x hx e=>by have:=aF h.ed x hx;omega);rw[kV.o.2]at hj6;exact⟨hm,hj6,g2 sX.o.2.1,g5.1,g5.2,g6.1,g6.2,h.old⟩)
       rw[kV.o.2,<- kV.o.1];clear hj6 UQ aN;go_wp2;go_meet
       exact⟨rfl,by rw[Ob.o];exact gA⟩
     case rest=>
      obtain⟨rfl,gA⟩:=hcut;generalize wc=W6 at *;clear eR c2;generalize hcc:(es.drop i).take k=C at *;have HCL:Hid (C.length<=es.length/\C.length<=k):=aa ⟨by rw[<- hcc,List.length_take,List.length_drop];omega,by rw[<- hcc,List.length_take];omega⟩;clear hcc;have UU:(rs.map (·.1)).length<=100000:=by rw[List.length_map];have:=PF.o.1;omega
      have WU:w.heap.size<=W6.heap.size:=gA.o.mv.size;go_wp2_with (at_builtin;refine uB rfl _ _ rfl w.heap.size _ _ rfl gA.o.row NM 1 rfl UU WU ?_);intro v7 W7 hv7 Xy;have jU:Hid (mS n pb db jb bf cb sb by' w o d N (if many=true then rs.length+1 else 0) (i+k) v7 (rs.map (·.1)++[NM]) (.slice la k lc) C W7 o2 d2 (dO rs L)):=aa (by
       have h:=gA.o;obtain⟨tC,aiR,hh7,hz7⟩:=Xy.moved h.mv (fun x hx=>⟨h.rf x hx,aF h.row x hx⟩);obtain⟨g1,g2,-,g4⟩:=h.step (T:=fun x=>v.ownBlock=some x) tC (fun _ _ e=>e) (fun x h1 _ h3=>hh7 x h1 h3);have hb:=fun x hx=>aF h.row x hx;have hold:=h.old;have g5:=g4 (fun x hx e=>j9 h.ed h.row af x hx e);exact⟨tC,g1 (fun e=>by have:=hb _ e;omega) (fun e=>by have:=hb _ e;omega),g2 (fun e=>by have:=hb _ e;omega),by simpa using hv7,fun x hx=>(aiR x hx).1,g5.1,g5.2,hold⟩)
      have aN:=aa (RS.o NM jU.o HF.o.2.1 HF.o.1 HCL.o.1);clear hv7 Xy UU WU gA RS;unfold ptrTo at aN;go_wp2_with fail;refine aN.o.mono ?_;rintro e W8⟨c8,d8,o8,L8,rfl,MH,hc8,ads⟩;have rY:=aa (jU.o.mv.trans MH (fun x hx e=>by have:=aF jU.o.ed x e;omega));obtain⟨g1,g2,g3,-⟩:=jU.o.step (T:=fun x=>(Value.slice la k lc).ownBlock=some x) rY.o (fun x h1 h2=>MH.free h1 h2) (fun x h1 h2 h3=>MH.block h1 h2 h3);have hb:=fun x hx=>aF jU.o.ed x hx;have hold:=jU.o.old;have HJ8:=aa (g1 (fun e=>by have:=hb _ e;omega) (fun e=>by have:=hb _ e;omega));have HC8:=aa (g2 (fun e=>by have:=hb _ e;omega));have Xz:=aa (g3 (fun x hx e=>j9 jU.o.row jU.o.ed af x hx e));have HO8:=aa hold;have HE8:=aa hc8;have HT8:=aa ads;clear MH hc8 ads aN g1 g2 g3 hb hold;by_cases hc:c8=0
      ·subst hc;obtain⟨x8,hx8⟩:=HC8.o;obtain⟨⟨-,-,c2⟩,-⟩:=hx8.cells;clear hx8;have hL8:L8=dO (rs++[(NM,aK by' C)]) L:=by
        rcases HE8.o with⟨_,e⟩| e
        ·rw[AA];exact e
        ·exact absurd rfl e.ne
       rw[hL8]at rY;clear hL8;have kY:(if many=true then rs.length+1 else 0)=if many=true then (rs++[(NM,aK by' C)]).length else 0:=by rw[List.length_append];rfl
       rw[kY]at HJ8;clear kY;have BV:rs.map (·.1)++[NM]=(rs++[(NM,aK by' C)]).map (·.1):=by rw[List.map_append];rfl
       rw[BV]at Xz;clear BV;by_cases hN0:N=0
       ·have apm:(N:Int)=0:=by omega
        have HQ:Hid (qL n pb db jb bf cb by' w o d L out es (.returned (.tuple #[v7,.int .i64 0])) W8):=aa (by
         have hx:=HX.o;have Yt:many=false:=by cases h:many;rfl;rw[h]at hx;simp at hx;omega
         have jH:rs=[]:=List.eq_nil_of_length_eq_zero (PF.o.2.1 Yt);have hC:C=[]:=List.eq_nil_of_length_eq_zero (by have:=HCL.o;omega);have hes:es=[]:=List.eq_nil_of_length_eq_zero ae;have vh:NM=out:=by rw[RU.o,Yt];rfl
         subst jH hC hes vh Yt;have hb0:aK by' []=[]:=List.eq_nil_of_length_eq_zero (by simpa using cd by' [])
         refine⟨v7,0,d8,o8,_,rfl,rY.o,fun x hx=>eK _ _ _ (fun mA=>hx ?_),.inl ⟨rfl,_,0,rfl,⟨by simp[hb0],by simp[en,hb0],by simp[lens,hb0],ah⟩,.inl ⟨_,rfl⟩,Nat.zero_le _,ah,HJ8.o,bH.Dr Xz.o.1 ah,fun b hb=>⟨Xz.o.2 b hb,aF Xz.o.1 b hb⟩⟩⟩;rw[List.mem_singleton.1 mA];exact HF.o.2.2)
        clear hN0;go_wp2;go_ret2;exact HQ.o
       ·have apn:¬(N:Int)=0:=by omega
        have Nv:0<k:=by omega
        have HH:Hid (Hv n pb db jb bf cb sb by' w o d L out es X many v7 W8/\pC W8 cb N=N-(i+k)):=aa ⟨⟨_,i+k,o8,d8,PF.o.2.2 (by have:=HX.o;omega),by rw[<- HX.o.2.2.2.2];exact⟨rY.o,HJ8.o,HC8.o,Xz.o.1,Xz.o.2,World.ownsRow_nil _ _ _ 4,fun x hx=>(by cases hx),HO8.o⟩⟩,by obtain⟨_,h⟩:=HC8.o;exact pD h⟩;have HKL:=aa (show i+k<=N/\0<k by have:=HK.o;have:=N9.o;omega);go_wp2;go_roundw
        case rel=>exact HH.o.1
        case measure=>rw[N9.o.1,HH.o.2];have:=HKL.o;omega
      ·have hc':¬(c8:Int)=0:=by omega
       have HQ:Hid (qL n pb db jb bf cb by' w o d L out es (.returned (.tuple #[v7,.int .i64 (c8:Int)])) W8):=aa (by
        obtain⟨-,g2,g3⟩:=GI.o _ _ HR.o;have h1:=HCL.o;have h2:=HR.o.pos;have h3:=HR.o.len;have h4:=HK.o;have h5:=N9.o;have h6:=s9 rs L;have h7:=HX.o;refine⟨_,c8,d8,o8,_,rfl,rY.o,fun x hx=>by rw[HT8.o x (fun e=>hx (e▸HF.o.2.2)),g2 x hx],.inr ?_⟩;rcases HE8.o with⟨e,_⟩| e
        ·exact absurd e hc
        ·exact(e.mono ae).later jU.o.mv.on.bD)
       clear hc;go_wp2;go_ret2;exact HQ.o
end
end
section
open Go.RowKit Go.Maps Go.MapKept
section
variable {w w':World} {pb db n cb kb sb jb bf made:Nat} {by':Bool} {name:Name} {o o':ar} {d d':Dsk} {L L':aD}
def oD(S:Nat->Prop)(n pb db:Nat)(w:World)(o:ar)(d:Dsk)(L:aD)(out:Name)(Zx:List aJ)(N:Nat)(e:Ending)(w':World):Prop:=
 ∃c d' o' L',e=.returned (.int .i64 ((c:Nat):Int))/\au S n pb db w o d w' o' d' L'/\(∀x,¬gW out x->aB L' x=aB L x)/\((c=0/\∀x,aB L' x=aB (aS L out (aw Zx true)) x)\/ju d d' (need L+8*N) c)
def dZ(m:Nat):Prop:=∀{w:World}{pb db n cb sb jb bf:Nat}{by':Bool}{o:ar}{d:Dsk}{L:aD},aQ w pb db n o d L->8<=n->cU w jb pb bf 0 by'->o jb=none->o bf=none->bf≠jb ->
 ∀{es:List aJ}{fl:Bool}{rE out:Name}{x0:aJ},aB L rE=some (aw es fl)->bC w cb sb 0 es.length x0->aC w sb pb rE 20->o cb=none->o sb=none->cb≠jb->cb≠bf->sb≠jb->sb≠cb ->
 bM out=true->aB L out=none->(∀k,aB L (dz k)=none)->(∀k,out≠dz k)->es.length<=m ->
 Calls prog 117 #[ptrTo jb,ptrTo cb,.string out] w (oD (fun x=>x=cb\/x=jb) n pb db w o d L out (aK by' es) es.length)
theorem pF(HW:aP)(h:aQ w pb db n o d L){ps:List Pg}{fl:Bool}(hL:aB L name=some (.inl (ps,fl))) :
 Calls prog 79 #[ptrTo pb,.string name] w (jq (fun _=>False) n pb db w o d L (aS L name (.inl (ps,true)))):=
 (NS HW h hL).mono fun _ _ ⟨c,d',o',he,hp,ht,hg,yD,hc⟩=>⟨c,d',o',he,jn hp ht hg yD,hc⟩
end
end
section
open Go.RowKit Go.Maps Go.MapKept Go.Sort
def Oc:Option Nat->Value
 |none=>.pointer none
 |some b=>ptrTo b
def gX(w:World)(g:Nat)(mU:List Nat):Prop:=Holds Oc w g 0 (mU.map some).toArray
theorem uC:(prog.info? 206).map (fun i=>(i.zero,i.size,i.bytes))=some (some (.pointer none),1,8):=by kernel_rfl
section
variable {w w':World} {g cap:Nat} {mU:List Nat}
theorem uD{α:Type}[Inhabited α](enc:α->Value)(w:World)(blk off:Nat)(d:Array α){x:Nat}(hx:x≠blk):(putRow enc w blk off d).heap[x]? = w.heap[x]? := by
 grind [putRow,mapBlock]
theorem Hy{α:Type}[Inhabited α](enc:α->Value)(w:World)(q blk off:Nat)(d:Array α):aH (·=blk) w (putRow enc (Sort.ahead w q) blk off d):=
 ⟨rfl,rfl,rfl,ah,fun x _ hn=>uD enc (Sort.ahead w q) blk off d hn⟩
theorem gX.cell(h:gX w g mU){k:Nat}(hk:k<mU.length):w.cell? ⟨g,k,none⟩=some (ptrTo mU[k]):=by
 have:=(h k (by grind)).1;grind [Oc]
theorem gX.kept(h:gX w g mU)(hb:w'.heap[g]? = w.heap[g]?):gX w' g mU:=by
 intro j hj;obtain⟨h1,h2⟩:=h j hj;grind [World.cell?,World.frozen?]
theorem gX.Dr{base:Nat}(hr:w.ownsRow base 206 1 (.slice (some ⟨g,0,none⟩) mU.length cap) mU.length (mU.map ptrTo)):gX w g mU/\mU.length<=cap/\cap<=maxLen/\base<=g:=by
 obtain⟨hl,⟨h1,h2⟩|⟨g',cap',cur,he,hg,hh,hc,hm,hs,ht⟩⟩:=hr
 ·cases h1
 ·cases he;refine⟨fun j hj=>?_,hc,hm,hg⟩;have hj':j<mU.length:=by grind
  rw[Nat.zero_add];refine⟨?_,aO hh _⟩;rw[aq hh,getElem!_pos _ j hj];have h3:(cur.toList.take (mU.length*1))[j]? = (mU.map ptrTo)[j]? := by rw[ht]
  grind [Oc]
theorem KI(h:gX w g mU)(hc:mU.length<=cap)(hm:cap<=maxLen){k:Nat}(hk:k<mU.length) :
 Calls prog 226 #[.slice (some ⟨g,0,none⟩) mU.length cap,.int .i64 (k:Int),.int .i64 ((k+1:Nat):Int)] w fun e w'=>
  e=.returned (.slice (some ⟨g,0,none⟩) (mU.length-1) cap)/\gX w' g (mU.eraseIdx k)/\aH (·=g) w w':=by
 obtain⟨i0,rV,hz0,hz1,hz2⟩:=info_parts uC;have hsz:((mU.map some).toArray).size=mU.length:=by simp
 have:=AnyE.slices_Delete (P:=prog) (ρ:=Tryz.Ap) { Tryz.Zi with } Oc (by intro x;cases x<;>rfl) none (fun w=>Tryz.zeroValue206 w) i0 rV hz1 g 0 cap k (k+1) (mU.map some).toArray w h ae (by assumption) ae ae;rw[hsz]at this;refine Calls.mono this ?_;rintro e w'⟨he,q,rfl⟩;refine⟨by grind,?_,Hy _ _ _ _ _ _⟩;have hd:((mU.map some).toArray.toList.take k++(mU.map some).toArray.toList.drop (k+1)++List.replicate (k+1-k) none)=(mU.eraseIdx k).map some++[none]:=by
  rw[show k+1-k=1 by omega,List.eraseIdx_eq_take_drop_succ];simp
 rw[hd];have hh:=holds_putRow Oc (Sort.ahead w q) g 0 (mU.map some).toArray ((mU.eraseIdx k).map some++[none]).toArray (holds_ahead Oc w q g 0 _ h) (by grind);intro j hj;have hj':j<(mU.eraseIdx k).length:=by grind
 obtain⟨h1,h2⟩:=hh j (by grind);grind
theorem uE{ops:Array Oper}{rest:List Oper}{op:Oper}{a:Act}{Q:Exit->Act->World->Prop}(hgd:op.guard=none)(s x:Operand)(ho:op.op=.call { callee:=.builtin .append,args:=#[s,x],argTypes:=#[301,301] })(base:Nat)(v:Value)(l:List Nat)(hs:a.eval s=v)(hown:w.ownsRow base 206 1 v l.length (l.map ptrTo))(y:Nat)(c:Nat)(hx:a.eval x=.slice (some ⟨w.heap.size,0,none⟩) 1 c)(hl:l.length<=100000)(hbase:base<=w.heap.size)(k:∀v' w',w'.ownsRow base 206 1 v' (l++[y]).length ((l++[y]).map ptrTo)->lr v (w.alloc (.cells #[ptrTo y] 206)) w' v'->wpList prog ops Q rest (a.put op.dst v') w') :
 wpList prog ops Q (op::rest) a (w.alloc (.cells #[ptrTo y] 206)):=by
 refine dR hgd s x 301 ho base 206 _ 1 8 Tryz.underlying301 uC rfl af v l.length (l.map ptrTo) hs (World.ownsRow.alloc hown _) ⟨w.heap.size,0,none⟩ 1 c [ptrTo y] hx rfl (fun j u hj=>?_) (by simp[ptrTo,Value.oneCell']) (by grind [maxLen]) ae (by simp;omega) (fun v' w' h1 h2=>k v' w' ?_ h2)
 ·rw[bG,Nat.zero_add];simp_all
 grind
end
end
section
open Go.RowKit Go.Maps Go.MapKept
structure Src where
 cb:Nat
 sb:Nat
 name:Name
 es:List aJ
 pos:Nat
def Src.cur(s:Src):aJ:=(s.es[s.pos-1]?).getD Aq
def Src.left(s:Src):List aJ:=s.es.drop (s.pos-1)
def Src.step(s:Src):Src:={ s with pos:=s.pos+1 }
structure Src.Ok(s:Src):Prop where
 lo:1<=s.pos
 hi:s.pos<=s.es.length
theorem Src.left_eq{s:Src}(h:s.Ok):s.left=s.cur::s.es.drop s.pos:=by
 grind [Ok.lo,Ok.hi,Src.left,Src.cur,List.drop_eq_getElem_cons]
theorem Src.Od{s:Src}:s.step.left=s.es.drop s.pos:=by
 rfl
def cE(l:List Src):List aJ:=(l.map Src.left).flatten
theorem H7:cE []=[]:=rfl
theorem mg(a b:List Src):cE (a++b)=cE a++cE b:=by grind [cE]
structure Taken(b:Bool)(all taken:List aJ)(l:List Src):Prop where
 perm:(taken++cE l).Perm all
 gC:taken.Pairwise (dE b)
 ahead:∀x∈taken,∀y∈cE l,dE b x y
 each:∀s∈l,s.left.Pairwise (dE b)
 ok:∀s∈l,s.Ok
theorem H8{l:List Src}{x:aJ}:x∈cE l ↔ ∃s∈l,x∈s.left:=by
 grind [cE]
theorem Taken.least{b:Bool}{all taken:List aJ}{l:List Src}(h:Taken b all taken l){k:Nat}(hk:k<l.length)(uF:∀s∈l,dE b l[k].cur s.cur):∀y∈cE l,dE b l[k].cur y:=by
 intro y hy;obtain⟨s,hs,PI⟩:=H8.1 hy;have h1:=h.each s hs;rw[Src.left_eq (h.ok s hs)]at h1 PI;rcases List.mem_cons.1 PI with rfl | PI
 ·grind
 ·exact(uF s hs).trans ((List.pairwise_cons.1 h1).1 y PI)
theorem Oe{α:Type}(l:List α)(k:Nat)(hk:k<l.length)(x:α):l.set k x=l.take k++x::l.drop (k+1):=by
 grind [List.set_eq_take_append_cons_drop]
theorem Taken.go{b:Bool}{all taken:List aJ}{l l':List Src}(h:Taken b all taken l){k:Nat}(hk:k<l.length)(uF:∀s∈l,dE b l[k].cur s.cur)(hl:cE l'=cE (l.take k)++(l[k].es.drop l[k].pos++cE (l.drop (k+1))))(C6:∀s∈l',s.left.Pairwise (dE b))(eD:∀s∈l',s.Ok):Taken b all (taken++[l[k].cur]) l':=by
 have hkm:l[k]∈l:=List.getElem_mem hk;have hle:=h.least hk uF;have hsp:cE l=cE (l.take k)++(l[k].cur::(l[k].es.drop l[k].pos)++cE (l.drop (k+1))):=by
  grind [tQ,cE,Src.left_eq,ok]
 have hp:(l[k].cur::cE l').Perm (cE l):=by
  rw[hl,hsp];exact List.perm_middle.symm
 refine⟨?_,?_,?_,C6,eD⟩
 ·rw[List.append_assoc];refine List.Perm.trans (List.Perm.append_left taken ?_) h.perm;exact hp
 ·grind [gC,ahead]
 grind [ahead]
theorem Taken.step{b:Bool}{all taken:List aJ}{l:List Src}(h:Taken b all taken l){k:Nat}(hk:k<l.length)(uF:∀s∈l,dE b l[k].cur s.cur)(AB:l[k].pos<l[k].es.length) :
 Taken b all (taken++[l[k].cur]) (l.set k l[k].step):=by
 have hkm:l[k]∈l:=List.getElem_mem hk;have F0:∀s∈l.set k l[k].step,s∈l\/s=l[k].step:=fun s hs=>List.mem_or_eq_of_mem_set hs;refine h.go hk uF ?_ ?_ ?_
 ·rw[Oe l k hk,mg];congr 1
 ·intro s hs;rcases F0 s hs with hs | rfl
  ·grind [each]
  ·rw[Src.Od];have:=h.each _ hkm;grind [Src.left_eq,ok]
 ·intro s hs;rcases F0 s hs with hs | rfl
  ·exact h.ok s hs
  ·exact⟨Nat.le_add_left _ _,AB⟩
theorem Taken.gone{b:Bool}{all taken:List aJ}{l:List Src}(h:Taken b all taken l){k:Nat}(hk:k<l.length)(uF:∀s∈l,dE b l[k].cur s.cur)(hend:l[k].es.length<=l[k].pos) :
 Taken b all (taken++[l[k].cur]) (l.eraseIdx k):=by
 grind [go,each,ok,mg,List.drop_eq_nil_of_le]
theorem Taken.done{b:Bool}{all taken:List aJ}(h:Taken b all taken []):fF taken=aK b all:=by
 have hp:=h.perm;rw[H7,List.append_nil]at hp;exact((vS h.gC).congr (fun x=>hp.mem_iff)).eq
theorem KJ{b:Bool}{l:List aJ}(h:aK b l=l):l.Pairwise (dE b):=by
 have:=(bU b l).gC;rw[h]at this;exact this.imp (fun h=>.inl h)
end
section
open Go.RowKit Go.Maps Go.MapKept
section
variable {S:Nat->Prop} {w w':World} {pb db n base cb sb kb yO g:Nat} {name out:Name} {o o':ar} {d d':Dsk} {L L':aD} {s:Src} {l:List Src}
theorem fY{i N sz sb':Nat}{x:aJ}(h:bC w cb sb' i N x)(hs:aC w sb pb name sz):sb≠cb:=by
 rintro rfl;obtain⟨t,h1⟩:=h;obtain⟨t',h2⟩:=hs;grind
theorem yP{i N sb':Nat}{x:aJ}{res:List aJ}(h:bC w cb sb' i N x)(hs:eZ w kb yO res):kb≠cb:=by
 rintro rfl;obtain⟨y,a,t',h2⟩:∃y a,dL w kb yO y a:=by
  rcases hs with⟨_,y,h⟩|⟨y,_,h⟩
  ·grind
  grind
 obtain⟨t,h1⟩:=h;grind
theorem yQ{sz:Nat}{res:List aJ}(h:aC w sb pb name sz)(hs:eZ w kb yO res):kb≠sb:=by
 rintro rfl;obtain⟨y,a,t',h2⟩:∃y a,dL w kb yO y a:=by
  rcases hs with⟨_,y,h⟩|⟨y,_,h⟩
  ·grind
  grind
 obtain⟨t,h1⟩:=h;grind
structure uG(w:World)(pb:Nat)(o:ar)(L:aD)(base:Nat)(out:Name)(s:Src):Prop where
 src:bC w s.cb s.sb s.pos s.es.length s.cur
 str:aC w s.sb pb s.name 20
 oc:o s.cb=none
 os:o s.sb=none
 bc:base<=s.cb
 bs:base<=s.sb
 file:∃fl,aB L s.name=some (aw s.es fl)
 Og:s.name≠out
theorem uG.moved(h:uG w pb o L base out s)(hm:au S n pb db w o d w' o' d' L')(h1:¬S s.cb)(h2:¬S s.sb)(hL:∀x,x≠out->aB L' x=aB L x):uG w' pb o' L' base out s where
 src:=h.src.kept (hm.block h.src.lt h.oc h1)
 str:=h.str.kept (hm.block h.str.lt h.os h2)
 oc:=hm.free h.src.lt h.oc
 os:=hm.free h.str.lt h.os
 bc:=h.bc
 bs:=h.bs
 file:=by grind [Og,file]
 Og:=h.Og
theorem uG.kept(h:uG w pb o L base out s)(h1:w'.heap[s.cb]? = w.heap[s.cb]?)(h2:w'.heap[s.sb]? = w.heap[s.sb]?):uG w' pb o L base out s where
 src:=h.src.kept h1
 str:=h.str.kept h2
 oc:=h.oc
 os:=h.os
 bc:=h.bc
 bs:=h.bs
 file:=h.file
 Og:=h.Og
structure di(w:World)(pb:Nat)(o:ar)(L:aD)(base:Nat)(out:Name)(v:Value)(l:List Src):Prop where
 each:∀s∈l,uG w pb o L base out s
 apart:(l.map Src.cb).Nodup
 row:∀x,v.ownBlock=some x->o x=none/\base<=x/\∀s∈l,x≠s.cb/\x≠s.sb
theorem di.nil:di w pb o L base out (.slice none 0 0) []:=⟨(fun _ h=>nomatch h),List.Pairwise.nil,fun x hx=>by cases hx⟩
theorem di.moved{v:Value}(h:di w pb o L base out v l)(hm:au S n pb db w o d w' o' d' L')(hv:∀x,v.ownBlock=some x->x<w.heap.size)(h1:∀s∈l,¬S s.cb/\¬S s.sb)(hL:∀x,x≠out->aB L' x=aB L x):di w' pb o' L' base out v l where
 each:=fun s hs=>(h.each s hs).moved hm (h1 s hs).1 (h1 s hs).2 hL
 apart:=h.apart
 row:=fun x hx=>⟨hm.free (hv x hx) (h.row x hx).1,(h.row x hx).2⟩
theorem di.below{v:Value}(h:di w pb o L base out v l)(hb:Below w.heap.size w w'):di w' pb o L base out v l where
 each:=fun s hs=>(h.each s hs).kept (hb.block _ (h.each s hs).src.lt) (hb.block _ (h.each s hs).str.lt)
 apart:=h.apart
 row:=h.row
theorem di.idx{v:Value}(h:di w pb o L base out v l){i j:Nat}(hi:i<l.length)(hj:j<l.length)(hne:i≠j):l[i].cb≠l[j].cb:=by
 intro e;have h1:=h.apart;grind [List.pairwise_iff_getElem]
theorem sq{v:Value}(h:di w pb o L base out v l){k:Nat}(hk:k<l.length){t:Src}:∀s∈l.set k t,s=t\/(s∈l/\s.cb≠l[k].cb):=by
 grind [List.getElem_of_mem,di.idx]
theorem di.step{v:Value}(h:di w pb o L base out v l){k:Nat}(hk:k<l.length)(hm:au (·=l[k].cb) n pb db w o d w' o' d' L)(hv:∀x,v.ownBlock=some x->x<w.heap.size)(hs:bC w' l[k].cb l[k].sb (l[k].pos+1) l[k].es.length l[k].step.cur):di w' pb o' L base out v (l.set k l[k].step):=by
 have hkm:l[k]∈l:=List.getElem_mem hk;have MI:=h.each _ hkm;have hcb:(l.set k l[k].step).map Src.cb=l.map Src.cb:=by
  apply List.ext_getElem
  ·simp
  ·intro i h1 h2;rw[List.getElem_map,List.getElem_map,List.getElem_set];split
   ·rename_i e;subst e;rfl
   ·rfl
 refine⟨fun s hs'=>?_,by grind [apart],fun x hx=>⟨hm.free (hv x hx) (h.row x hx).1,(h.row x hx).2.1,fun s hs'=>?_⟩⟩
 ·rcases sq h hk s hs' with rfl |⟨h1,h2⟩
  ·exact⟨hs,MI.str.kept (hm.block MI.str.lt MI.os (fY MI.src MI.str)),hm.free MI.src.lt MI.oc,hm.free MI.str.lt MI.os,MI.bc,MI.bs,MI.file,MI.Og⟩
  ·exact(h.each s h1).moved hm h2 (fY MI.src (h.each s h1).str) (fun _ _=>rfl)
 ·rcases sq h hk s hs' with rfl |⟨h1,h2⟩
  ·exact(h.row x hx).2.2 l[k] hkm
  ·exact(h.row x hx).2.2 _ h1
theorem di.gone{v v':Value}(h:di w pb o L base out v l)(k:Nat)(ht:aH (fun x=>v.ownBlock=some x) w w')(hv:v'.ownBlock=v.ownBlock):di w' pb o L base out v' (l.eraseIdx k):=by
 refine⟨fun s hs=>?_,?_,fun x hx=>?_⟩
 ·have hs:=List.mem_of_mem_eraseIdx hs;have hI:=h.each s hs;exact hI.kept (ht.block _ hI.src.lt (fun e=>((h.row _ e).2.2 s hs).1 rfl)) (ht.block _ hI.str.lt (fun e=>((h.row _ e).2.2 s hs).2 rfl))
 ·grind [List.eraseIdx_sublist,apart]
 ·rw[hv]at hx;exact⟨(h.row x hx).1,(h.row x hx).2.1,fun s hs=>(h.row x hx).2.2 s (List.mem_of_mem_eraseIdx hs)⟩
theorem di.append{v v':Value}{ob:Obj}(h:di w pb o L base out v l)(ha:lr v (w.alloc ob) w' v')(hI:uG w pb o L base out s)(hcb:∀t∈l,t.cb≠s.cb)(hv:∀x,v.ownBlock=some x->x<w.heap.size/\x≠s.cb/\x≠s.sb)(dS:∀x,w.heap.size<=x->o x=none)(hbase:base<=w.heap.size):di w' pb o L base out v' (l++[s]):=by
 obtain⟨hg,hb⟩:=ha;have hs:(w.alloc ob).heap.size=w.heap.size+1:=by simp
 have hk:∀x,x<w.heap.size->v.ownBlock≠some x->w'.heap[x]? = w.heap[x]? := fun x hx hne=>
  (hg.block x ae (fun e=>hne e.symm)).trans ((MapKept.heap_alloc w ob).2 x hx)
 have hall:∀t∈l++[s],uG w pb o L base out t/\∀x,v.ownBlock=some x->x≠t.cb/\x≠t.sb:=fun t ht=>by
  rcases List.mem_append.1 ht with ht | ht
  ·exact⟨h.each t ht,fun x hx=>(h.row x hx).2.2 t ht⟩
  grind
 refine⟨fun t ht=>?_,?_,fun x hx=>?_⟩
 ·obtain⟨h1,h2⟩:=hall t ht;exact h1.kept (hk _ h1.src.lt (fun e=>(h2 _ e).1 rfl)) (hk _ h1.str.lt (fun e=>(h2 _ e).2 rfl))
 ·grind [apart]
 ·rcases hb with e | e
  ·rw[e]at hx;refine⟨(h.row x hx).1,(h.row x hx).2.1,fun t ht=>(hall t ht).2 x hx⟩
  ·rw[e]at hx;cases hx;refine⟨dS _ ae,ae,fun t ht=>?_⟩;have h1:=(hall t ht).1.src.lt;have h2:=(hall t ht).1.str.lt;omega
def uH(w:World)(v:Value)(mU:List Nat):Prop:=(v=.slice none 0 0/\mU=[])\/∃g cap,v=.slice (some ⟨g,0,none⟩) mU.length cap/\mU.length<=cap/\cap<=maxLen/\gX w g mU/\g<w.heap.size
theorem uH.kept{v:Value}{mU:List Nat}(h:uH w v mU)(hb:∀x,v.ownBlock=some x->w'.heap[x]? = w.heap[x]?)(hs:w.heap.size<=w'.heap.size):uH w' v mU:=by
 rcases h with h |⟨g,cap,rfl,h1,h2,h3,h4⟩
 ·exact .inl h
 ·exact .inr ⟨g,cap,rfl,h1,h2,h3.kept (hb g rfl),Nat.lt_of_lt_of_le h4 hs⟩
theorem uH.lt{v:Value}{mU:List Nat}(h:uH w v mU):∀x,v.ownBlock=some x->x<w.heap.size:=by
 rcases h with⟨rfl,h⟩|⟨g,cap,rfl,h1,h2,h3,h4⟩
 ·intro x hx;cases hx
 ·intro x hx;cases hx;exact h4
theorem uH.Dr{v:Value}{mU:List Nat}(hr:w.ownsRow base 206 1 v mU.length (mU.map ptrTo)):uH w v mU:=by
 have Mi:=hr;obtain⟨hl,⟨h1,h2⟩|⟨g,cap,cur,rfl,hg,hh,hc,hm,hs,ht⟩⟩:=Mi
 ·exact .inl ⟨h1,List.eq_nil_of_length_eq_zero h2⟩
 ·obtain⟨h1,h2,h3,h4⟩:=gX.Dr hr;exact .inr ⟨g,cap,rfl,h2,h3,h1,(Array.getElem?_eq_some_iff.1 hh).1⟩
theorem uH.ofNil{base:Nat}:w.ownsRow base 206 1 (.slice none 0 0) 0 ([]:List Value):=⟨rfl,.inl ⟨rfl,rfl⟩⟩
end
end
section
open Go.RowKit Go.Maps Go.MapKept
section
variable {S:Nat->Prop} {w w' w1 w2 w3 w4:World} {pb db n base cb sb kb yO jb bf made g:Nat} {by':Bool} {name out nm:Name} {o o' o1 o2 o3:ar} {d d' d1 d2 d3:Dsk} {L L':aD} {l:List Src} {v v':Value}
theorem di.opened(hl:di w1 pb o1 L base out v l)(hv:∀x,v.ownBlock=some x->x<w1.heap.size)(cQ:au (fun _=>False) n pb db w1 o1 d1 w2 o2 d2 L)(ej:au (·=cb) n pb db w2 o2 d2 w3 o3 d3 L)(hbase:base<=w1.heap.size)(hcb:w1.heap.size<=cb)(vr:w1.heap.size<=sb){N:Nat}{x0:aJ}(hs2:bC w2 cb sb 0 N x0)(hst:aC w2 sb pb nm 20)(NY:o2 cb=none)(Vt:o2 sb=none){es:List aJ}{x:aJ}{fl:Bool}(hs3:bC w3 cb sb 1 es.length x)(hx:es[0]? = some x)(hf:aB L nm=some (aw es fl))(hno:nm≠out){ob:Obj}(ha:lr v (w3.alloc ob) w4 v') :
 di w4 pb o3 L base out v' (l++[⟨cb,sb,nm,es,1⟩]):=by
 have hne:=fY hs2 hst;have hz2:w1.heap.size<=w2.heap.size:=cQ.size;have hz3:w2.heap.size<=w3.heap.size:=ej.size;have h2:=hl.moved cQ hv (fun _ _=>⟨fun h=>h,fun h=>h⟩) (fun _ _=>rfl);have h3:=h2.moved ej (fun y hy=>Nat.lt_of_lt_of_le (hv y hy) hz2) (fun s hs=>⟨fun e=>by have:=(hl.each s hs).src.lt;omega,fun e=>by have:=(hl.each s hs).str.lt;omega⟩) (fun _ _=>rfl);refine h3.append ha ⟨?_,hst.moved ej Vt hne,ej.free hs2.lt NY,ej.free hst.lt Vt,Nat.le_trans hbase hcb,Nat.le_trans hbase vr,⟨fl,hf⟩,hno⟩ (fun t ht e=>?_) (fun y hy=>⟨Nat.lt_of_lt_of_le (hv y hy) ae,?_,?_⟩) (fun y hy=>ej.aX.fresh hy) ae
 ·grind [Src.cur]
 ·have:=(hl.each t ht).src.lt;grind
 ·grind
 grind
theorem H9(s:Src):cE [s]=s.left:=by grind [cE]
theorem KL{rs:List tB}{k:Nat}{p:tB}(h:rs[k]? = some p):en (rs.take (k+1))=en (rs.take k)++p.2:=by
 grind [List.take_succ_eq_append_getElem,en]
def RV(n pb db:Nat)(by':Bool)(w:World)(o:ar)(d:Dsk)(L:aD)(out:Name)(rs:List tB)(k:Nat)(v:Value)(wr:World):Prop:=
 ∃(d':Dsk)(o':ar)(l:List Src),au (fun _=>False) n pb db w o d wr o' d' L/\di wr pb o' L w.heap.size out v l/\wr.ownsRow w.heap.size 206 1 v (l.map Src.cb).length ((l.map Src.cb).map ptrTo)/\cE l=en (rs.take k) /\
  (∀s∈l,s.left.Pairwise (dE by'))/\(∀s∈l,s.Ok)/\(l.map Src.cb).length<=k
def Oh(n pb db kb yO:Nat)(by':Bool)(w:World)(o:ar)(d:Dsk)(L:aD)(out:Name)(all:List aJ)(left:Nat)(v:Value)(wr:World):Prop:=
 ∃(d':Dsk)(o':ar)(l:List Src)(taken:List aJ),au (fun _=>False) n pb db w o d wr o' d' (aS L out (aw (fF taken) false))/\di wr pb o' (aS L out (aw (fF taken) false)) w.heap.size out v l/\uH wr v (l.map Src.cb)/\Taken by' all taken l /\
  eZ wr kb yO (fF taken)/\aC wr yO pb out 20/\o' kb=none/\o' yO=none/\(∀x,v.ownBlock=some x->x≠kb/\x≠yO)/\left=(cE l).length
def Du(n pb db:Nat)(w:World)(o:ar)(d:Dsk)(L:aD)(out:Name)(ns:List Name)(Zx:List aJ)(N:Nat)(e:Ending)(w':World):Prop:=
 ∃c d' o' L',e=.returned (.int .i64 ((c:Nat):Int))/\au (fun _=>False) n pb db w o d w' o' d' L'/\(∀x,x≠out->x ∉ ns->aB L' x=aB L x)/\((c=0/\L'=ns.foldl b8 (aS L out (aw Zx false)))\/ju d d' (need L+4*N) c)
theorem di.cells(h:di w pb o L base out v l)(hr:gX w g (l.map Src.cb)){k:Nat}{s:Src}(hk:l[k]? = some s) :
 w.cell? ⟨g,k,none⟩=some (ptrTo s.cb)/\w.cell? ⟨s.cb,3,none⟩=some (.int .u32 (s.cur.t.toNat:Int))/\w.cell? ⟨s.cb,4,none⟩=some (.int .u32 (s.cur.h.toNat:Int))/\w.cell? ⟨s.cb,5,none⟩=some (.int .u64 (s.cur.x.toNat:Int))/\w.cell? ⟨s.cb,6,none⟩=some (.int .u32 (s.cur.m.toNat:Int)):=by
 have hl:=aM hk;rw[List.getElem?_eq_getElem hl]at hk;have h1:=hr.cell (k:=k) (by grind);rw[List.getElem_map]at h1;obtain⟨-,⟨h3,h4,h5,h6⟩,-⟩:=(h.each _ (List.getElem_mem hl)).src.cells;grind
theorem Ia{es:List aJ}(hno:aB L out=none):need (aS L out (aw es false))<=need L+4*es.length:=by
 grind [pY,cH]
theorem Taken.len{b:Bool}{all taken:List aJ}(h:Taken b all taken l):taken.length+(cE l).length=all.length:=by
 rw[<- List.length_append];exact h.perm.length_eq
end
end
section
open Go.RowKit Go.Maps Go.MapKept
section
variable {w w':World} {pb db n jb bf made:Nat} {by':Bool} {o o':ar} {d d':Dsk} {L L':aD}
theorem EW(HW:aP)(h:aQ w pb db n o d L)(hj:cU w jb pb bf made by')(lI:o jb=none)(Cx:o bf=none){v:Value}{rs:List tB}(hv:bH w v (rs.map (·.1)))(my:∀b,v.ownBlock=some b->o b=none)(hL:∀p∈rs,aB L p.1=some (aw p.2 false))(JQ:(rs.map (·.1)).Nodup)(hlen:rs.length<=1000)(C6:∀p∈rs,aK by' p.2=p.2)(hall:lens rs<=60000){out:Name}(eD:bM out=true)(hno:aB L out=none) :
 Calls prog 179 #[ptrTo jb,v,.string out] w (Du n pb db w o d L out (rs.map (·.1)) (aK by' (en rs)) (lens rs)):=by
 have pW:Hid (∀W o' d' nm es,au (fun _=>False) n pb db w o d W o' d' L->(nm,es)∈rs->Calls prog 116 #[ptrTo jb,.string nm] W (qG n pb db W o' d' L nm es.length)):=aa (fun W o' d' nm es hm hp=>xX HW hm.aX (hj.moved hm lI Cx (fun h=>h) (fun h=>h)) (hL _ hp));have Hx:Hid (∀W o' d' L' cb sb nm(es:List aJ)x0 i fl x,aQ W pb db n o' d' L'->aC W sb pb nm 20->o' sb=none->bC W cb sb i es.length x0->o' cb=none->aB L' nm=some (aw es fl)->es[i]? = some x->Calls prog 221 #[ptrTo cb] W (Ak n pb db W o' d' L' cb sb i es.length x)):=aa (fun W o' d' L' cb sb nm es x0 i fl x a b c e f g hx=>by
  have hi:=aM hx;grind [si])
 have EP:Hid (∀W o' d',au (fun _=>False) n pb db w o d W o' d' L->Calls prog 223 #[ptrTo jb,.string out] W (l6 n pb db W o' d' L out)):=aa (fun W o' d' hm=>sj hm.aX (hj.moved hm lI Cx (fun h=>h) (fun h=>h)) (hm.free hj.lt.1 lI) eD hno);have hput:Hid (∀W o' d' kb sb res,aQ W pb db n o' d' (aS L out (aw res false))->aC W sb pb out 20->o' sb=none->o' kb=none->kb≠sb->eZ W kb sb res->res.length<65535->∀x:aJ,
  Calls prog 225 #[ptrTo kb,.agg #[.int .u32 (x.t.toNat:Int),.int .u32 (x.h.toNat:Int),.int .u64 (x.x.toNat:Int),.int .u32 (x.m.toNat:Int)]] W (Al n pb db W o' d' (aS L out (aw res false)) out kb sb res x)):=
  aa (fun W o' d' kb sb res hW hst ho RN hne hk hl x=>xV HW hW hst ho RN hne (by grind [ay]) hl hk x)
 have KM:∀x∈rs.map (·.1),x≠out:=fun x hx e=>by
  grind
 have tY:Hid (∀W o' d' es,au (fun _=>False) n pb db w o d W o' d' (aS L out (aw es false))->Calls prog 227 #[ptrTo jb,v] W (xW n pb db W o' d' (aS L out (aw es false)) (rs.map (·.1)))):=aa (fun W o' d' es hm=>by
  refine He hm.aX (hj.moved hm lI Cx (fun h=>h) (fun h=>h)) (hm.free hj.lt.1 lI) (hv.kept (fun b hb=>hm.block (hv.lt b hb) (my b hb) (fun h=>h))) (fun b hb=>hm.free (hv.lt b hb) (my b hb)) (fun x hx=>?_) JQ (by grind);rw[ay,if_neg (KM x hx)];obtain⟨p,hp,rfl⟩:=List.mem_map.1 hx;exact⟨_,_,hL p hp⟩)
 have yG:Hid (∀W,cU W jb pb bf made by'->∀x y:aJ,Calls prog 224 #[ptrTo jb,.agg #[.int .u32 (x.t.toNat:Int),.int .u32 (x.h.toNat:Int),.int .u64 (x.x.toNat:Int),.int .u32 (x.m.toNat:Int)],.agg #[.int .u32 (y.t.toNat:Int),.int .u32 (y.h.toNat:Int),.int .u64 (y.x.toNat:Int),.int .u32 (y.m.toNat:Int)]] W
  fun e w'=>e=.returned (.int .i64 (aR by' x y))/\dX W w'):=aa (fun W hW x y=>xT hW x y)
 have hcell:Hid (∀W o' d' L',au (fun _=>False) n pb db w o d W o' d' L'->∀k p,rs[k]? = some p->∀g off len cap,v=.slice (some ⟨g,off,none⟩) len cap->W.cell? ⟨g,off+k,none⟩=some (.string p.1)):=aa (fun W o' d' L' hm k p hp g off len cap e=>by
  subst e;have hkr:=aM hp;have h1:=(hv.kept (fun b hb=>hm.block (hv.lt b hb) (my b hb) (fun h=>h))).cells.2.2.2 k (by grind);grind)
 have H:=aa h;have HJ:=aa hj;have HL:=aa hL;have adw:=aa C6;have Zt:=aa hno;have HNS:=aa KM;have Cb:Hid ((en rs).length=lens rs):=aa (uA rs);have U9:=aa lI;have Vu:=aa Cx;obtain⟨g,off,cap,rfl⟩:=hv.shape;obtain⟨-,hl2,N0,-⟩:=hv.cells;unfold maxLen at N0;clear h hj lI Cx hv my hL JQ C6 eD hno KM;rw[List.length_map]at *;generalize hN:rs.length=N at *;have HN:=aa hN;clear hN;generalize hM:lens rs=M at *;clear hM;unfold ptrTo at *;go_enter func179,ntmps179;go_wp2;go_loopw [22,7] (fun i v wr=>∃k:Nat,k<=N/\i=.int .i64 (k:Int)/\RV n pb db by' w o d L out rs k v wr) (fun i _ _=>N-(intOf i).toNat)
 case atStart=>exact⟨0,Nat.zero_le _,rfl,d,o,[],au.refl _ H.o,di.nil,uH.ofNil,rfl,(fun s hs=>nomatch hs),(fun s hs=>nomatch hs),Nat.le_refl _⟩
 case round=>
  generalize u7=v at *;obtain⟨k,hk,rfl,d1,o1,l,ee,Kg,hr1,XA,RX,uq,hlk⟩:=hrel;have eu:=aa ee;have Ib:=aa Kg;have ny:=aa hr1;have RY:=aa XA;have EX:=aa RX;have Vv:=aa uq;have hs1:w.heap.size<=wr.heap.size:=ee.size;have FU:Hid (∀x,v.ownBlock=some x->x<wr.heap.size):=aa (fun x hx=>(aL hr1 x hx).1);clear ee Kg hr1 XA RX uq;by_cases hlt:k<N
  ·obtain⟨nm,es,hp⟩:∃nm es,rs[k]? = some (nm,es):=by
    have hkr:k<rs.length:=by grind [Hid.out]
    exact⟨rs[k].1,rs[k].2,List.getElem?_eq_getElem hkr⟩
   have mA:(nm,es)∈rs:=List.mem_of_getElem? hp;have hc:=hcell.o wr o1 d1 L eu.o k (nm,es) hp g off N cap rfl;have aN:=aa (pW.o wr o1 d1 nm es eu.o mA);have HF:Hid (aB L nm=some (aw es false)):=aa (HL.o _ mA);have GI:Hid (nm≠out):=aa (HNS.o nm (List.mem_map.2 ⟨_,mA,rfl⟩));have mV:Hid (es.Pairwise (dE by')):=aa (KJ (adw.o _ mA));have adx:Hid (en (rs.take (k+1))=en (rs.take k)++es):=aa (KL hp);clear hp mA;dsimp only at hc;go_wp2_with fail;refine aN.o.mono ?_;rintro e w2⟨v2,c2,d2,o2,rfl,cQ,pV,jr⟩;have eB:=aa (eu.o.trans cQ (fun _ _ h=>h));have XB:=aa cQ;have G6:=aa pV;clear cQ pV hc aN;by_cases hc2:c2=0
   ·subst hc2;obtain⟨cb,sb,rfl,hs2,oB,KO,Az,Vw,Rp⟩:=jr rfl;have eR:=aa hs2;have nC:=aa oB;have RZ:=aa KO;have Cv:=aa Az;have hz2:wr.heap.size<=w2.heap.size:=XB.o.size;clear hs2 oB KO Az jr;unfold ptrTo at *;by_cases hes:0<es.length
    ·have hx:es[0]? = some es[0]:=List.getElem?_eq_getElem hes;have aN:=aa (Hx.o w2 o2 d2 L cb sb nm es Aq 0 false es[0] eB.o.aX nC.o Cv.o eR.o RZ.o HF.o hx);have HX:=aa hx;clear hx;generalize es[0]=x at *;go_wp2_with fail;refine aN.o.mono ?_;rintro e w3⟨c3,d3,o3,rfl,ej,Dm,hs3⟩;have eC:=aa (eB.o.trans ej (fun x hx e=>by omega));have HMT:=aa ej;have Ck:=aa Dm;have hz3:w2.heap.size<=w3.heap.size:=ej.size;clear ej Dm aN;by_cases hc3:c3=0
     ·subst hc3;have fB:=aa (hs3 rfl);have BD:Hid (w3.ownsRow w.heap.size 206 1 v (l.map Src.cb).length ((l.map Src.cb).map ptrTo)):=aa (by
       have fO:∀b,v.ownBlock=some b->o1 b=none:=fun b hb=>(Ib.o.row b hb).1;have h2:=XB.o.ownsRow ny.o (fun b hb=>⟨fO b hb,fun h=>h⟩);exact HMT.o.ownsRow h2 (fun b hb=>⟨XB.o.free (FU.o b hb) (fO b hb),fun e=>by have:=FU.o b hb;omega⟩))
      clear hs3;go_wp2_with (at_builtin;refine uE rfl _ _ rfl w.heap.size _ _ rfl BD.o cb 1 rfl ae ae ?_);intro v4 w4 hr4 KH;have PU:=aa (KH.moved eC.o (fun x hx=>⟨HMT.o.free (Nat.lt_of_lt_of_le (FU.o x hx) hz2) (XB.o.free (FU.o x hx) (Ib.o.row x hx).1),(Ib.o.row x hx).2.1⟩));have MC:=aa (Ib.o.opened FU.o XB.o HMT.o hs1 Vw Rp eR.o nC.o RZ.o Cv.o fB.o HX.o HF.o GI.o KH);have Mr:=aa hr4;clear hr4 KH;go_wp2;go_roundw
      case rel=>exact⟨k+1,ae,by go_num,d3,o3,_,PU.o.1,MC.o,(by simpa using Mr.o),(by rw[mg,H9,RY.o,adx.o];rfl),(fun s hs=>(List.mem_append.1 hs).elim (EX.o s) (fun hs=>by rw[List.mem_singleton.1 hs];assumption)),(fun s hs=>(List.mem_append.1 hs).elim (Vv.o s) (fun hs=>by rw[List.mem_singleton.1 hs];exact⟨Nat.le_refl _,hes⟩)),(by grind)⟩
      grind [intOf]
     ·have Kn:¬(c3:Int)=0:=by omega
      have HE:Hid (ju d d3 (need L+4*M) c3):=aa (((Ck.o.resolve_left hc3).num (Nat.le_add_right _ _)).later eB.o.on.bD);clear hc3 hs3;go_wp2;go_ret;exact⟨c3,d3,o3,L,rfl,eC.o,(fun _ _ _=>rfl),.inr HE.o⟩
    ·have aiV:es=[]:=List.eq_nil_of_length_eq_zero ae;subst aiV;have aN:=aa (lZ eR.o (Nat.le_refl _));unfold ptrTo at aN;go_wp2_with fail;refine aN.o.mono ?_;rintro e w3⟨rfl,q,rfl⟩;have HB:Hid (Below w2.heap.size w2 (w2.drewN q)):=aa (below_drewN aj _);have BD:Hid (w2.ownsRow w.heap.size 206 1 v (l.map Src.cb).length ((l.map Src.cb).map ptrTo)):=aa (XB.o.ownsRow ny.o (fun b hb=>⟨(Ib.o.row b hb).1,fun h=>h⟩));have RT:=aa ((Ib.o.moved XB.o FU.o (fun _ _=>⟨fun h=>h,fun h=>h⟩) (fun _ _=>rfl)).below HB.o);have Mr:Hid ((w2.drewN q).ownsRow w.heap.size 206 1 v (l.map Src.cb).length ((l.map Src.cb).map ptrTo)):=aa (bI BD.o (fun x hx=>HB.o.block x (Nat.lt_of_lt_of_le (FU.o x hx) hz2)));have eC:=aa (eB.o.drewN q);generalize w2.drewN q=w3 at *;go_wp2;go_roundw
     case rel=>exact⟨k+1,ae,by go_num,d2,o2,l,eC.o,RT.o,Mr.o,(by grind [Hid.out]),EX.o,Vv.o,ae⟩
     grind [intOf]
   ·have Ku:¬(c2:Int)=0:=by omega
    have HE:Hid (ju d d2 (need L+4*M) c2):=aa (((G6.o.resolve_left hc2).num (Nat.le_add_right _ _)).later eu.o.on.bD);clear hc2 jr;go_wp2;go_ret;exact⟨c2,d2,o2,L,rfl,eB.o,(fun _ _ _=>rfl),.inr HE.o⟩
  ·obtain rfl:k=N:=by omega
   have HT0:Hid (Taken by' (en rs) [] l):=aa ⟨by rw[List.nil_append,RY.o,List.take_of_length_le (by grind [Hid.out])],List.Pairwise.nil,(fun x hx=>nomatch hx),EX.o,Vv.o⟩;have aN:=aa (EP.o wr o1 d1 eu.o);unfold ptrTo at aN;go_wp2_with fail;refine aN.o.mono ?_;rintro e w2⟨v2,c2,d2,o2,rfl,cQ,pV,jr⟩;have G6:=aa pV;by_cases hc2:c2=0
   ·subst hc2;obtain⟨kb,yO,rfl,hk2,oB,Hr,Az,iW,hkb,vr⟩:=jr rfl;simp only[if_true]at cQ;have eB:=aa (eu.o.trans cQ (fun _ _ h=>h));have JC:Hid (di w2 pb o2 (aS L out (aw [] false)) w.heap.size out v l):=aa (Ib.o.moved cQ FU.o (fun _ _=>⟨fun h=>h,fun h=>h⟩) (fun x hx=>by rw[ay,if_neg hx]));have Cy:Hid (uH w2 v (l.map Src.cb)):=aa (uH.Dr (cQ.ownsRow ny.o (fun b hb=>⟨(Ib.o.row b hb).1,fun h=>h⟩)));have HK2:=aa hk2;have nC:=aa oB;have Vo:=aa Hr;have Cv:=aa Az;have KE:=aa iW;have HVK:Hid (∀x,v.ownBlock=some x->x≠kb/\x≠yO):=aa (fun x hx=>by have:=FU.o x hx;omega);have hkw:w.heap.size<=kb:=by omega
    clear jr cQ hk2 oB Hr Az iW pV aN;unfold ptrTo;have aiX:Hid ((en rs).length<=60000):=aa (by rw[Cb.o];omega);clear Ib ny RY EX Vv FU eu hlk;go_wp2;go_loopg [7] (en rs).length (fun left v wr=>Oh n pb db kb yO by' w o d L out (en rs) left v wr)
    case atStart=>exact⟨d2,o2,l,[],eB.o,JC.o,Cy.o,HT0.o,HK2.o,nC.o,Vo.o,Cv.o,HVK.o,by have:=HT0.o.len;simpa using this.symm⟩
    case round=>
     clear eB JC Cy HT0 HK2 nC Vo Cv HVK;generalize u7=v at *;generalize wr=wo at *;obtain⟨d3,o3,l3,taken,ej,N0,hr3,yJ,hk3,um,uk,N7,Zy,QB⟩:=hrel;have eC:=aa ej;have Zw:Hid (cU wo jb pb bf made by'):=aa (HJ.o.moved ej U9.o Vu.o (fun h=>h) (fun h=>h));by_cases hz:l3=[]
     ·subst hz;have hv0:∃a cap,v=.slice a 0 cap:=by
       rcases hr3 with⟨rfl,_⟩|⟨g',cap',rfl,_⟩
       ·simp
       simp
      have HD:=aa yJ.done;have aN:=aa (tY.o wo o3 d3 (fF taken) ej);clear ej N0 hr3 yJ hk3 um uk N7 Zy QB;obtain⟨a,cap',rfl⟩:=hv0;go_wp2_with fail;refine aN.o.mono ?_;rintro e w4⟨c4,d4,o4,L4,rfl,eG,ik⟩;have gp:=aa (eC.o.trans eG (fun _ _ h=>h));have BG:=aa ik;clear eG ik aN;go_wp2;go_ret;refine⟨c4,d4,o4,L4,rfl,gp.o,fun x hx T8=>?_,?_⟩
      ·rcases BG.o with⟨_,e⟩|⟨_,_,e⟩
       ·rw[e,rB,if_neg T8,ay,if_neg hx]
       ·rw[e x T8,ay,if_neg hx]
      ·rcases BG.o with⟨h1,e⟩|⟨h1,h2,_⟩
       ·exact .inl ⟨h1,by rw[e,HD.o]⟩
       ·exact .inr (.inr ⟨h1,h2⟩)
     ·have YB:0<l3.length:=List.length_pos_iff.2 hz;obtain⟨g3,yR,rfl,adp,RP,hpr,hg3⟩:∃g3 yR,v=.slice (some ⟨g3,0,none⟩) l3.length yR/\l3.length<=yR/\yR<=maxLen/\gX wo g3 (l3.map Src.cb)/\g3<wo.heap.size:=by
       rcases hr3 with⟨rfl,h⟩|⟨g,cap,rfl,h1,h2,h3,h4⟩
       ·exact absurd (List.map_eq_nil_iff.1 h) hz
       ·rw[List.length_map]at *;exact⟨g,cap,rfl,h1,h2,h3,h4⟩
      have EY:Hid (∀W,dX wo W->∀(k:Nat)(s:Src),l3[k]? = some s->W.cell? ⟨g3,k,none⟩=some (ptrTo s.cb)/\W.cell? ⟨s.cb,3,none⟩=some (.int .u32 (s.cur.t.toNat:Int))/\W.cell? ⟨s.cb,4,none⟩=some (.int .u32 (s.cur.h.toNat:Int))/\W.cell? ⟨s.cb,5,none⟩=some (.int .u64 (s.cur.x.toNat:Int))/\W.cell? ⟨s.cb,6,none⟩=some (.int .u32 (s.cur.m.toNat:Int))):=aa (fun W hW k s hk=>by
       obtain⟨h1,h2,h3,h4,h5⟩:=N0.cells hpr hk;exact⟨hW.cell h1,hW.cell h2,hW.cell h3,hW.cell h4,hW.cell h5⟩)
      have RT:=aa N0;have rp:=aa yJ;have HK3:=aa hk3;have Cw:=aa um;have RO:=aa uk;have wy:=aa N7;have R1:=aa Zy;have HGK:=aa QB;have HPR:=aa hpr;clear ej N0 hr3 yJ hk3 um uk N7 Zy QB hpr hz;unfold maxLen at RP;have AD:Hid (∀k,k<l3.length->∃s,l3[k]? = some s):=aa (fun k hk=>⟨l3[k],List.getElem?_eq_getElem hk⟩);generalize hZ:l3.length=Z at *;have HZ:=aa hZ;clear hZ;go_wp2;go_loopw [15,63] (fun kv iv W=>∃k i:Nat,k<Z/\i<=Z/\kv=.int .i64 (k:Int)/\iv=.int .i64 (i:Int)/\dX wo W/\∀(s t:Src)(j:Nat),j<i->l3[k]? = some s->l3[j]? = some t->dE by' s.cur t.cur) (fun _ iv _=>Z-(intOf iv).toNat)
      case atStart=>exact⟨0,0,YB,Nat.zero_le _,rfl,rfl,dX.refl _,fun _ _ j hj=>absurd hj (Nat.not_lt_zero _)⟩
      case round=>
       generalize wr=W at *;obtain⟨k,i,hk,hi,rfl,rfl,hgr,uF⟩:=hrel;have HG:=aa hgr;have Oi:=aa uF;clear hgr uF;by_cases hlt:i<Z
       ·obtain⟨x,hx⟩:=AD.o i hlt;obtain⟨y,hy⟩:=AD.o k hk;have HCX:Hid (∀W',dX W W'->W'.cell? ⟨g3,i,none⟩=some (ptrTo x.cb)/\W'.cell? ⟨x.cb,3,none⟩=some (.int .u32 (x.cur.t.toNat:Int))/\W'.cell? ⟨x.cb,4,none⟩=some (.int .u32 (x.cur.h.toNat:Int))/\W'.cell? ⟨x.cb,5,none⟩=some (.int .u64 (x.cur.x.toNat:Int))/\W'.cell? ⟨x.cb,6,none⟩=some (.int .u32 (x.cur.m.toNat:Int))):=aa (fun W' hW=>EY.o W' (HG.o.trans hW) i x hx);have HCY:Hid (∀W',dX W W'->W'.cell? ⟨g3,k,none⟩=some (ptrTo y.cb)/\W'.cell? ⟨y.cb,3,none⟩=some (.int .u32 (y.cur.t.toNat:Int))/\W'.cell? ⟨y.cb,4,none⟩=some (.int .u32 (y.cur.h.toNat:Int))/\W'.cell? ⟨y.cb,5,none⟩=some (.int .u64 (y.cur.x.toNat:Int))/\W'.cell? ⟨y.cb,6,none⟩=some (.int .u32 (y.cur.m.toNat:Int))):=aa (fun W' hW=>EY.o W' (HG.o.trans hW) k y hy);have aN:=aa (fun W'(hW:dX W W')=>yG.o W' (Zw.o.below (HG.o.trans hW).below) x.cur y.cur);have ady:Hid (aR by' x.cur y.cur<0->∀(s t:Src)(j:Nat),j<i+1->l3[i]? = some s->l3[j]? = some t->dE by' s.cur t.cur):=aa (fun hc s t j hj hs ht=>by
         rw[hx]at hs;obtain rfl:=Option.some.inj hs;rcases Nat.lt_or_ge j i with vB | vB
         ·have h1:=Oi.o y t j vB hy ht;rw[Ah]at hc;exact dE.trans (by unfold dE;omega) h1
         ·obtain rfl:j=i:=by omega
          rw[hx]at ht;obtain rfl:=Option.some.inj ht;exact dE.refl _ _)
        have XC:Hid (¬aR by' x.cur y.cur<0->∀(s t:Src)(j:Nat),j<i+1->l3[k]? = some s->l3[j]? = some t->dE by' s.cur t.cur):=aa (fun hc s t j hj hs ht=>by
         rcases Nat.lt_or_ge j i with vB | vB
         ·exact Oi.o s t j vB hs ht
         ·obtain rfl:j=i:=by omega
          rw[hx]at ht;obtain rfl:=Option.some.inj ht;rw[hy]at hs;obtain rfl:=Option.some.inj hs;exact(Ai _ _ _).1 hc)
        clear hx hy;unfold ptrTo at *;generalize aR by' x.cur y.cur=R at *
        generalize x.cur.t.toNat=xt at *;generalize x.cur.h.toNat=xh at *;generalize x.cur.x.toNat=xx at *;generalize x.cur.m.toNat=xm at *;generalize y.cur.t.toNat=yt at *;generalize y.cur.h.toNat=yh at *;generalize y.cur.x.toNat=yx at *;generalize y.cur.m.toNat=ym at *;generalize x.cb=xb at *;generalize y.cb=yb at *;by_cases hR:R<0;case' pos=>have hRd:decide (R<0)=true:=decide_eq_true hR
        case' neg=>have hRd:decide (R<0)=false:=decide_eq_false hR
        all_goals
         go_wp2;refine cR (dX W) (by rfl) ag (dX.refl W).drew ?_;iterate 4 (refine qz ?_)
         refine qz ?_ (fun w' hw'=>by have hc:=(HCX.o w' hw').1;go_simp<;>rfl);iterate 2 (refine qz ?_)
         refine qz ?_ (fun w' hw'=>by obtain⟨-,e0,e1,e2,e3⟩:=HCX.o w' hw';go_simp<;>rfl);iterate 3 (refine qz ?_)
         refine qz ?_ (fun w' hw'=>by have hc:=(HCY.o w' hw').1;go_simp<;>rfl);iterate 2 (refine qz ?_)
         refine qz ?_ (fun w' hw'=>by obtain⟨-,e0,e1,e2,e3⟩:=HCY.o w' hw';go_simp<;>rfl);refine qw (fun w' hw'=>(aN.o w' hw').mono (fun e w'' h=>⟨h.1,hw'.trans h.2⟩)) ?_;refine qz ?_;refine wpQuiet_nil ?_;intro W1 hW1;have JB:=aa (HG.o.trans hW1);clear hW1 aN HCX HCY;go_wp2;go_roundw
         case measure=>simp[intOf];omega
        ·exact⟨k,i+1,hk,ae,rfl,by go_num,JB.o,XC.o ae⟩
        ·exact⟨i,i+1,hlt,ae,rfl,by go_num,JB.o,ady.o ae⟩
       ·obtain rfl:Z=i:=by omega
        obtain⟨y,hy⟩:=AD.o k hk;obtain⟨e0,e3,e4,e5,e6⟩:=EY.o W HG.o k y hy;have HPL:Hid ((fF taken).length<=taken.length):=aa (mI _);have HLEN:Hid (taken.length+(cE l3).length=(en rs).length):=aa rp.o.len;have HY:=aa hy;have eG:au (fun _=>False) n pb db w o d W o3 d3 (aS L out (aw (fF taken) false)):=eC.o.below HG.o.below;have gp:=aa eG;have hk4:eZ W kb yO (fF taken):=HK3.o.below HG.o.below;have HK4:=aa hk4;have Ex:aC W yO pb out 20:=Cw.o.below HG.o.below;have ur:=aa Ex;have hl4:=RT.o.below HG.o.below;have MC:=aa hl4;have aN:=aa (hput.o W o3 d3 kb yO (fF taken) eG.aX Ex wy.o RO.o KE.o hk4 (by have:=HPL.o;have:=HLEN.o;have:=aiX.o;omega) y.cur);have nz:Hid (sU (fF taken) y.cur=fF (taken++[y.cur])):=aa (vQ _ _).symm;have hky:k<l3.length:=by rw[HZ.o];exact hk
        have Zz:Hid (l3[k]=y):=aa (by rw[List.getElem?_eq_getElem hky]at hy;exact Option.some.inj hy);have XD:=hl4.each y (List.mem_of_getElem? hy);have ami:=aa XD;have R3:Hid (∀s∈l3,dE by' l3[k].cur s.cur):=aa (fun s hs=>by
         obtain⟨j,hj,rfl⟩:=List.getElem_of_mem hs;exact Oi.o _ _ j (by rw[<- HZ.o];exact hj) (List.getElem?_eq_getElem hky) (List.getElem?_eq_getElem hj))
        have HNK:Hid (∀s∈l3,kb≠s.cb/\kb≠s.sb/\yO≠s.cb):=aa (fun s hs=>⟨yP (hl4.each s hs).src hk4,yQ (hl4.each s hs).str hk4,fY (hl4.each s hs).src Ex⟩);have hyo:=rp.o.ok y (List.mem_of_getElem? hy);have HYO:=aa hyo;have HYM:=aa (List.mem_of_getElem? hy);have hg4:g3<W.heap.size:=Nat.lt_of_lt_of_le hg3 HG.o.below.size;have ai1:Hid (gX W g3 (l3.map Src.cb)):=aa (HPR.o.kept (HG.o.below.block _ hg3));clear eG hk4 Ex hl4 hy XD hyo EY Oi;unfold ptrTo at *;generalize hyc:y.cur=yc at *;have HYC:=aa hyc;clear hyc;generalize hyb:y.cb=yb at *;have Vx:=aa hyb;clear hyb;go_wp2_with fail;refine aN.o.mono ?_;rintro e w5⟨c5,d5,o5,rfl,lD,PM,RR⟩;have Q7:=aa PM;by_cases BC:c5=0
        ·subst BC;simp only[if_true,iQ]at lD;rw[nz.o]at lD RR;have HK5:=aa (RR rfl);have lF:=aa (gp.o.trans lD (fun x hx e=>by omega));have hl5:di w5 pb o5 (aS L out (aw (fF (taken++[yc])) false)) w.heap.size out (.slice (some ⟨g3,0,none⟩) Z yR) l3:=MC.o.moved lD (fun x hx=>by cases hx;omega) (fun s hs=>⟨fun e=>(HNK.o s hs).1 e.symm,fun e=>(HNK.o s hs).2.1 e.symm⟩) (fun x hx=>by rw[ay,if_neg hx,ay,if_neg hx]);have HL5:=aa hl5;have hrow:=MC.o.row g3 rfl;have YN:w5.heap[g3]? = W.heap[g3]? := lD.block hg4 hrow.1 (R1.o g3 rfl).1;have ZA:Hid (gX w5 g3 (l3.map Src.cb)):=aa (ai1.o.kept YN);have Ic:Hid (aC w5 yO pb out 20):=aa (ur.o.moved lD wy.o (fun e=>KE.o e.symm));have ZB:Hid (o5 kb=none):=aa (lD.free HK4.o.lt RO.o);have Ie:Hid (o5 yO=none):=aa (lD.free ur.o.lt wy.o);have PG:g3<w5.heap.size:=Nat.lt_of_lt_of_le hg4 lD.size;have e0:w5.cell? ⟨g3,k,none⟩=some (.pointer (some ⟨yb,0,none⟩)):=by
          have:=ZA.o.cell (k:=k) (by rw[List.length_map];omega);rw[List.getElem_map,Zz.o,Vx.o]at this;exact this
         have uI:=hl5.each y HYM.o;have adB:=aa uI;clear lD RR PM hl5 hrow YN e3 e4 e5 e6 aN;have HTL:Hid ((taken++[yc]).length<=(en rs).length):=aa (by
          rw[List.length_append,List.length_singleton,<- HLEN.o];have h1:=Src.left_eq HYO.o;have h2:y.left.length<=(cE l3).length:=by
           exact(List.sublist_flatten_of_mem (List.mem_map.2 ⟨y,HYM.o,rfl⟩)).length_le
          rw[h1,List.length_cons]at h2;omega)
         have adC:Hid (need (aS L out (aw (fF (taken++[yc])) false))<=need L+4*M):=aa (by
          have h1:=Ia (es:=fF (taken++[yc])) Zt.o;have h2:=mI (taken++[yc]);have h3:=HTL.o;rw[Cb.o]at h3;omega)
         obtain⟨fl,R4⟩:=uI.file;by_cases AB:y.pos<y.es.length
         ·obtain⟨x,hx⟩:∃x,y.es[y.pos]? = some x:=⟨_,List.getElem?_eq_getElem AB⟩;have aN:=aa (Hx.o w5 o5 d5 _ y.cb y.sb y.name y.es y.cur y.pos fl x lF.o.aX uI.str uI.os uI.src uI.oc R4 hx);have HX:=aa hx;clear uI R4 hx;rw[Vx.o]at aN;have XC:=aa AB;clear AB;go_wp2_with fail;refine aN.o.mono ?_;rintro e w6⟨c6,d6,o6,rfl,nT,he6,Ug⟩;have HE6:=aa he6;have ye:Hid (au (fun _=>False) n pb db w o d w6 o6 d6 (aS L out (aw (fF (taken++[yc])) false))):=aa (lF.o.trans nT (fun x hx e=>by
           have:=adB.o.bc;rw[Vx.o]at this;omega))
          by_cases hc6:c6=0
          ·subst hc6;have adD:=Ug rfl;have hstep:y.step.cur=x:=by
            unfold Src.cur Src.step;show(y.es[y.pos+1-1]?).getD Aq=x;rw[Nat.add_sub_cancel,HX.o];rfl
           rw[<- hstep,<- Vx.o]at adD;have R5:au (·=l3[k].cb) n pb db w5 o5 d5 w6 o6 d6 (aS L out (aw (fF (taken++[yc])) false)):=by rw[Zz.o,Vx.o];omega
           have HL6:=aa (HL5.o.step hky R5 (fun x hx=>by cases hx;omega) (by rw[Zz.o];omega));have hrow:=HL5.o.row g3 rfl;have YN:w6.heap[g3]? = w5.heap[g3]? := nT.block PG hrow.1 (fun e=>(hrow.2.2 y HYM.o).1 (e.trans Vx.o.symm));have R6:(l3.set k l3[k].step).map Src.cb=l3.map Src.cb:=by
            rw[List.map_set];apply List.ext_getElem?;intro j;rw[List.getElem?_set];split
            ·rename_i e
             subst e;rw[List.getElem?_eq_getElem (by rw[List.length_map];omega),if_pos (by rw[List.length_map];omega),List.getElem_map];rfl
            ·rfl
           have BA:Hid (uH w6 (.slice (some ⟨g3,0,none⟩) Z yR) ((l3.set k l3[k].step).map Src.cb)):=aa (by
            rw[R6];exact .inr ⟨g3,yR,by rw[List.length_map,HZ.o],by rw[List.length_map,HZ.o];omega,by assumption,ZA.o.kept YN,Nat.lt_of_lt_of_le PG nT.size⟩)
           have Qz:Hid (Taken by' (en rs) (taken++[yc]) (l3.set k l3[k].step)):=aa (by
            have:=rp.o.step hky R3.o (by rw[Zz.o];assumption);rw[show l3[k].cur=yc by rw[Zz.o,HYC.o]]at this;omega)
           have HK6:Hid (eZ w6 kb yO (fF (taken++[yc]))):=aa (HK5.o.kept (nT.block HK5.o.lt ZB.o (fun e=>(HNK.o y HYM.o).1 (e.trans Vx.o.symm))));have R7:Hid (aC w6 yO pb out 20):=aa (Ic.o.moved nT Ie.o (fun e=>(HNK.o y HYM.o).2.2 (e.trans Vx.o.symm)));have ai3:Hid (o6 kb=none):=aa (nT.free HK5.o.lt ZB.o);have ai4:Hid (o6 yO=none):=aa (nT.free Ic.o.lt Ie.o);have apt:Hid ((cE (l3.set k l3[k].step)).length<gk):=aa (by
            have h1:=Qz.o.len;have h2:=HLEN.o;have h3:=HGK.o;rw[List.length_append,List.length_singleton]at h1;omega)
           clear nT he6 Ug adD hstep R5 hrow YN R6 aN e0;generalize Vy:l3.set k l3[k].step=ln at *;have HLN:=aa Vy;clear Vy;go_wp2;go_roundg (cE ln).length
           case measure=>assumption
           case rel=>exact⟨d6,o6,ln,taken++[yc],ye.o,HL6.o,BA.o,Qz.o,HK6.o,R7.o,ai3.o,ai4.o,R1.o,rfl⟩
          ·have apu:¬(c6:Int)=0:=by omega
           have HE:Hid (ju d d6 (need L+4*M) c6):=aa (((HE6.o.resolve_left hc6).num adC.o).later lF.o.on.bD);clear hc6 Ug nT he6 aN;go_wp2;go_ret;exact⟨c6,d6,o6,_,rfl,ye.o,(fun x hx _=>by rw[ay,if_neg hx]),.inr HE.o⟩
         ·have vG:y.es.length<=y.pos:=Nat.le_of_not_lt AB;have aN:=aa (lZ uI.src vG);have Ig:=aa vG;clear uI R4 vG AB;rw[Vx.o]at aN;unfold ptrTo at aN;go_wp2_with fail;refine aN.o.mono ?_;rintro e w6⟨rfl,q,rfl⟩;have mW:Hid (Below w5.heap.size w5 (w5.drewN q)):=aa (below_drewN aj _);generalize w5.drewN q=w6 at *;have ai5:Hid (gX w6 g3 (l3.map Src.cb)):=aa (ZA.o.kept (mW.o.block _ PG));have hg6:g3<w6.heap.size:=Nat.lt_of_lt_of_le PG mW.o.size;have hcd:=KI (cap:=yR) ai5.o (by rw[List.length_map,HZ.o];omega) (by assumption) (k:=k) (by rw[List.length_map];omega);rw[List.length_map,HZ.o,show((k+1:Nat):Int)=(k:Int)+1 by omega]at hcd;have aN:=aa hcd;clear hcd e0;go_wp2_with fail;refine aN.o.mono ?_;rintro e w7⟨rfl,ZC,PH⟩;have BK:Hid (au (fun _=>False) n pb db w o d w7 o5 d5 (aS L out (aw (fF (taken++[yc])) false))):=aa ((lF.o.below mW.o).turned (b:=g3) (HL5.o.row g3 rfl).1 (.inr (HL5.o.row g3 rfl).2.1) PH);have adE:aH (fun x=>(Value.slice (some ⟨g3,0,none⟩) Z yR).ownBlock=some x) w6 w7:=PH.mono (fun x _ e=>by rw[e];rfl);have HL7:=aa ((HL5.o.below mW.o).gone (v':=.slice (some ⟨g3,0,none⟩) (Z-1) yR) k adE rfl);have R6:(l3.map Src.cb).eraseIdx k=(l3.eraseIdx k).map Src.cb:=by
           rw[List.eraseIdx_eq_take_drop_succ,List.eraseIdx_eq_take_drop_succ,List.map_append,List.map_take,List.map_drop]
          have ue:(l3.eraseIdx k).length=Z-1:=by rw[List.length_eraseIdx,if_pos hky,HZ.o]
          have BL:Hid (uH w7 (.slice (some ⟨g3,0,none⟩) (Z-1) yR) ((l3.eraseIdx k).map Src.cb)):=aa (by
           rw[R6]at ZC;exact .inr ⟨g3,yR,by rw[List.length_map,ue],by rw[List.length_map,ue];omega,by assumption,ZC,Nat.lt_of_lt_of_le hg6 PH.size⟩)
          have T5:Hid (Taken by' (en rs) (taken++[yc]) (l3.eraseIdx k)):=aa (by
           have:=rp.o.gone hky R3.o (by rw[Zz.o];assumption);rw[show l3[k].cur=yc by rw[Zz.o,HYC.o]]at this;omega)
          have HK7:Hid (eZ w7 kb yO (fF (taken++[yc]))):=aa ((HK5.o.below mW.o).kept (PH.block kb (Nat.lt_of_lt_of_le HK5.o.lt mW.o.size) (fun e=>(R1.o g3 rfl).1 e.symm)));have R9:Hid (aC w7 yO pb out 20):=aa ((Ic.o.below mW.o).kept (PH.block yO (Nat.lt_of_lt_of_le Ic.o.lt mW.o.size) (fun e=>(R1.o g3 rfl).2 e.symm)));have apw:Hid ((cE (l3.eraseIdx k)).length<gk):=aa (by
           have h1:=T5.o.len;have h2:=HLEN.o;have h3:=HGK.o;rw[List.length_append,List.length_singleton]at h1;omega)
          clear ZC PH adE R6 ue aN;generalize Vy:l3.eraseIdx k=ln at *;have HLN:=aa Vy;clear Vy;go_wp2;go_roundg (cE ln).length
          case measure=>assumption
          case rel=>exact⟨d5,o5,ln,taken++[yc],BK.o,HL7.o,BL.o,T5.o,HK7.o,R9.o,ZB.o,Ie.o,R1.o,rfl⟩
        ·have acC:¬(c5:Int)=0:=by omega
         rw[if_neg BC]at lD;have lF:=aa (gp.o.trans lD (fun x hx e=>by omega));have HE:Hid (ju d d5 (need L+4*M) c5):=aa (((Q7.o.resolve_left BC).num (by
          have h1:=Ia (es:=fF taken) Zt.o;have h2:=HPL.o;have h3:=HLEN.o;rw[Cb.o]at h3;omega)).later gp.o.on.bD)
         clear BC lD RR PM aN;go_wp2;go_ret;exact⟨c5,d5,o5,_,rfl,lF.o,(fun x hx _=>by rw[ay,if_neg hx]),.inr HE.o⟩
   ·have Ku:¬(c2:Int)=0:=by omega
    have HC2:=aa hc2;rw[if_neg hc2]at cQ;have eB:=aa (eu.o.trans cQ (fun _ _ h=>h));clear hc2 cQ jr pV aN;go_wp2;go_ret;exact⟨c2,d2,o2,L,rfl,eB.o,(fun _ _ _=>rfl),.inr (.inr (G6.o.resolve_left HC2.o))⟩
end
end
section
open Go.RowKit Go.Maps Go.MapKept
section
variable {b:Bool} {es:List aJ} {rs:List tB} {L L':aD} {name out:Name} {q:Nat}
noncomputable def merged(b:Bool)(rs:List tB)(q:Nat)(name:Name):List tB:=rs.drop q++[(name,aK b (en (rs.take q)))]
theorem uJ:(merged b rs q name).map (·.1)=(rs.map (·.1)).drop q++[name]:=by
 grind [merged,List.map_drop]
theorem Cz:(merged b rs q name).length=rs.length-q+1:=by
 grind [merged]
theorem pG(rs:List tB)(q:Nat):lens rs=lens (rs.take q)+lens (rs.drop q):=by
 rw[<- x7,List.take_append_drop]
theorem nL.merge(h:nL b es rs)(hn:name ∉ rs.map (·.1)):nL b es (merged b rs q name) where
 each:=fun p hp=>by
  rcases List.mem_append.1 hp with hp | hp
  ·grind [each]
  grind [mQ]
 all:=by
  grind [merged,uz,en,ES,Hs,List.take_append_drop,all]
 len:=by
  have h1:=h.len;grind [pG,cd,uA,merged,lens]
 nodup:=by
  grind [uJ,nodup]
theorem AE(h:nL b es rs)(hn:name ∉ rs.map (·.1))(hL:∀p∈rs,aB L p.1=none)(he:∀x,aB L' x=aB (dO rs L) x)(x:Name) :
 aB (((rs.take q).map (·.1)).foldl b8 (aS L' name (aw (aK b (en (rs.take q))) false))) x=aB (dO (merged b rs q name) L) x:=by
 have ZE:=h.nodup;have ZF:rs.map (·.1)=(rs.take q).map (·.1)++(rs.drop q).map (·.1):=by simp
 rw[ZF]at ZE hn;rw[List.nodup_append]at ZE;rw[List.mem_append,not_or]at hn;obtain⟨n1,n2,n3⟩:=ZE;unfold merged;rw[rB,ay,AA,ay];by_cases hx:x=name
 ·grind
 ·rw[if_neg hx,if_neg hx];by_cases ht:x∈(rs.take q).map (·.1)
  ·grind [eK]
  ·rw[if_neg ht,he];by_cases hd:x∈(rs.drop q).map (·.1)
   ·obtain⟨p,hp,rfl⟩:=List.mem_map.1 hd;grind [wz]
   grind [eK]
theorem Oj(h:nL b es rs)(hk:(L.map (·.1)).Nodup)(BX:(L'.map (·.1)).Nodup)(he:∀x,aB L' x=aB (dO rs L) x):need L'<=need L+4*es.length:=by
 rw[Aa (KF rs L hk) BX he];have h1:=s9 rs L;have h2:=h.len;omega
end
end
section
open Go.RowKit Go.Maps Go.MapKept
section
variable {w w':World} {pb db n cb kb sb jb bf made:Nat} {by':Bool} {name:Name} {o o':ar} {d d':Dsk} {L L':aD}
def kE(n pb db jb bf cb:Nat)(by':Bool)(w:World)(o:ar)(d:Dsk)(L:aD)(out:Name)(es:List aJ)(left:Nat)(v:Value)(wr:World):Prop:=
 ∃(d':Dsk)(o':ar)(L':aD)(rs:List tB)(made:Nat),au (fun x=>x=cb\/x=jb) n pb db w o d wr o' d' L'/\cU wr jb pb bf made by'/\bH wr v (rs.map (·.1))/\(∀b,v.ownBlock=some b->o' b=none/\w.heap.size<=b)/\nL by' es rs /\
  (∀x,aB L' x=aB (dO rs L) x)/\((∃x,rs=[(out,x)])\/(2<=rs.length/\∀p∈rs,∃k,k<made/\p.1=dz k))/\made+rs.length<=102/\left=rs.length
theorem Ol{out:Name}{rs:List tB}(hno:aB L out=none)(BQ:∀k,aB L (dz k)=none)(h:(∃x,rs=[(out,x)])\/(2<=rs.length/\∀p∈rs,∃k,k<made/\p.1=dz k)):∀p∈rs,aB L p.1=none:=by
 intro p hp;rcases h with⟨x,rfl⟩|⟨_,h⟩
 ·rw[List.mem_singleton.1 hp];exact hno
 ·obtain⟨k,_,e⟩:=h p hp;rw[e];exact BQ k
theorem Dv{out:Name}{rs:List tB}(hmd:made<=128)(h:(∃x,rs=[(out,x)])\/(2<=rs.length/\∀p∈rs,∃k,k<made/\p.1=dz k)):∀x∈rs.map (·.1),gW out x:=by
 intro y hy;obtain⟨p,hp,rfl⟩:=List.mem_map.1 hy;rcases h with⟨x,rfl⟩|⟨_,h⟩
 ·rw[List.mem_singleton.1 hp];exact .inl rfl
 ·obtain⟨k,hk,e⟩:=h p hp;exact .inr ⟨k,ae,e⟩
theorem kE.next{out nm:Name}{es:List aJ}{rs:List tB}{q left g mk:Nat}{w4 w5:World}{o4:ar}{d4:Dsk}{L4:aD}{vd v5:Value}{nsd:List Name}{ob:Obj}(hm:au (fun x=>x=cb\/x=jb) n pb db w o d w4 o4 d4 L4)(hj:cU w4 jb pb bf mk by')(h1:jb<w.heap.size)(h2:bf<w.heap.size)(hvd:vd.ownBlock=some g)(hg:o4 g=none/\w.heap.size<=g)(ha:lj (w4.alloc ob) vd nsd nm v5 w5)(T8:nsd++[nm]=(merged by' rs q nm).map (·.1))(eD:nL by' es (merged by' rs q nm))(gV:∀x,aB L4 x=aB (dO (merged by' rs q nm) L) x)(hsh:(∃x,merged by' rs q nm=[(out,x)])\/(2<=(merged by' rs q nm).length/\∀p∈merged by' rs q nm,∃k,k<mk/\p.1=dz k))(vL:mk+(merged by' rs q nm).length<=102)(hl:left=(merged by' rs q nm).length):kE n pb db jb bf cb by' w o d L out es left v5 w5:=by
 obtain⟨hr,ht,hb⟩:=ha;have hs:w4.heap.size<(w4.alloc ob).heap.size:=by simp
 have hw:w.heap.size<=w4.heap.size:=hm.size;have ht':aH (·=g) (w4.alloc ob) w5:=ht.mono (fun x _ e=>by rw[hvd]at e;exact(Option.some.inj e).symm);rw[T8]at hr;have hjk:∀x,x<w.heap.size->w5.heap[x]? = w4.heap[x]? := fun x hx=>(ht'.block x ae (fun e=>by omega)).trans ((MapKept.heap_alloc w4 ob).2 x ae);refine⟨d4,o4,L4,merged by' rs q nm,mk,(hm.alloc ob).turned (b:=g) hg.1 (.inr hg.2) ht',hj.kept (hjk jb h1) (hjk bf h2),hr,fun b hb'=>?_,eD,gV,hsh,vL,hl⟩;rcases hb with e | e
 ·rw[e,hvd]at hb';cases hb';exact hg
 ·rw[e]at hb';cases hb';exact⟨hm.aX.fresh (Nat.le_of_lt hs),ae⟩
theorem FZ(HW:aP){m:Nat}(HS:qH m)(apx:m<=2400):dZ m:=by
 intro w pb db n cb sb jb bf by' o d L h hn hj lI Cx hne es fl rE out x0 hL pA hst NY Vt hcj hcb hsj hsc hout hno BQ hto hm
 have adF:=aa (Hw HW HS h hn hj lI Cx hne hL pA hst NY Vt hcj hcb hsj hsc hout hno BQ hto hm ae);have rF:Hid (∀W o' d' L',aQ W pb db n o' d' L'->Calls prog 44 #[ptrTo pb] W fun e w'=>e=.returned (.int .i64 (n:Int))/\W=w'):=aa (fun W o' d' L' hW=>jv hW);have ZG:Hid (∀W o' d' L' x,aQ W pb db n o' d' L'->aB L' out=some (aw x false)->Calls prog 79 #[ptrTo pb,.string out] W (jq (fun _=>False) n pb db W o' d' L' (aS L' out (aw x true)))):=aa (fun W o' d' L' x hW BB=>pF HW hW BB);have Eg:Hid (∀W made,cU W jb pb bf made by'->made<100->Calls prog 178 #[ptrTo jb] W fun e w'=>e=.returned (.string (dz made))/\cU w' jb pb bf (made+1) by'/\aH (·=jb) W w'):=aa (fun W made hW hm=>Ds hW hm hne);have Sa:Hid (∀W o' d' L' made rs q v nm,au (fun x=>x=cb\/x=jb) n pb db w o d W o' d' L'->cU W jb pb bf made by'->nL by' es rs->(∀x,aB L' x=aB (dO rs L) x)->bH W v ((rs.take q).map (·.1))->(∀b,v.ownBlock=some b->o' b=none)->rs.length<=1000->bM nm=true->aB L nm=none->nm ∉ rs.map (·.1) ->
  Calls prog 179 #[ptrTo jb,v,.string nm] W (Du n pb db W o' d' L' nm ((rs.take q).map (·.1)) (aK by' (en (rs.take q))) (lens (rs.take q)))):=aa (fun W o' d' L' made rs q v nm qa hjW eD he hv my hl vh Zv hni=>by
  have Kg:=pG rs q;have hl2:=eD.len;refine EW HW qa.aX hjW (qa.free hj.lt.1 lI) (qa.free hj.lt.2 Cx) hv my (fun p hp=>?_) ?_ ?_ (fun p hp=>eD.each p (List.mem_of_mem_take hp)) ae vh ?_
  ·rw[he];exact wz _ _ eD.nodup p (List.mem_of_mem_take hp)
  ·rw[List.map_take];exact List.Nodup.sublist (List.take_sublist _ _) eD.nodup
  ·rw[List.length_take];omega
  ·rw[he,eK _ _ _ hni,Zv])
 have Uh:n<=4096:=by
  obtain⟨fb,mb,l,hand,mf,hp,rfl,-⟩:=h;exact hp.most
 have Zt:=aa hno;have HNT:=aa BQ;have HTO:=aa hto;have ZH:=aa hout;have Ro:=aa h.keys;have U9:=aa lI;have HCJ:=aa hcj;have Vu:=aa Cx;have Sb:=hj.lt.1;have Vz:=hj.lt.2;clear h hj lI Cx hne hL pA hst NY Vt hcj hcb hsj hsc hout hno BQ hto hm;unfold ptrTo at *;obtain⟨ways,Sc⟩:∃ways:Nat,(ways:Int)=(n:Int)-4:=⟨n-4,ae⟩;have rN:IntKind.i64.wrap ((n:Int)-4)=(ways:Int):=by rw[ax ae ae,Sc]
 have Sd:4<=ways/\ways<=4092:=by omega
 obtain⟨Sd,ai7⟩:=Sd;have amo:=aa Sc;clear Sc;go_enter func117,ntmps117;go_wp2_with fail;refine adF.o.mono ?_;rintro e w1⟨v1,c1,d1,o1,L1,rfl,ee,ZI,hc1⟩;have eu:=aa ee;have adH:=aa ZI;rcases hc1 with⟨rfl,rs,r,MJ,eD,vh,hrr,ai8,Kr,Nl,adI⟩| tA
 ·have HEAD:Hid (kE n pb db jb bf cb by' w o d L out es rs.length v1 w1):=aa ⟨d1,o1,L1,rs,r,ee,Kr,Nl,adI,eD,(fun x=>by rw[MJ]),vh.imp id (fun h=>⟨h.1,h.2.2⟩),ae,rfl⟩;obtain⟨Ub,-⟩:=Kr.cells;have Sg:=aa (rF.o w1 o1 d1 L1 ee.aX);clear MJ eD vh hrr ai8 Kr Nl adI ee ZI;unfold ptrTo at Ub;generalize rs.length=r0 at *;clear rs;go_wp2_with fail;refine Sg.o.mono ?_;rintro e w2⟨rfl,rfl⟩;go_wp2;go_loopg [7] r0 (fun left v wr=>kE n pb db jb bf cb by' w o d L out es left v wr)
  case atStart=>exact HEAD.o
  case round=>
   clear Ub HEAD eu adH Sg;generalize u7=v at *;generalize wr=wo at *;obtain⟨d2,o2,L2,rs,mk,cQ,hj2,hv2,adJ,jr,MK,ZJ,vL,xD⟩:=hrel;have eB:=aa cQ;have Vg:=aa hj2;have T7:=aa hv2;have EZ:=aa adJ;have AG:=aa jr;have Dw:=aa MK;have adK:=aa ZJ;have Sh:=aa xD;have sX:Hid (need L2<=need L+4*es.length):=aa (Oj jr Ro.o cQ.aX.keys MK);have Om:Hid (∀x,¬gW out x->aB L2 x=aB L x):=aa (fun x hx=>by rw[MK,eK _ _ _ (fun e=>hx (Dv ae ZJ x e))]);obtain⟨Ub,-⟩:=hj2.cells;unfold ptrTo at Ub;obtain⟨g,off,cap,rfl⟩:=hv2.shape;obtain⟨-,hl2,N0,-⟩:=hv2.cells;unfold maxLen at N0;have hsz:w.heap.size<=wo.heap.size:=cQ.size;clear cQ hj2 hv2 adJ jr MK xD;rw[List.length_map]at *;rcases ZJ with⟨x,rfl⟩|⟨hr2,Si⟩
   ·have hx:x=aK by' es:=by
     have h1:=AG.o.each (out,x) ah;have h2:=AG.o.all;simp only[en,List.map_cons,List.map_nil,List.flatten_cons,List.flatten_nil,List.append_nil]at h2;rw[<- h2];exact h1.symm
    have HX:=aa hx;have Mu:=aa (ZG.o wo o2 d2 L2 x eB.o.aX (by rw[Dw.o];exact wz _ _ AG.o.nodup (out,x) ah));clear hx;simp only[List.map_cons,List.map_nil,List.length_cons,List.length_nil]at *;go_wp2_with fail;refine Mu.o.mono ?_;rintro e w3⟨c3,d3,o3,rfl,ej,Dm⟩;have eC:=aa (eB.o.trans ej (fun _ _ h=>h.elim));have Ck:=aa Dm;clear ej Dm;go_wp2;go_ret;refine⟨c3,d3,o3,_,rfl,eC.o,fun y hy=>?_,?_⟩
    ·have h1:=Om.o y hy;split
     ·rw[ay,if_neg (fun e=>hy (.inl e)),h1]
     ·exact h1
    ·rcases Ck.o with h | h
     ·subst h;refine .inl ⟨rfl,fun y=>?_⟩;rw[if_pos rfl,ay,ay,HX.o];by_cases e:y=out
      ·rw[if_pos e,if_pos e]
      ·rw[if_neg e,if_neg e,Dw.o,eK];simpa using e
     ·have h2:=sX.o;exact .inr ((h.num ae).later eB.o.on.bD)
   ·have KP:=aa Si;have ML:rs.length<=1000:=by omega
    have HNL:=aa (Ol Zt.o HNT.o adK.o);have HRS:=aa (Dv ae adK.o);clear Si;generalize hN:rs.length=N at *;have HN:=aa hN;clear hN;by_cases apA:ways<N
    ·have E0:=aa (Eg.o wo mk Vg.o ae);have ZK:Hid (dz mk ∉ rs.map (·.1)):=aa (fun hx=>by
      obtain⟨p,hp,e⟩:=List.mem_map.1 hx;obtain⟨k,hk,e'⟩:=KP.o p hp;have:=wD (e'.symm.trans e);omega)
     have uF:min (ways:Int) (N:Int)=(ways:Int):=Int.min_eq_left ae;have RN:=aa (Hu (k:=mk) ae);unfold ptrTo at E0;go_wp2_with fail;refine E0.o.mono ?_;rintro e w3⟨rfl,PQ,yJ⟩;have eC:Hid (au (fun x=>x=cb\/x=jb) n pb db w o d w3 o2 d2 L2):=aa (eB.o.turned (b:=jb) (eB.o.free Sb U9.o) (.inl (.inr rfl)) yJ);have FQ:Hid (bH w3 (.slice (some ⟨g,off,none⟩) N cap) (rs.map (·.1))):=aa (T7.o.turn yJ (fun b hb e=>by have:=(EZ.o b hb).2;omega));have Zw:=aa PQ;have Ev:=aa (Sa.o w3 o2 d2 L2 (mk+1) rs ways (.slice (some ⟨g,off,none⟩) ways cap) (dz mk) eC.o PQ AG.o Dw.o (by rw[List.map_take];exact FQ.o.take (by rw[List.length_map,HN.o];omega)) (fun b hb=>(EZ.o b hb).1) (by rw[HN.o];exact ML) RN.o (HNT.o mk) ZK.o);clear PQ yJ E0;unfold ptrTo at Ev;generalize vh:dz mk=nm at *;have adL:=aa vh;clear vh;go_wp2_with fail;refine Ev.o.mono ?_;rintro e w4⟨c4,d4,o4,L4,rfl,eG,CA,ik⟩;have gp:=aa (eC.o.trans eG (fun _ _ h=>h.elim));have Sj:Hid (∀x,¬gW out x->x≠nm/\x ∉ (rs.take ways).map (·.1)):=aa (fun x hx=>⟨fun e=>hx (.inr ⟨mk,ae,e.trans adL.o.symm⟩),fun e=>by
      obtain⟨p,hp,e'⟩:=List.mem_map.1 e;exact hx (HRS.o x (List.mem_map.2 ⟨p,List.mem_of_mem_take hp,e'⟩))⟩)
     by_cases ui:c4=0
     ·subst ui;have Vq:=aa (AG.o.merge (q:=ways) ZK.o);have Sk:Hid (∀x,aB L4 x=aB (dO (merged by' rs ways nm) L) x):=aa (by
       rcases ik with⟨_,e⟩| e
       ·rw[e];exact AE AG.o ZK.o HNL.o Dw.o
       ·exact absurd rfl e.ne)
      have Kk:Hid (bH w4 (.slice (some ⟨g,off,none⟩) N cap) (rs.map (·.1))):=aa (FQ.o.kept (fun b hb=>eG.block (FQ.o.lt b hb) (EZ.o b hb).1 (fun h=>h)));have p8:Hid (o4 g=none/\w.heap.size<=g):=aa ⟨eG.free (FQ.o.lt g rfl) (EZ.o g rfl).1,(EZ.o g rfl).2⟩;have HJ4:Hid (cU w4 jb pb bf (mk+1) by'):=aa (Zw.o.kept (eG.block Zw.o.lt.1 (eC.o.free Sb U9.o) (fun h=>h)) (eG.block Zw.o.lt.2 (eC.o.free Vz Vu.o) (fun h=>h)));have HVD:Hid (∀ob,bH (w4.alloc ob) (.slice (some ⟨g,off+ways,none⟩) (N-ways) (cap-ways)) ((rs.map (·.1)).drop ways)):=aa (fun ob=>(Kk.o.drop (by rw[List.length_map,HN.o];omega)).below (aj.alloc (Nat.le_refl _) ob));have HDL:Hid (((rs.map (·.1)).drop ways).length<=100000):=aa (by rw[List.length_drop,List.length_map,HN.o];omega);clear eG CA ik Ev;go_wp2_with (at_builtin;refine iG rfl _ _ 91 rfl Tryz.underlying91 rfl (HVD.o _) nm ⟨w4.heap.size,0,none⟩ 1 rfl ah HDL.o ?_);intro v5 w5 JI;have Ru:Hid (kE n pb db jb bf cb by' w o d L out es (N-ways+1) v5 w5):=aa (by
       have BV:(merged by' rs ways nm).length=N-ways+1:=by rw[Cz,HN.o]
       refine kE.next (q:=ways) gp.o HJ4.o Sb Vz rfl p8.o JI uJ.symm Vq.o Sk.o (.inr ⟨by rw[BV];omega,fun p hp=>?_⟩) (by rw[BV];omega) BV.symm;rcases List.mem_append.1 hp with hp | hp
       ·obtain⟨k,hk,e⟩:=KP.o p (List.mem_of_mem_drop hp);exact⟨k,ae,e⟩
       ·rw[List.mem_singleton.1 hp];exact⟨mk,Nat.lt_succ_self _,adL.o.symm⟩)
      clear JI;go_wp2;go_roundg (N-ways+1)
      case measure=>have:=Sh.o;omega
      case rel=>exact Ru.o
     ·have ai9:¬(c4:Int)=0:=by omega
      have Cg:Hid (ju d d4 (need L+8*es.length) c4):=aa (((ik.resolve_left (fun h=>ui h.1)).mono (by
       have h1:=sX.o;have h2:=pG rs ways;have h3:=AG.o.len;omega)).later eC.o.on.bD)
      have Oo:Hid (∀x,¬gW out x->aB L4 x=aB L x):=aa (fun x hx=>by rw[CA x (Sj.o x hx).1 (Sj.o x hx).2,Om.o x hx]);clear ui eG CA ik Ev;go_wp2;go_ret;exact⟨c4,d4,o4,L4,rfl,gp.o,Oo.o,.inr Cg.o⟩
    ·have ZK:Hid (out ∉ rs.map (·.1)):=aa (fun hx=>by
      obtain⟨p,hp,e⟩:=List.mem_map.1 hx;obtain⟨k,hk,e'⟩:=KP.o p hp;exact HTO.o k (e.symm.trans e'))
     have uF:min (ways:Int) (N:Int)=(N:Int):=Int.min_eq_right ae;have Ev:=aa (Sa.o wo o2 d2 L2 mk rs N (.slice (some ⟨g,off,none⟩) N cap) out eB.o Vg.o AG.o Dw.o (by rw[List.map_take];exact T7.o.take (by rw[List.length_map,HN.o];exact Nat.le_refl _)) (fun b hb=>(EZ.o b hb).1) (by rw[HN.o];exact ML) ZH.o Zt.o ZK.o);unfold ptrTo at Ev;have amq:¬(ways:Int)<(N:Int):=by omega
     go_wp2_with fail;refine Ev.o.mono ?_;rintro e w4⟨c4,d4,o4,L4,rfl,eG,CA,ik⟩;have gp:=aa (eB.o.trans eG (fun _ _ h=>h.elim));have Sj:Hid (∀x,¬gW out x->x≠out/\x ∉ (rs.take N).map (·.1)):=aa (fun x hx=>⟨fun e=>hx (.inl e),fun e=>by
      obtain⟨p,hp,e'⟩:=List.mem_map.1 e;exact hx (HRS.o x (List.mem_map.2 ⟨p,List.mem_of_mem_take hp,e'⟩))⟩)
     by_cases ui:c4=0
     ·subst ui;have Vq:=aa (AG.o.merge (q:=N) ZK.o);have Sk:Hid (∀x,aB L4 x=aB (dO (merged by' rs N out) L) x):=aa (by
       rcases ik with⟨_,e⟩| e
       ·rw[e];exact AE AG.o ZK.o HNL.o Dw.o
       ·exact absurd rfl e.ne)
      have Kk:Hid (bH w4 (.slice (some ⟨g,off,none⟩) N cap) (rs.map (·.1))):=aa (T7.o.kept (fun b hb=>eG.block (T7.o.lt b hb) (EZ.o b hb).1 (fun h=>h)));have p8:Hid (o4 g=none/\w.heap.size<=g):=aa ⟨eG.free (T7.o.lt g rfl) (EZ.o g rfl).1,(EZ.o g rfl).2⟩;have HJ4:Hid (cU w4 jb pb bf mk by'):=aa (Vg.o.kept (eG.block Vg.o.lt.1 (eB.o.free Sb U9.o) (fun h=>h)) (eG.block Vg.o.lt.2 (eB.o.free Vz Vu.o) (fun h=>h)));have Sl:merged by' rs N out=[(out,aK by' (en (rs.take N)))]:=by
       unfold merged;rw[List.drop_of_length_le (by rw[HN.o];exact Nat.le_refl _),List.nil_append]
      have Ru:Hid (∀vd v5 w5 ob,vd.ownBlock=some g->lj (w4.alloc ob) vd [] out v5 w5->kE n pb db jb bf cb by' w o d L out es 1 v5 w5):=aa (fun vd v5 w5 ob hvd JI=>by
       refine kE.next (q:=N) gp.o HJ4.o Sb Vz hvd p8.o JI (by rw[Sl];rfl) Vq.o Sk.o (.inl ⟨_,Sl⟩) (by rw[Sl];simp only[List.length_singleton];omega) (by rw[Sl];rfl))
      have HVD:Hid (∀ob,(cap=N->bH (w4.alloc ob) (.slice (some ⟨g,off,none⟩) 0 0) [])/\(N<cap->bH (w4.alloc ob) (.slice (some ⟨g,off+N,none⟩) 0 (cap-N)) [])):=aa (fun ob=>⟨fun e=>(Kk.o.U4 e.symm).below (aj.alloc (Nat.le_refl _) ob),fun e=>by
       have:=Kk.o.drop (n:=N) (by rw[List.length_map,HN.o];exact Nat.le_refl _);rw[Nat.sub_self,List.drop_of_length_le (by rw[List.length_map,HN.o];exact Nat.le_refl _)]at this;exact this.below (aj.alloc (Nat.le_refl _) ob)⟩)
      clear eG CA ik Ev Sl;by_cases hcN:cap=N
      ·have HCN:=aa hcN;subst hcN;have HV0:Hid (∀ob,bH (w4.alloc ob) (.slice (some ⟨g,off,none⟩) 0 0) []):=aa (fun ob=>(HVD.o ob).1 rfl);go_wp2_with (at_builtin;refine iG rfl _ _ 91 rfl Tryz.underlying91 rfl (HV0.o _) out ⟨w4.heap.size,0,none⟩ 1 rfl ah ah ?_);intro v5 w5 JI;have HNY:=aa (Ru.o _ v5 w5 _ rfl JI);clear JI;go_wp2;go_roundg 1
       case measure=>have:=Sh.o;omega
       case rel=>exact HNY.o
      ·have ajc:N<cap:=by omega
       go_wp2_with (at_builtin;refine iG rfl _ _ 91 rfl Tryz.underlying91 rfl ((HVD.o _).2 ajc) out ⟨w4.heap.size,0,none⟩ 1 rfl ah ah ?_);intro v5 w5 JI;have HNY:=aa (Ru.o _ v5 w5 _ rfl JI);clear JI;go_wp2;go_roundg 1
       case measure=>have:=Sh.o;omega
       case rel=>exact HNY.o
     ·have ai9:¬(c4:Int)=0:=by omega
      have Cg:Hid (ju d d4 (need L+8*es.length) c4):=aa (((ik.resolve_left (fun h=>ui h.1)).mono (by
       have h1:=sX.o;have h2:=pG rs N;have h3:=AG.o.len;omega)).later eB.o.on.bD)
      have Oo:Hid (∀x,¬gW out x->aB L4 x=aB L x):=aa (fun x hx=>by rw[CA x (Sj.o x hx).1 (Sj.o x hx).2,Om.o x hx]);clear ui eG CA ik Ev;go_wp2;go_ret;exact⟨c4,d4,o4,L4,rfl,gp.o,Oo.o,.inr Cg.o⟩
 ·have zC:¬(c1:Int)=0:=by have:=tA.ne;omega
  have Dk:=aa tA;clear tA ee ZI;go_wp2;go_ret;exact⟨c1,d1,o1,L1,rfl,eu.o,adH.o,.inr Dk.o⟩
end
end
end Go.Proofs.YthkkgdpomhhjjaaGreatDoor
