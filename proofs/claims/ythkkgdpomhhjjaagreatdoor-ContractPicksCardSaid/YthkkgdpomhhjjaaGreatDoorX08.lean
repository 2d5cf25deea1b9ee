/-
  Joined.
-/
import Derived.Test.YthkkgdpomhhjjaaGreatDoorX07
set_option maxRecDepth 100000
set_option maxHeartbeats 32000000
namespace Go.Proofs.YthkkgdpomhhjjaaGreatDoor
open Go.Proofs.Tryz
section
open Go.RowKit Go.Maps Go.MapKept
section
variable {S:Nat->Prop} {w w':World} {pb db n cb kb sb jb bg made:Nat} {by':Bool} {name:Name} {o o':ar} {d d':Dsk} {L L':aC}
theorem jr(h:aQ w pb db n o d L):Calls prog 44 #[ptrTo pb] w fun e w'=>e=.returned (.int .i64 (n:Int))/\w=w':=by
 obtain⟨fb,mb,l,hand,mf,hp,rfl,-⟩:=h;obtain⟨⟨-,hc1,-⟩,-⟩:=hp.head.cells;have hm:=hp.most;clear hp;unfold ptrTo;generalize l.length=n at *;go_enter func44,ntmps44;go_wp2;go_ret;exact⟨rfl,rfl⟩
theorem aD.Vj(hst:aD w sb pb name 20)(hm:au S n pb db w o d w' o' d' L')(ho:o sb=none)(hs:¬S sb):aD w' sb pb name 20:=hst.moved hm ho hs
def pw(w:World)(cb N:Nat):Nat:=N-(intOf ((w.cell? ⟨cb,1,none⟩).getD undef)).toNat
theorem pz{i N:Nat}{x:aH}(h:bz w cb sb i N x):pw w cb N=N-i:=by
 unfold pw;rw[h.cells.1.2.1];simp[intOf]
def vT(many:Bool)(out:Name)(r:Nat):Name:=if many then dx r else out
structure mP(n pb db jb bg cb sb:Nat)(by':Bool)(w:World)(o:ar)(d:Dsk)(N made p:Nat)(v:Value)(nm:List Name)(l:Value)(c:List aH)(W:World)(o':ar)(d':Dsk)(L':aC):Prop where
 mv:au (fun x=>x=cb\/x=jb) n pb db w o d W o' d' L'
 Em:cS W jb pb bg made by'
 src:∃x,bz W cb sb p N x
 row:W.ownsRow w.heap.size 9 1 v nm.length (nm.map Value.string)
 rf:∀x,v.ownBlock=some x->o' x=none
 ed:aK W w.heap.size l c
 ef:∀x,l.ownBlock=some x->o' x=none
 old:(jb<w.heap.size/\o jb=none)/\(bg<w.heap.size/\o bg=none)/\cb<w.heap.size/\o cb=none
theorem mP.step{N made p:Nat}{v l:Value}{nm:List Name}{c:List aH}{W W':World}{gR:ar}{gT:Dsk}(h:mP n pb db jb bg cb sb by' w o d N made p v nm l c W o' d' L'){T:Nat->Prop}{xD:aC}(_hm:au (fun x=>x=cb\/x=jb) n pb db w o d W' gR gT xD)(ho:∀x,x<W.heap.size->o' x=none->gR x=none)(hh:∀x,x<W.heap.size->o' x=none->¬T x->W'.heap[x]? = W.heap[x]?) :
 (¬T jb->¬T bg->cS W' jb pb bg made by')/\(¬T cb->∃x,bz W' cb sb p N x)/\((∀x,v.ownBlock=some x->¬T x)->W'.ownsRow w.heap.size 9 1 v nm.length (nm.map Value.string)/\∀x,v.ownBlock=some x->gR x=none)/\((∀x,l.ownBlock=some x->¬T x)->aK W' w.heap.size l c/\∀x,l.ownBlock=some x->gR x=none):=by
 obtain⟨⟨j1,j2⟩,⟨b1,b2⟩,c1,c2⟩:=h.old;have hz:=h.mv.size;refine⟨fun t1 t2=>h.Em.kept (hh _ ae (h.mv.free j1 j2) t1) (hh _ ae (h.mv.free b1 b2) t2),fun t=>?_,fun t=>⟨bH h.row fun x hx=>hh x (aL h.row x hx).1 (h.rf x hx) (t x hx),fun x hx=>ho x (aL h.row x hx).1 (h.rf x hx)⟩,fun t=>⟨bH h.ed fun x hx=>hh x (aL h.ed x hx).1 (h.ef x hx) (t x hx),fun x hx=>ho x (aL h.ed x hx).1 (h.ef x hx)⟩⟩;obtain⟨x,hx⟩:=h.src;exact⟨x,hx.kept (hh _ ae (h.mv.free c1 c2) t)⟩
structure pA(by':Bool)(out:Name)(es:List aH)(most:Nat)(many:Bool)(rs:List tj)(i:Nat):Prop where
 nm:rs.map (·.1)=(List.range rs.length).map (vT many out)
 at':i=min es.length (rs.length*most)
 each:∀p∈rs,aJ by' p.2=p.2
 all:aJ by' (ee rs)=aJ by' (es.take i)
 len:lens rs<=i
 one:many=false->rs.length<=1
 pos:0<rs.length->0<es.length
 top:rs.length<=51
def Ha(n pb db jb bg cb sb:Nat)(by':Bool)(w:World)(o:ar)(d:Dsk)(L:aC)(out:Name)(es:List aH)(most:Nat)(many:Bool)(v:Value)(wr:World):Prop:=
 ∃rs i o' d',pA by' out es most many rs i/\mP n pb db jb bg cb sb by' w o d es.length (if many=true then rs.length else 0) i v (rs.map (·.1)) (.slice none 0 0) [] wr o' d' (dK rs L)
def qF(n pb db jb bg cb:Nat)(by':Bool)(w:World)(o:ar)(d:Dsk)(L:aC)(out:Name)(es:List aH)(e:Ending)(w':World):Prop:=
 ∃v c d' o' L',e=.returned (.tuple #[v,.int .i64 ((c:Nat):Int)])/\au (fun x=>x=cb\/x=jb) n pb db w o d w' o' d' L'/\(∀x,¬gV out x->aA L' x=aA L x) /\
  ((c=0/\∃rs r,L'=dK rs L/\nJ by' es rs/\((∃x,rs=[(out,x)])\/(2<=rs.length/\48<es.length/\∀p∈rs,∃k,k<r/\p.1=dx k))/\r<=rs.length/\rs.length<=51/\cS w' jb pb bg r by'/\bG w' v (rs.map (·.1))/\∀b,v.ownBlock=some b->o' b=none/\w.heap.size<=b)\/jq d d' (need L+8*es.length) c)
theorem xM(many:Bool)(out:Name)(r:Nat)(h1:many=false->r<=1) :
 ((List.range r).map (vT many out)).Nodup/\(r<=51->∀x∈(List.range r).map (vT many out),gV out x):=by
 constructor
 ·cases many with
  |true=>exact List.pairwise_map.2 (List.nodup_range.imp (fun{a b}h e=>h (vS e)))
  |false=>
    have:=h1 rfl;match r,this with
    |0,_=>exact List.Pairwise.nil
    |1,_=>exact List.pairwise_singleton _ _
 ·intro hr x hx;obtain⟨k,hk,rfl⟩:=List.mem_map.1 hx;rw[List.mem_range]at hk;cases many with
  |true=>exact .inr ⟨k,ae,rfl⟩
  |false=>exact .inl rfl
theorem Kl(many:Bool)(out:Name)(r:Nat)(h1:many=false->r=0):vT many out r ∉ (List.range r).map (vT many out):=by
 intro hx;obtain⟨k,hk,e⟩:=List.mem_map.1 hx;rw[List.mem_range]at hk;cases many with
 |true=>have:=vS e;omega
 |false=>have:=h1 rfl;omega
theorem pA.fin{by':Bool}{out:Name}{es:List aH}{X M:Nat}{many:Bool}{rs:List tj}{i:Nat}(h:pA by' out es X many rs i)(hX:X=min es.length M)(h48:48<=M)(hm:many=true↔M<es.length)(hi:i=es.length)(h0:0<es.length) :
 nJ by' es rs/\((∃x,rs=[(out,x)])\/(2<=rs.length/\48<es.length/\∀p∈rs,∃k,k<(if many=true then rs.length else 0)/\p.1=dx k)):=by
 have hl:=h.at';refine⟨⟨h.each,by rw[h.all,List.take_of_length_le ae],by have:=h.len;omega,by rw[h.nm];exact(xM many out _ h.one).1⟩,?_⟩;cases many with
 |true=>
   have hM:=hm.1 rfl;obtain rfl:X=M:=by omega
   refine .inr ⟨?_,ae,fun p hp=>?_⟩
   ·rcases Nat.lt_or_ge rs.length 2 with g | g
    ·have g2:rs.length=0\/rs.length=1:=by omega
     rcases g2 with g2 | g2<;>rw[g2]at hl<;>omega
    ·exact g
   ·have h4:=List.mem_map_of_mem (f:=(·.1)) hp;rw[h.nm]at h4;obtain⟨q,hq,e⟩:=List.mem_map.1 h4;exact⟨q,List.mem_range.1 hq,e.symm⟩
 |false=>
   match rs,h with
   | [],_=>simp at hl;omega
   | [p],h=>exact .inl ⟨p.2,by have e:=(List.cons.inj h.nm).1;rw[show out=p.1 from e.symm]⟩
   |_::_::_,h=>have:=h.one rfl;simp at this
theorem pA.next{by':Bool}{out:Name}{es:List aH}{X M:Nat}{many:Bool}{rs:List tj}{i k:Nat}(h:pA by' out es X many rs i)(hX:X=min es.length M)(h48:48<=M)(hN:es.length<=2400)(hm:many=true↔M<es.length)(hk:k=min X (es.length-i))(h0:0<k\/es.length=0) :
 rs.length<51/\(many=false->rs.length=0)/\(0<es.length->pA by' out es X many (rs++[(vT many out rs.length,aJ by' ((es.drop i).take k))]) (i+k)):=by
 have hl:=h.at';have h1:many=false->rs.length=0:=fun e=>by
  have g1:=h.one e;have g2:=h.pos;have g3:¬M<es.length:=fun g=>by rw[hm.2 g]at e;cases e
  rcases Nat.eq_zero_or_pos rs.length with g | g
  ·exact g
  ·have g5:rs.length=1:=by omega
   have:=g2 g;rw[g5]at hl;omega
 have h51:rs.length<51:=by
  cases many with
  |false=>have:=h1 rfl;omega
  |true=>
    have g1:=hm.1 rfl;obtain rfl:X=M:=by omega
    have:=Nat.mul_le_mul_left rs.length h48;omega
 have e1:es.take (i+k)=es.take i++(es.drop i).take k:=by rw[List.take_add]
 refine⟨h51,h1,fun hp=>⟨?_,?_,fun p hp=>?_,?_,?_,fun e=>?_,fun _=>hp,by rw[List.length_append];exact h51⟩⟩
 ·rw[List.map_append,h.nm,List.length_append,List.length_singleton,List.range_succ,List.map_append];rfl
 ·rw[List.length_append,List.length_singleton,Nat.add_mul,Nat.one_mul];generalize rs.length*X=P at *;omega
 ·rcases List.mem_append.1 hp with hp | hp
  ·exact h.each p hp
  ·rw[List.mem_singleton.1 hp];exact mN _ _
 ·rw[ui,e1,show ee [(vT many out rs.length,aJ by' ((es.drop i).take k))]=aJ by' ((es.drop i).take k) by simp[ee]];exact NR h.all (mN _ _)
 ·have h2:=cF by' ((es.drop i).take k)
  rw[List.length_take]at h2;rw[xL,show lens [(vT many out rs.length,aJ by' ((es.drop i).take k))]=(aJ by' ((es.drop i).take k)).length by simp[lens]];have:=h.len;omega
 ·rw[List.length_append,h1 e];exact Nat.le_refl _
theorem Hb(HW:aP){m:Nat}(HS:qB m)(h:aQ w pb db n o d L)(hn:8<=n)(hj:cS w jb pb bg 0 by')(lB:o jb=none)(Ca:o bg=none)(hne:bg≠jb){es:List aH}{fl:Bool}{p9 out:Name}{x0:aH}(hL:aA L p9=some (aw es fl))(pn:bz w cb sb 0 es.length x0)(hst:aD w sb pb p9 20)(NG:o cb=none)(Vk:o sb=none)(hcj:cb≠jb)(hcb:cb≠bg)(hsj:sb≠jb)(hsc:sb≠cb)(hout:bL out=true)(hno:aA L out=none)(Bp:∀k,aA L (dx k)=none)(_hto:∀k,out≠dx k)(hm:es.length<=m)(hN:es.length<=2400) :
 Calls prog 177 #[ptrTo jb,ptrTo cb,.string out] w (qF n pb db jb bg cb by' w o d L out es):=by
 have T8:n<=4096:=by
  obtain⟨fb,mb,l,hand,mf,hp,rfl,-⟩:=h;exact hp.most
 have ry:=aa (jr h);obtain⟨M,hM⟩:∃M:Nat,M=(n-4)*12:=⟨_,rfl⟩;obtain⟨N,Px⟩:∃N,N=es.length:=⟨_,rfl⟩;obtain⟨X,hX⟩:∃X,X=min N M:=⟨_,rfl⟩;obtain⟨many,hmy⟩:∃b,b=decide (M<N):=⟨_,rfl⟩;have HX:Hid (X=min N M/\48<=M/\N<=2400/\(many=true↔M<N)/\N=es.length):=aa ⟨hX,ae,ae,by rw[hmy,decide_eq_true_eq],Px⟩;have Hd:Hid (∀{made p v nm l c W o' d' rs},mP n pb db jb bg cb sb by' w o d N made p v nm l c W o' d' (dK rs L)->(∀x∈rs.map (·.1),gV out x)->∀x,es[p]? = some x->Calls prog 221 #[ptrTo cb] W (zV n pb db W o' d' (dK rs L) cb sb p N x)):=aa (fun hs hrs x hx=>by
  obtain⟨_,hsx⟩:=hs.src;have hi:=aN hx;rw[List.getElem?_eq_getElem hi]at hx;obtain rfl:=Option.some.inj hx;rw[Px]at hsx ⊢;refine r7 HW hs.mv.aY (hst.Vj hs.mv Vk (fun e=>e.elim hsc hsj)) (hs.mv.free hst.lt Vk) hsx (hs.mv.free pn.lt NG) (fl:=fl) ?_ hi;rw[eF,hL];intro hx;rcases hrs _ hx with e |⟨k,_,e⟩
  ·rw[e,hno]at hL;cases hL
  ·rw[e,Bp]at hL;cases hL)
 have RA:Hid (∀{made p v nm l c W o' d' rs}(out':Name),mP n pb db jb bg cb sb by' w o d N made p v nm l c W o' d' (dK rs L)->bL out'=true->aA (dK rs L) out'=none->c.length<=es.length ->
  Calls prog 222 #[ptrTo jb,.string out',l] W (G5 (fun x=>l.ownBlock=some x) n pb db W o' d' (dK rs L) out' (aJ by' c) (need (dK rs L)+4*c.length))):=aa (fun out' hs fw Zi hc=>
  Ev HW HS hs.mv.aY hs.Em (hs.mv.free hj.lt.1 lB) (hs.mv.free hj.lt.2 Ca) fw Zi hs.ed (fun x hx=>by have h1:=aG hs.ed x hx;have:=hj.lt;exact⟨hs.ef x hx,ae,ae⟩) ae ae)
 have EA:Hid (mP n pb db jb bg cb sb by' w o d N 0 0 (.slice none 0 0) [] (.slice none 0 0) [] w o d L):=aa ⟨au.refl _ h,hj,by rw[Px];exact⟨_,pn⟩,World.ownsRow_nil w _ _ 1,fun x hx=>(by cases hx),World.ownsRow_nil w _ _ 4,fun x hx=>(by cases hx),⟨hj.lt.1,lB⟩,⟨hj.lt.2,Ca⟩,pn.lt,NG⟩;have sO:=aa (show bg≠jb/\cb≠jb/\cb≠bg from⟨hne,hcj,hcb⟩);have Gr:Hid (∀rs i,pA by' out es X many rs i->(∀x∈rs.map (·.1),gV out x)/\(∀x,¬gV out x->aA (dK rs L) x=aA L x)/\need (dK rs L)<=need L+4*i):=aa (fun rs i hr=>by
  have h1:∀x∈rs.map (·.1),gV out x:=by rw[hr.nm];exact(xM many out _ hr.one).2 hr.top
  refine⟨h1,fun x hx=>eF _ _ _ (fun hm=>hx (h1 x hm)),?_⟩;have:=sV rs L;have:=hr.len;omega)
 have Xn:Hid (∀rs i,pA by' out es X many rs i->(many=false->rs.length=0)->rs.length<51->aA (dK rs L) (vT many out rs.length)=none/\bL (vT many out rs.length)=true/\gV out (vT many out rs.length)):=aa (fun rs i hr h1 h2=>by
  refine⟨?_,?_⟩
  ·rw[eF]
   ·cases many
    ·exact hno
    ·exact Bp _
   ·rw[hr.nm];exact Kl many out _ h1
  ·cases many
   ·exact⟨hout,.inl rfl⟩
   ·exact⟨G9 ae,.inr ⟨_,ae,rfl⟩⟩)
 obtain⟨⟨-,-,hs2⟩,-⟩:=pn.cells;rw[<- Px]at hs2;obtain⟨T2,-⟩:=hj.cells;have rH:IntKind.i64.wrap ((n:Int)-4)=(n:Int)-4:=ax ae ae;have hw2:IntKind.i64.wrap (((n:Int)-4)*12)=(M:Int):=by rw[ax]<;>omega
 clear h hj lB Ca hL pn hst NG Vk hsj hsc hout hno Bp _hto hm hne hcj hcb hM hX hmy Px hN;unfold ptrTo at *;go_enter func177,ntmps177;go_wp2_with fail;refine ry.o.mono ?_;rintro e w'⟨rfl,rfl⟩;go_upto_if 27 with fail
 go_cut [8] from 22 to 31 (fun v wx=>v=.int .i64 (X:Int)/\w=wx)
 case first=>
  by_cases hNM:(N:Int)<=(M:Int)
  ·have hd:decide ((N:Int)<=(M:Int))=true:=decide_eq_true hNM;have hXN:(X:Int)=(N:Int):=by have:=HX.o;omega
   go_wp2;go_meet
   exact⟨by rw[hXN],rfl⟩
  ·have hd:decide ((N:Int)<=(M:Int))=false:=decide_eq_false hNM;have hXN:(X:Int)=(M:Int):=by have:=HX.o;omega
   go_wp2;go_meet
   exact⟨by rw[hXN],rfl⟩
 case rest=>
  obtain⟨rfl,rfl⟩:=hcut;clear rH hw2 hs2 ry T2;go_wp2_with fail;go_loopw [9] (fun v wr=>Ha n pb db jb bg cb sb by' w o d L out es X many v wr) (fun _ wr=>pw wr cb N)
  case atStart=>exact⟨[],0,o,d,⟨rfl,ah,fun p hp=>(by cases hp),by simp[ee],Nat.zero_le _,fun _=>Nat.zero_le _,fun g=>absurd g (Nat.lt_irrefl 0),Nat.zero_le _⟩,by rw[<- HX.o.2.2.2.2];cases many<;>exact EA.o⟩
  case round=>
   generalize u9=v at *;generalize wr=W1 at *;obtain⟨rs,i,o1,d1,hr,hs⟩:=hrel;rw[<- HX.o.2.2.2.2]at hs;have HR:=aa hr;have iV:=aa hs;have NS:Hid (pw W1 cb N=N-i/\i<=N):=aa ⟨by obtain⟨_,h⟩:=hs.src;exact pz h,by have:=hr.at';have:=HX.o.2.2.2.2;omega⟩;clear hr hs EA;generalize hjm:(if many=true then rs.length else 0)=jm at *;have HJM:=aa hjm;clear hjm;go_upto_block 2 with fail
   go_cut [10] from 32 to 53 (fun lv W=>∃(k:Nat)(la:Option Addr)(lc:Nat)(o':ar)(d':Dsk),lv=.slice la k lc/\k=min X (N-i)/\Hid (mP n pb db jb bg cb sb by' w o d N jm (i+k) v (rs.map (·.1)) (.slice la k lc) ((es.drop i).take k) W o' d' (dK rs L)))
   case first=>
    go_wp2_with fail;go_loopw [10] (fun lv W=>∃(k:Nat)(la:Option Addr)(lc:Nat)(o':ar)(d':Dsk),lv=.slice la k lc/\k<=X/\i+k<=N/\Hid (mP n pb db jb bg cb sb by' w o d N jm (i+k) v (rs.map (·.1)) (.slice la k lc) ((es.drop i).take k) W o' d' (dK rs L))) (fun _ W=>pw W cb N)
    case atStart=>exact⟨0,none,0,o1,d1,rfl,Nat.zero_le _,NS.o.2,iV⟩
    case round=>
     generalize wr=W2 at *;obtain⟨k,la,lc,o2,d2,rfl,hk,hik,eK⟩:=hrel;have eT:Hid (pw W2 cb N=N-(i+k)):=aa (by obtain⟨_,h⟩:=eK.out.src;exact pz h);clear iV;by_cases hlt:k<X
     ·by_cases mA:i+k<N
      ·have PD:i+k<es.length:=by have:=HX.o;omega
       obtain⟨y,hy⟩:∃y,es[i+k]? = some y:=⟨_,List.getElem?_eq_getElem PD⟩;have vU:Hid ((es.drop i).take k++[y]=(es.drop i).take (k+1)/\((es.drop i).take k).length=k):=aa ⟨(by
        rw[List.take_add_one,List.getElem?_drop,hy];rfl),by rw[List.length_take,List.length_drop];omega⟩
       have aM:=aa (Hd.o eK.out (Gr.o _ _ HR.o).1 y hy);clear PD hy;unfold ptrTo at aM;go_wp2_with fail;refine aM.o.mono ?_;rintro e W3⟨c3,d3,o3,rfl,ep,CY,hs3⟩;have eD:=aa (eK.out.mv.trans ep (fun x _ e=>.inl e));obtain⟨PA,-,hv3,NH⟩:=eK.out.step (T:=(·=cb)) eD.o (fun x h1 h2=>ep.free h1 h2) (fun x h1 h2 h3=>ep.block h1 h2 h3);have Zj:=aa (PA (fun e=>sO.o.2.1 e.symm) (fun e=>sO.o.2.2 e.symm));have Fy:=aa (hv3 (fun x hx e=>by have:=aG eK.out.row x hx;have:=eK.out.old;omega));have RB:=aa (NH (fun x hx e=>by have:=aG eK.out.ed x hx;have:=eK.out.old;omega));have mC:=aa eK.out.old;have HQU:=aa eK.out.mv.on.bC;have BQ:=aa CY;have Jh:=aa hs3;have hz3:w.heap.size<=W3.heap.size:=eD.o.size;clear ep CY hs3 PA hv3 NH aM eK;by_cases hc3:c3=0
       ·subst hc3;have Bh:=aa (Jh.o rfl);obtain⟨-,⟨k0,k1,k2,k3⟩,-⟩:=Bh.o.cells;go_wp2_with (at_builtin;refine cZ rfl _ _ rfl w.heap.size _ _ rfl RB.o.1 y 1 rfl (by rw[vU.o.2];have:=HX.o;omega) hz3 ?_);intro l4 W4 hl4 Km;obtain⟨eV,NT,Pm,uO⟩:=Km.moved eD.o (fun x hx=>⟨RB.o.2 x hx,aG RB.o.1 x hx⟩);rw[vU.o.1]at hl4;obtain⟨a4,c4,rfl⟩:=az hl4;have hlen:((es.drop i).take (k+1)).length=k+1:=by rw[<- vU.o.1,List.length_append,vU.o.2];rfl
        rw[hlen]at hl4 NT ⊢;have h3:mP n pb db jb bg cb sb by' w o d N jm (i+k+1) v (rs.map (·.1)) (.slice la k lc) ((es.drop i).take k) W3 o3 d3 (dK rs L):=⟨eD.o,Zj.o,⟨_,Bh.o⟩,Fy.o.1,Fy.o.2,RB.o.1,RB.o.2,mC.o⟩
        obtain⟨hj5,hs5,T9,-⟩:=h3.step (T:=fun x=>(Value.slice la k lc).ownBlock=some x) eV (fun _ _ e=>e) (fun x h1 _ h3=>Pm x h1 h3);have hb:=fun x hx=>aG RB.o.1 x hx;have hold:=mC.o;have b6:Hid (mP n pb db jb bg cb sb by' w o d N jm (i+(k+1)) v (rs.map (·.1)) (.slice a4 (k+1) c4) ((es.drop i).take (k+1)) W4 o3 d3 (dK rs L)):=aa ⟨eV,hj5 (fun e=>by have:=hb _ e;omega) (fun e=>by have:=hb _ e;omega),hs5 (fun e=>by have:=hb _ e;omega),(T9 (fun x hx e=>jZ Fy.o.1 RB.o.1 af x hx e)).1,Fy.o.2,hl4,fun x hx=>(NT x hx).1,hold⟩;clear eV NT Pm Km hl4 k0 k1 k2 k3 h3 hj5 hs5 T9 hb hold hlen;go_wp2;go_roundw
        case rel=>exact⟨k+1,a4,c4,o3,d3,rfl,ae,ae,b6⟩
        case measure=>obtain⟨_,h⟩:=b6.o.src;rw[eT.o,pz h];omega
       ·have JY:¬(c3:Int)=0:=by omega
        have WQ:(c3 == 0)=false:=by simpa using hc3
        have HQ:Hid (qF n pb db jb bg cb by' w o d L out es (.returned (.tuple #[v,.int .i64 (c3:Int)])) W3):=aa (by
         obtain⟨-,g2,g3⟩:=Gr.o _ _ HR.o;have:=HR.o.top;have:=HR.o.pos;have hx:=HX.o;exact⟨_,c3,d3,o3,_,rfl,eD.o,g2,.inr (((BQ.o.resolve_left hc3).num ae).later HQU.o)⟩)
        clear hc3;go_wp2;go_ret2;exact HQ.o
      ·obtain⟨x2,hx2⟩:=eK.out.src;have hend:=aa (lT hx2 ae);unfold ptrTo at hend;clear hx2;go_wp2_with fail;refine hend.o.mono ?_;rintro e W5⟨rfl,q5,rfl⟩;have b6:Hid (mP n pb db jb bg cb sb by' w o d N jm (i+k) v (rs.map (·.1)) (.slice la k lc) ((es.drop i).take k) (W2.drewN q5) o2 d2 (dK rs L)):=aa (by
        have h:=eK.out;obtain⟨_,hx⟩:=h.src;exact⟨h.mv.drewN q5,h.Em.below (below_drewN aj _),⟨_,hx.below (below_drewN aj _)⟩,h.row,h.rf,h.ed,h.ef,h.old⟩)
       clear hend eK;go_wp2;go_meet
       exact⟨k,la,lc,o2,d2,rfl,ae,b6⟩
     ·have aoL:¬((k:Int)<(X:Int)):=by omega
      go_wp2;go_meet
      exact⟨k,la,lc,o2,d2,rfl,ae,eK⟩
   case rest=>
    obtain⟨k,la,lc,o2,d2,rfl,hk,eK⟩:=hcut;generalize wc=W2 at *;obtain⟨x2,hx2⟩:=eK.out.src;obtain⟨⟨-,-,c2⟩,-⟩:=hx2.cells;have HK:=aa hk;clear hx2 iV Hd;by_cases hK0:k=0/\0<N
    ·obtain⟨rfl,Qb⟩:=hK0;have aoM:(N:Int)>0:=by omega
     have HQ:Hid (qF n pb db jb bg cb by' w o d L out es (.returned (.tuple #[v,.int .i64 0])) W2):=aa (by
      have hx:=HX.o;have Bu:=NS.o;have hl:=HK.o;obtain⟨g1,g2⟩:=HR.o.fin (M:=M) (by rw[<- hx.2.2.2.2];exact hx.1) hx.2.1 (by rw[<- hx.2.2.2.2];exact hx.2.2.2.1) ae ae;rw[HJM.o]at g2;have hs:=eK.out;refine⟨v,0,d2,o2,_,rfl,hs.mv,(Gr.o _ _ HR.o).2.1,.inl ⟨rfl,rs,jm,rfl,g1,g2,by rw[<- HJM.o];split<;>omega,HR.o.top,hs.Em,bG.C5 hs.row (fun e=>?_),fun b hb=>⟨hs.rf b hb,aG hs.row b hb⟩⟩⟩;have e0:rs.length=0:=by simpa using congrArg List.length e
      rcases g2 with⟨x,g⟩|⟨g,_⟩
      ·rw[g]at e0;cases e0
      ·omega)
     clear hk;go_wp2;go_ret2;exact HQ.o
    ·have Po:Hid (rs.length<51/\(many=false->rs.length=0)/\(0<es.length->pA by' out es X many (rs++[(vT many out rs.length,aJ by' ((es.drop i).take k))]) (i+k))):=aa (by
      obtain⟨x1,x2,x3,x4,x5⟩:=HX.o;rw[x5]at x1 x3 x4 hk hK0;exact HR.o.next x1 x2 x3 x4 hk ae)
     have Jk:0<k\/N=0:=by omega
     have HF:=aa (Xn.o _ _ HR.o Po.o.2.1 Po.o.1);obtain⟨NM,hNM⟩:∃y,y=vT many out rs.length:=⟨_,rfl⟩;rw[<- hNM]at HF Po;have RD:=aa hNM;clear hNM hk;go_upto_region 12 with fail
     go_cut [63] from 54 to 62 (fun b W=>b=.bool false/\W2=W)
     case first=>
      by_cases FE:k=0
      ·have hN0:decide (0<N)=false:=decide_eq_false ae;have hkb:((k:Int) == 0)=true:=by simp[FE]
       clear Jk hK0 FE;go_wp2;go_meet
       exact⟨rfl,rfl⟩
      ·have hkb:((k:Int) == 0)=false:=by simp[FE]
       clear Jk hK0 FE;go_wp2;go_meet
       exact⟨rfl,rfl⟩
     case rest=>
     obtain⟨rfl,rfl⟩:=hcut;go_upto_if 71 with fail
     go_cut [13] from 66 to 73 (fun nv W=>nv=.string NM/\Hid (mP n pb db jb bg cb sb by' w o d N (if many=true then rs.length+1 else 0) (i+k) v (rs.map (·.1)) (.slice la k lc) ((es.drop i).take k) W o2 d2 (dK rs L)))
     case first=>
      cases UN:many
      ·have yP:¬(N:Int)>(X:Int):=by have:=HX.o;rw[UN]at this;simp at this;omega
       have kR:Hid (NM=out/\jm=0):=aa (by rw[RD.o,<- HJM.o,UN];exact⟨rfl,rfl⟩);have NU:=aa UN;clear UN;go_wp2;go_meet
       exact⟨by rw[kR.o.1],by rw[kR.o.2]at eK;rw[NU.o];exact eK⟩
      ·have yP:(N:Int)>(X:Int):=by have:=HX.o;rw[UN]at this;simp at this;omega
       have kR:Hid (NM=dx rs.length/\jm=rs.length):=aa (by rw[RD.o,<- HJM.o,UN];exact⟨rfl,rfl⟩);have NU:=aa UN;clear UN;have aM:=aa (C6 eK.out.Em (by rw[kR.o.2];have:=Po.o.1;omega) sO.o.1);unfold ptrTo at aM;go_wp2_with fail;refine aM.o.mono ?_;rintro e W6⟨rfl,hj6,UG⟩;have gy:Hid (mP n pb db jb bg cb sb by' w o d N (rs.length+1) (i+k) v (rs.map (·.1)) (.slice la k lc) ((es.drop i).take k) W6 o2 d2 (dK rs L)):=aa (by
        have h:=eK.out;have hm:=h.mv.turned (h.mv.free h.old.1.1 h.old.1.2) (.inl (.inr rfl)) UG;obtain⟨-,g2,g3,g4⟩:=h.step (T:=(·=jb)) hm (fun _ _ e=>e) (fun x h1 _ h3=>UG.block x h1 h3);have hold:=h.old;have g5:=g3 (fun x hx e=>by have:=aG h.row x hx;omega);have g6:=g4 (fun x hx e=>by have:=aG h.ed x hx;omega);rw[kR.o.2]at hj6;exact⟨hm,hj6,g2 sO.o.2.1,g5.1,g5.2,g6.1,g6.2,h.old⟩)
       rw[kR.o.2,<- kR.o.1];clear hj6 UG aM;go_wp2;go_meet
       exact⟨rfl,by rw[NU.o];exact gy⟩
     case rest=>
      obtain⟨rfl,gy⟩:=hcut;generalize wc=W6 at *;clear eK c2;generalize hcc:(es.drop i).take k=C at *;have HCL:Hid (C.length<=es.length/\C.length<=k):=aa ⟨by rw[<- hcc,List.length_take,List.length_drop];omega,by rw[<- hcc,List.length_take];omega⟩;clear hcc;have YL:(rs.map (·.1)).length<=100000:=by rw[List.length_map];have:=Po.o.1;omega
      have WH:w.heap.size<=W6.heap.size:=gy.o.mv.size;go_wp2_with (at_builtin;refine uk rfl _ _ rfl w.heap.size _ _ rfl gy.o.row NM 1 rfl YL WH ?_);intro v7 W7 hv7 ha7;have jP:Hid (mP n pb db jb bg cb sb by' w o d N (if many=true then rs.length+1 else 0) (i+k) v7 (rs.map (·.1)++[NM]) (.slice la k lc) C W7 o2 d2 (dK rs L)):=aa (by
       have h:=gy.o;obtain⟨rJ,aiB,hh7,hz7⟩:=ha7.moved h.mv (fun x hx=>⟨h.rf x hx,aG h.row x hx⟩);obtain⟨g1,g2,-,g4⟩:=h.step (T:=fun x=>v.ownBlock=some x) rJ (fun _ _ e=>e) (fun x h1 _ h3=>hh7 x h1 h3);have hb:=fun x hx=>aG h.row x hx;have hold:=h.old;have g5:=g4 (fun x hx e=>jZ h.ed h.row af x hx e);exact⟨rJ,g1 (fun e=>by have:=hb _ e;omega) (fun e=>by have:=hb _ e;omega),g2 (fun e=>by have:=hb _ e;omega),by simpa using hv7,fun x hx=>(aiB x hx).1,g5.1,g5.2,hold⟩)
      have aM:=aa (RA.o NM jP.o HF.o.2.1 HF.o.1 HCL.o.1);clear hv7 ha7 YL WH gy RA;unfold ptrTo at aM;go_wp2_with fail;refine aM.o.mono ?_;rintro e W8⟨c8,d8,o8,L8,rfl,Mq,hc8,adi⟩;have rT:=aa (jP.o.mv.trans Mq (fun x hx e=>by have:=aG jP.o.ed x e;omega));obtain⟨g1,g2,g3,-⟩:=jP.o.step (T:=fun x=>(Value.slice la k lc).ownBlock=some x) rT.o (fun x h1 h2=>Mq.free h1 h2) (fun x h1 h2 h3=>Mq.block h1 h2 h3);have hb:=fun x hx=>aG jP.o.ed x hx;have hold:=jP.o.old;have HJ8:=aa (g1 (fun e=>by have:=hb _ e;omega) (fun e=>by have:=hb _ e;omega));have HC8:=aa (g2 (fun e=>by have:=hb _ e;omega));have Xo:=aa (g3 (fun x hx e=>jZ jP.o.row jP.o.ed af x hx e));have HO8:=aa hold;have HE8:=aa hc8;have HT8:=aa adi;clear Mq hc8 adi aM g1 g2 g3 hb hold;by_cases hc:c8=0
      ·subst hc;obtain⟨x8,hx8⟩:=HC8.o;obtain⟨⟨-,-,c2⟩,-⟩:=hx8.cells;clear hx8;have hL8:L8=dK (rs++[(NM,aJ by' C)]) L:=by
        rcases HE8.o with⟨_,e⟩| e
        ·rw[Ag];exact e
        ·exact absurd rfl e.ne
       rw[hL8]at rT;clear hL8;have lA:(if many=true then rs.length+1 else 0)=if many=true then (rs++[(NM,aJ by' C)]).length else 0:=by rw[List.length_append];rfl
       rw[lA]at HJ8;clear lA;have Bu:rs.map (·.1)++[NM]=(rs++[(NM,aJ by' C)]).map (·.1):=by rw[List.map_append];rfl
       rw[Bu]at Xo;clear Bu;by_cases hN0:N=0
       ·have aoN:(N:Int)=0:=by omega
        have HQ:Hid (qF n pb db jb bg cb by' w o d L out es (.returned (.tuple #[v7,.int .i64 0])) W8):=aa (by
         have hx:=HX.o;have Yf:many=false:=by cases h:many;rfl;rw[h]at hx;simp at hx;omega
         have jD:rs=[]:=List.eq_nil_of_length_eq_zero (Po.o.2.1 Yf);have hC:C=[]:=List.eq_nil_of_length_eq_zero (by have:=HCL.o;omega);have hes:es=[]:=List.eq_nil_of_length_eq_zero ae;have uT:NM=out:=by rw[RD.o,Yf];rfl
         subst jD hC hes uT Yf;have hb0:aJ by' []=[]:=List.eq_nil_of_length_eq_zero (by simpa using cF by' [])
         refine⟨v7,0,d8,o8,_,rfl,rT.o,fun x hx=>eF _ _ _ (fun mn=>hx ?_),.inl ⟨rfl,_,0,rfl,⟨by simp[hb0],by simp[ee,hb0],by simp[lens,hb0],ah⟩,.inl ⟨_,rfl⟩,Nat.zero_le _,ah,HJ8.o,bG.C5 Xo.o.1 ah,fun b hb=>⟨Xo.o.2 b hb,aG Xo.o.1 b hb⟩⟩⟩;rw[List.mem_singleton.1 mn];exact HF.o.2.2)
        clear hN0;go_wp2;go_ret2;exact HQ.o
       ·have aoO:¬(N:Int)=0:=by omega
        have Pc:0<k:=by omega
        have HH:Hid (Ha n pb db jb bg cb sb by' w o d L out es X many v7 W8/\pw W8 cb N=N-(i+k)):=aa ⟨⟨_,i+k,o8,d8,Po.o.2.2 (by have:=HX.o;omega),by rw[<- HX.o.2.2.2.2];exact⟨rT.o,HJ8.o,HC8.o,Xo.o.1,Xo.o.2,World.ownsRow_nil _ _ _ 4,fun x hx=>(by cases hx),HO8.o⟩⟩,by obtain⟨_,h⟩:=HC8.o;exact pz h⟩;have HKL:=aa (show i+k<=N/\0<k by have:=HK.o;have:=NS.o;omega);go_wp2;go_roundw
        case rel=>exact HH.o.1
        case measure=>rw[NS.o.1,HH.o.2];have:=HKL.o;omega
      ·have hc':¬(c8:Int)=0:=by omega
       have HQ:Hid (qF n pb db jb bg cb by' w o d L out es (.returned (.tuple #[v7,.int .i64 (c8:Int)])) W8):=aa (by
        obtain⟨-,g2,g3⟩:=Gr.o _ _ HR.o;have h1:=HCL.o;have h2:=HR.o.pos;have h3:=HR.o.len;have h4:=HK.o;have h5:=NS.o;have h6:=sV rs L;have h7:=HX.o;refine⟨_,c8,d8,o8,_,rfl,rT.o,fun x hx=>by rw[HT8.o x (fun e=>hx (e▸HF.o.2.2)),g2 x hx],.inr ?_⟩;rcases HE8.o with⟨e,_⟩| e
        ·exact absurd e hc
        ·exact(e.mono ae).later jP.o.mv.on.bC)
       clear hc;go_wp2;go_ret2;exact HQ.o
end
end
section
open Go.RowKit Go.Maps Go.MapKept
section
variable {w w':World} {pb db n cb kb sb jb bg made:Nat} {by':Bool} {name:Name} {o o':ar} {d d':Dsk} {L L':aC}
def oA(S:Nat->Prop)(n pb db:Nat)(w:World)(o:ar)(d:Dsk)(L:aC)(out:Name)(Zk:List aH)(N:Nat)(e:Ending)(w':World):Prop:=
 ∃c d' o' L',e=.returned (.int .i64 ((c:Nat):Int))/\au S n pb db w o d w' o' d' L'/\(∀x,¬gV out x->aA L' x=aA L x)/\((c=0/\∀x,aA L' x=aA (aS L out (aw Zk true)) x)\/jq d d' (need L+8*N) c)
def dX(m:Nat):Prop:=∀{w:World}{pb db n cb sb jb bg:Nat}{by':Bool}{o:ar}{d:Dsk}{L:aC},aQ w pb db n o d L->8<=n->cS w jb pb bg 0 by'->o jb=none->o bg=none->bg≠jb ->
 ∀{es:List aH}{fl:Bool}{p9 out:Name}{x0:aH},aA L p9=some (aw es fl)->bz w cb sb 0 es.length x0->aD w sb pb p9 20->o cb=none->o sb=none->cb≠jb->cb≠bg->sb≠jb->sb≠cb ->
 bL out=true->aA L out=none->(∀k,aA L (dx k)=none)->(∀k,out≠dx k)->es.length<=m ->
 Calls prog 117 #[ptrTo jb,ptrTo cb,.string out] w (oA (fun x=>x=cb\/x=jb) n pb db w o d L out (aJ by' es) es.length)
theorem pB(HW:aP)(h:aQ w pb db n o d L){ps:List Pg}{fl:Bool}(hL:aA L name=some (.inl (ps,fl))) :
 Calls prog 79 #[ptrTo pb,.string name] w (jk (fun _=>False) n pb db w o d L (aS L name (.inl (ps,true)))):=
 (Nz HW h hL).mono fun _ _ ⟨c,d',o',he,hp,ht,hg,x7,hc⟩=>⟨c,d',o',he,ji hp ht hg x7,hc⟩
end
end
section
open Go.RowKit Go.Maps Go.MapKept Go.Sort
def NV:Option Nat->Value
 |none=>.pointer none
 |some b=>ptrTo b
def gW(w:World)(g:Nat)(mQ:List Nat):Prop:=Holds NV w g 0 (mQ.map some).toArray
theorem um:(prog.info? 206).map (fun i=>(i.zero,i.size,i.bytes))=some (some (.pointer none),1,8):=by kernel_rfl
section
variable {w w':World} {g cap:Nat} {mQ:List Nat}
theorem uo{α:Type}[Inhabited α](enc:α->Value)(w:World)(blk off:Nat)(d:Array α){x:Nat}(hx:x≠blk):(putRow enc w blk off d).heap[x]? = w.heap[x]? := by
 grind [putRow,mapBlock]
theorem He{α:Type}[Inhabited α](enc:α->Value)(w:World)(q blk off:Nat)(d:Array α):aF (·=blk) w (putRow enc (Sort.ahead w q) blk off d):=
 ⟨rfl,rfl,rfl,ah,fun x _ hn=>uo enc (Sort.ahead w q) blk off d hn⟩
theorem gW.cell(h:gW w g mQ){k:Nat}(hk:k<mQ.length):w.cell? ⟨g,k,none⟩=some (ptrTo mQ[k]):=by
 have:=(h k (by grind)).1;grind [NV]
theorem gW.kept(h:gW w g mQ)(hb:w'.heap[g]? = w.heap[g]?):gW w' g mQ:=by
 intro j hj;obtain⟨h1,h2⟩:=h j hj;grind [World.cell?,World.frozen?]
theorem gW.C5{base:Nat}(hr:w.ownsRow base 206 1 (.slice (some ⟨g,0,none⟩) mQ.length cap) mQ.length (mQ.map ptrTo)):gW w g mQ/\mQ.length<=cap/\cap<=maxLen/\base<=g:=by
 obtain⟨hl,⟨h1,h2⟩|⟨g',cap',cur,he,hg,hh,hc,hm,hs,ht⟩⟩:=hr
 ·cases h1
 ·cases he;refine⟨fun j hj=>?_,hc,hm,hg⟩;have hj':j<mQ.length:=by grind
  rw[Nat.zero_add];refine⟨?_,aO hh _⟩;rw[aq hh,getElem!_pos _ j hj];have h3:(cur.toList.take (mQ.length*1))[j]? = (mQ.map ptrTo)[j]? := by rw[ht]
  grind [NV]
theorem Kn(h:gW w g mQ)(hc:mQ.length<=cap)(hm:cap<=maxLen){k:Nat}(hk:k<mQ.length) :
 Calls prog 226 #[.slice (some ⟨g,0,none⟩) mQ.length cap,.int .i64 (k:Int),.int .i64 ((k+1:Nat):Int)] w fun e w'=>
  e=.returned (.slice (some ⟨g,0,none⟩) (mQ.length-1) cap)/\gW w' g (mQ.eraseIdx k)/\aF (·=g) w w':=by
 obtain⟨i0,uQ,hz0,hz1,hz2⟩:=info_parts um;have hsz:((mQ.map some).toArray).size=mQ.length:=by simp
 have:=AnyE.slices_Delete (P:=prog) (ρ:=Tryz.zZ) { Tryz.Y3 with } NV (by intro x;cases x<;>rfl) none (fun w=>Tryz.zeroValue206 w) i0 uQ hz1 g 0 cap k (k+1) (mQ.map some).toArray w h ae (by assumption) ae ae;rw[hsz]at this;refine Calls.mono this ?_;rintro e w'⟨he,q,rfl⟩;refine⟨by grind,?_,He _ _ _ _ _ _⟩;have hd:((mQ.map some).toArray.toList.take k++(mQ.map some).toArray.toList.drop (k+1)++List.replicate (k+1-k) none)=(mQ.eraseIdx k).map some++[none]:=by
  rw[show k+1-k=1 by omega,List.eraseIdx_eq_take_drop_succ];simp
 rw[hd];have hh:=holds_putRow NV (Sort.ahead w q) g 0 (mQ.map some).toArray ((mQ.eraseIdx k).map some++[none]).toArray (holds_ahead NV w q g 0 _ h) (by grind);intro j hj;have hj':j<(mQ.eraseIdx k).length:=by grind
 obtain⟨h1,h2⟩:=hh j (by grind);grind
theorem uq{ops:Array Oper}{rest:List Oper}{op:Oper}{a:Act}{Q:Exit->Act->World->Prop}(hgd:op.guard=none)(s x:Operand)(ho:op.op=.call { callee:=.builtin .append,args:=#[s,x],argTypes:=#[301,301] })(base:Nat)(v:Value)(l:List Nat)(hs:a.eval s=v)(hown:w.ownsRow base 206 1 v l.length (l.map ptrTo))(y:Nat)(c:Nat)(hx:a.eval x=.slice (some ⟨w.heap.size,0,none⟩) 1 c)(hl:l.length<=100000)(hbase:base<=w.heap.size)(k:∀v' w',w'.ownsRow base 206 1 v' (l++[y]).length ((l++[y]).map ptrTo)->lj v (w.alloc (.cells #[ptrTo y] 206)) w' v'->wpList prog ops Q rest (a.put op.dst v') w') :
 wpList prog ops Q (op::rest) a (w.alloc (.cells #[ptrTo y] 206)):=by
 refine dN hgd s x 301 ho base 206 _ 1 8 Tryz.underlying301 um rfl af v l.length (l.map ptrTo) hs (World.ownsRow.alloc hown _) ⟨w.heap.size,0,none⟩ 1 c [ptrTo y] hx rfl (fun j u hj=>?_) (by simp[ptrTo,Value.oneCell']) (by grind [maxLen]) ae (by simp;omega) (fun v' w' h1 h2=>k v' w' ?_ h2)
 ·rw[bF,Nat.zero_add];simp_all
 grind
end
end
section
open Go.RowKit Go.Maps Go.MapKept
structure Src where
 cb:Nat
 sb:Nat
 name:Name
 es:List aH
 pos:Nat
def Src.cur(s:Src):aH:=(s.es[s.pos-1]?).getD z7
def Src.left(s:Src):List aH:=s.es.drop (s.pos-1)
def Src.step(s:Src):Src:={ s with pos:=s.pos+1 }
structure Src.Ok(s:Src):Prop where
 lo:1<=s.pos
 hi:s.pos<=s.es.length
theorem Src.left_eq{s:Src}(h:s.Ok):s.left=s.cur::s.es.drop s.pos:=by
 grind [Ok.lo,Ok.hi,Src.left,Src.cur,List.drop_eq_getElem_cons]
theorem Src.NW{s:Src}:s.step.left=s.es.drop s.pos:=by
 rfl
def cB(l:List Src):List aH:=(l.map Src.left).flatten
theorem Hf:cB []=[]:=rfl
theorem lW(a b:List Src):cB (a++b)=cB a++cB b:=by grind [cB]
structure Taken(b:Bool)(all taken:List aH)(l:List Src):Prop where
 perm:(taken++cB l).Perm all
 gA:taken.Pairwise (dC b)
 ahead:∀x∈taken,∀y∈cB l,dC b x y
 each:∀s∈l,s.left.Pairwise (dC b)
 ok:∀s∈l,s.Ok
theorem Hg{l:List Src}{x:aH}:x∈cB l ↔ ∃s∈l,x∈s.left:=by
 grind [cB]
theorem Taken.least{b:Bool}{all taken:List aH}{l:List Src}(h:Taken b all taken l){k:Nat}(hk:k<l.length)(ur:∀s∈l,dC b l[k].cur s.cur):∀y∈cB l,dC b l[k].cur y:=by
 intro y hy;obtain⟨s,hs,Pr⟩:=Hg.1 hy;have h1:=h.each s hs;rw[Src.left_eq (h.ok s hs)]at h1 Pr;rcases List.mem_cons.1 Pr with rfl | Pr
 ·grind
 ·exact(ur s hs).trans ((List.pairwise_cons.1 h1).1 y Pr)
theorem NY{α:Type}(l:List α)(k:Nat)(hk:k<l.length)(x:α):l.set k x=l.take k++x::l.drop (k+1):=by
 grind [List.set_eq_take_append_cons_drop]
theorem Taken.go{b:Bool}{all taken:List aH}{l l':List Src}(h:Taken b all taken l){k:Nat}(hk:k<l.length)(ur:∀s∈l,dC b l[k].cur s.cur)(hl:cB l'=cB (l.take k)++(l[k].es.drop l[k].pos++cB (l.drop (k+1))))(CG:∀s∈l',s.left.Pairwise (dC b))(fw:∀s∈l',s.Ok):Taken b all (taken++[l[k].cur]) l':=by
 have hkm:l[k]∈l:=List.getElem_mem hk;have hle:=h.least hk ur;have hsp:cB l=cB (l.take k)++(l[k].cur::(l[k].es.drop l[k].pos)++cB (l.drop (k+1))):=by
  grind [tG,cB,Src.left_eq,ok]
 have hp:(l[k].cur::cB l').Perm (cB l):=by
  rw[hl,hsp];exact List.perm_middle.symm
 refine⟨?_,?_,?_,CG,fw⟩
 ·rw[List.append_assoc];refine List.Perm.trans (List.Perm.append_left taken ?_) h.perm;exact hp
 ·grind [gA,ahead]
 grind [ahead]
theorem Taken.step{b:Bool}{all taken:List aH}{l:List Src}(h:Taken b all taken l){k:Nat}(hk:k<l.length)(ur:∀s∈l,dC b l[k].cur s.cur)(Ah:l[k].pos<l[k].es.length) :
 Taken b all (taken++[l[k].cur]) (l.set k l[k].step):=by
 have hkm:l[k]∈l:=List.getElem_mem hk;have FL:∀s∈l.set k l[k].step,s∈l\/s=l[k].step:=fun s hs=>List.mem_or_eq_of_mem_set hs;refine h.go hk ur ?_ ?_ ?_
 ·rw[NY l k hk,lW];congr 1
 ·intro s hs;rcases FL s hs with hs | rfl
  ·grind [each]
  ·rw[Src.NW];have:=h.each _ hkm;grind [Src.left_eq,ok]
 ·intro s hs;rcases FL s hs with hs | rfl
  ·exact h.ok s hs
  ·exact⟨Nat.le_add_left _ _,Ah⟩
theorem Taken.gone{b:Bool}{all taken:List aH}{l:List Src}(h:Taken b all taken l){k:Nat}(hk:k<l.length)(ur:∀s∈l,dC b l[k].cur s.cur)(hend:l[k].es.length<=l[k].pos) :
 Taken b all (taken++[l[k].cur]) (l.eraseIdx k):=by
 grind [go,each,ok,lW,List.drop_eq_nil_of_le]
theorem Taken.done{b:Bool}{all taken:List aH}(h:Taken b all taken []):fG taken=aJ b all:=by
 have hp:=h.perm;rw[Hf,List.append_nil]at hp;exact((vF h.gA).congr (fun x=>hp.mem_iff)).eq
theorem Ko{b:Bool}{l:List aH}(h:aJ b l=l):l.Pairwise (dC b):=by
 have:=(bT b l).gA;rw[h]at this;exact this.imp (fun h=>.inl h)
end
section
open Go.RowKit Go.Maps Go.MapKept
section
variable {S:Nat->Prop} {w w':World} {pb db n base cb sb kb yz g:Nat} {name out:Name} {o o':ar} {d d':Dsk} {L L':aC} {s:Src} {l:List Src}
theorem fX{i N sz sb':Nat}{x:aH}(h:bz w cb sb' i N x)(hs:aD w sb pb name sz):sb≠cb:=by
 rintro rfl;obtain⟨t,h1⟩:=h;obtain⟨t',h2⟩:=hs;grind
theorem yA{i N sb':Nat}{x:aH}{res:List aH}(h:bz w cb sb' i N x)(hs:eZ w kb yz res):kb≠cb:=by
 rintro rfl;obtain⟨y,a,t',h2⟩:∃y a,dH w kb yz y a:=by
  rcases hs with⟨_,y,h⟩|⟨y,_,h⟩
  ·grind
  grind
 obtain⟨t,h1⟩:=h;grind
theorem yB{sz:Nat}{res:List aH}(h:aD w sb pb name sz)(hs:eZ w kb yz res):kb≠sb:=by
 rintro rfl;obtain⟨y,a,t',h2⟩:∃y a,dH w kb yz y a:=by
  rcases hs with⟨_,y,h⟩|⟨y,_,h⟩
  ·grind
  grind
 obtain⟨t,h1⟩:=h;grind
structure uu(w:World)(pb:Nat)(o:ar)(L:aC)(base:Nat)(out:Name)(s:Src):Prop where
 src:bz w s.cb s.sb s.pos s.es.length s.cur
 str:aD w s.sb pb s.name 20
 oc:o s.cb=none
 os:o s.sb=none
 bc:base<=s.cb
 bs:base<=s.sb
 file:∃fl,aA L s.name=some (aw s.es fl)
 NZ:s.name≠out
theorem uu.moved(h:uu w pb o L base out s)(hm:au S n pb db w o d w' o' d' L')(h1:¬S s.cb)(h2:¬S s.sb)(hL:∀x,x≠out->aA L' x=aA L x):uu w' pb o' L' base out s where
 src:=h.src.kept (hm.block h.src.lt h.oc h1)
 str:=h.str.kept (hm.block h.str.lt h.os h2)
 oc:=hm.free h.src.lt h.oc
 os:=hm.free h.str.lt h.os
 bc:=h.bc
 bs:=h.bs
 file:=by grind [NZ,file]
 NZ:=h.NZ
theorem uu.kept(h:uu w pb o L base out s)(h1:w'.heap[s.cb]? = w.heap[s.cb]?)(h2:w'.heap[s.sb]? = w.heap[s.sb]?):uu w' pb o L base out s where
 src:=h.src.kept h1
 str:=h.str.kept h2
 oc:=h.oc
 os:=h.os
 bc:=h.bc
 bs:=h.bs
 file:=h.file
 NZ:=h.NZ
structure dc(w:World)(pb:Nat)(o:ar)(L:aC)(base:Nat)(out:Name)(v:Value)(l:List Src):Prop where
 each:∀s∈l,uu w pb o L base out s
 apart:(l.map Src.cb).Nodup
 row:∀x,v.ownBlock=some x->o x=none/\base<=x/\∀s∈l,x≠s.cb/\x≠s.sb
theorem dc.nil:dc w pb o L base out (.slice none 0 0) []:=⟨(fun _ h=>nomatch h),List.Pairwise.nil,fun x hx=>by cases hx⟩
theorem dc.moved{v:Value}(h:dc w pb o L base out v l)(hm:au S n pb db w o d w' o' d' L')(hv:∀x,v.ownBlock=some x->x<w.heap.size)(h1:∀s∈l,¬S s.cb/\¬S s.sb)(hL:∀x,x≠out->aA L' x=aA L x):dc w' pb o' L' base out v l where
 each:=fun s hs=>(h.each s hs).moved hm (h1 s hs).1 (h1 s hs).2 hL
 apart:=h.apart
 row:=fun x hx=>⟨hm.free (hv x hx) (h.row x hx).1,(h.row x hx).2⟩
theorem dc.below{v:Value}(h:dc w pb o L base out v l)(hb:Below w.heap.size w w'):dc w' pb o L base out v l where
 each:=fun s hs=>(h.each s hs).kept (hb.block _ (h.each s hs).src.lt) (hb.block _ (h.each s hs).str.lt)
 apart:=h.apart
 row:=h.row
theorem dc.idx{v:Value}(h:dc w pb o L base out v l){i j:Nat}(hi:i<l.length)(hj:j<l.length)(hne:i≠j):l[i].cb≠l[j].cb:=by
 intro e;have h1:=h.apart;grind [List.pairwise_iff_getElem]
theorem r9{v:Value}(h:dc w pb o L base out v l){k:Nat}(hk:k<l.length){t:Src}:∀s∈l.set k t,s=t\/(s∈l/\s.cb≠l[k].cb):=by
 grind [List.getElem_of_mem,dc.idx]
theorem dc.step{v:Value}(h:dc w pb o L base out v l){k:Nat}(hk:k<l.length)(hm:au (·=l[k].cb) n pb db w o d w' o' d' L)(hv:∀x,v.ownBlock=some x->x<w.heap.size)(hs:bz w' l[k].cb l[k].sb (l[k].pos+1) l[k].es.length l[k].step.cur):dc w' pb o' L base out v (l.set k l[k].step):=by
 have hkm:l[k]∈l:=List.getElem_mem hk;have Mr:=h.each _ hkm;have hcb:(l.set k l[k].step).map Src.cb=l.map Src.cb:=by
  apply List.ext_getElem
  ·simp
  ·intro i h1 h2;rw[List.getElem_map,List.getElem_map,List.getElem_set];split
   ·rename_i e;subst e;rfl
   ·rfl
 refine⟨fun s hs'=>?_,by grind [apart],fun x hx=>⟨hm.free (hv x hx) (h.row x hx).1,(h.row x hx).2.1,fun s hs'=>?_⟩⟩
 ·rcases r9 h hk s hs' with rfl |⟨h1,h2⟩
  ·exact⟨hs,Mr.str.kept (hm.block Mr.str.lt Mr.os (fX Mr.src Mr.str)),hm.free Mr.src.lt Mr.oc,hm.free Mr.str.lt Mr.os,Mr.bc,Mr.bs,Mr.file,Mr.NZ⟩
  ·exact(h.each s h1).moved hm h2 (fX Mr.src (h.each s h1).str) (fun _ _=>rfl)
 ·rcases r9 h hk s hs' with rfl |⟨h1,h2⟩
  ·exact(h.row x hx).2.2 l[k] hkm
  ·exact(h.row x hx).2.2 _ h1
theorem dc.gone{v v':Value}(h:dc w pb o L base out v l)(k:Nat)(ht:aF (fun x=>v.ownBlock=some x) w w')(hv:v'.ownBlock=v.ownBlock):dc w' pb o L base out v' (l.eraseIdx k):=by
 refine⟨fun s hs=>?_,?_,fun x hx=>?_⟩
 ·have hs:=List.mem_of_mem_eraseIdx hs;have hI:=h.each s hs;exact hI.kept (ht.block _ hI.src.lt (fun e=>((h.row _ e).2.2 s hs).1 rfl)) (ht.block _ hI.str.lt (fun e=>((h.row _ e).2.2 s hs).2 rfl))
 ·grind [List.eraseIdx_sublist,apart]
 ·rw[hv]at hx;exact⟨(h.row x hx).1,(h.row x hx).2.1,fun s hs=>(h.row x hx).2.2 s (List.mem_of_mem_eraseIdx hs)⟩
theorem dc.append{v v':Value}{ob:Obj}(h:dc w pb o L base out v l)(ha:lj v (w.alloc ob) w' v')(hI:uu w pb o L base out s)(hcb:∀t∈l,t.cb≠s.cb)(hv:∀x,v.ownBlock=some x->x<w.heap.size/\x≠s.cb/\x≠s.sb)(dO:∀x,w.heap.size<=x->o x=none)(hbase:base<=w.heap.size):dc w' pb o L base out v' (l++[s]):=by
 obtain⟨hg,hb⟩:=ha;have hs:(w.alloc ob).heap.size=w.heap.size+1:=by simp
 have hk:∀x,x<w.heap.size->v.ownBlock≠some x->w'.heap[x]? = w.heap[x]? := fun x hx hne=>
  (hg.block x ae (fun e=>hne e.symm)).trans ((MapKept.heap_alloc w ob).2 x hx)
 have hall:∀t∈l++[s],uu w pb o L base out t/\∀x,v.ownBlock=some x->x≠t.cb/\x≠t.sb:=fun t ht=>by
  rcases List.mem_append.1 ht with ht | ht
  ·exact⟨h.each t ht,fun x hx=>(h.row x hx).2.2 t ht⟩
  grind
 refine⟨fun t ht=>?_,?_,fun x hx=>?_⟩
 ·obtain⟨h1,h2⟩:=hall t ht;exact h1.kept (hk _ h1.src.lt (fun e=>(h2 _ e).1 rfl)) (hk _ h1.str.lt (fun e=>(h2 _ e).2 rfl))
 ·grind [apart]
 ·rcases hb with e | e
  ·rw[e]at hx;refine⟨(h.row x hx).1,(h.row x hx).2.1,fun t ht=>(hall t ht).2 x hx⟩
  ·rw[e]at hx;cases hx;refine⟨dO _ ae,ae,fun t ht=>?_⟩;have h1:=(hall t ht).1.src.lt;have h2:=(hall t ht).1.str.lt;omega
def uv(w:World)(v:Value)(mQ:List Nat):Prop:=(v=.slice none 0 0/\mQ=[])\/∃g cap,v=.slice (some ⟨g,0,none⟩) mQ.length cap/\mQ.length<=cap/\cap<=maxLen/\gW w g mQ/\g<w.heap.size
theorem uv.kept{v:Value}{mQ:List Nat}(h:uv w v mQ)(hb:∀x,v.ownBlock=some x->w'.heap[x]? = w.heap[x]?)(hs:w.heap.size<=w'.heap.size):uv w' v mQ:=by
 rcases h with h |⟨g,cap,rfl,h1,h2,h3,h4⟩
 ·exact .inl h
 ·exact .inr ⟨g,cap,rfl,h1,h2,h3.kept (hb g rfl),Nat.lt_of_lt_of_le h4 hs⟩
theorem uv.lt{v:Value}{mQ:List Nat}(h:uv w v mQ):∀x,v.ownBlock=some x->x<w.heap.size:=by
 rcases h with⟨rfl,h⟩|⟨g,cap,rfl,h1,h2,h3,h4⟩
 ·intro x hx;cases hx
 ·intro x hx;cases hx;exact h4
theorem uv.C5{v:Value}{mQ:List Nat}(hr:w.ownsRow base 206 1 v mQ.length (mQ.map ptrTo)):uv w v mQ:=by
 have LL:=hr;obtain⟨hl,⟨h1,h2⟩|⟨g,cap,cur,rfl,hg,hh,hc,hm,hs,ht⟩⟩:=LL
 ·exact .inl ⟨h1,List.eq_nil_of_length_eq_zero h2⟩
 ·obtain⟨h1,h2,h3,h4⟩:=gW.C5 hr;exact .inr ⟨g,cap,rfl,h2,h3,h1,(Array.getElem?_eq_some_iff.1 hh).1⟩
theorem uv.ofNil{base:Nat}:w.ownsRow base 206 1 (.slice none 0 0) 0 ([]:List Value):=⟨rfl,.inl ⟨rfl,rfl⟩⟩
end
end
section
open Go.RowKit Go.Maps Go.MapKept
section
variable {S:Nat->Prop} {w w' w1 w2 w3 w4:World} {pb db n base cb sb kb yz jb bg made g:Nat} {by':Bool} {name out nm:Name} {o o' o1 o2 o3:ar} {d d' d1 d2 d3:Dsk} {L L':aC} {l:List Src} {v v':Value}
theorem dc.opened(hl:dc w1 pb o1 L base out v l)(hv:∀x,v.ownBlock=some x->x<w1.heap.size)(cR:au (fun _=>False) n pb db w1 o1 d1 w2 o2 d2 L)(ep:au (·=cb) n pb db w2 o2 d2 w3 o3 d3 L)(hbase:base<=w1.heap.size)(hcb:w1.heap.size<=cb)(BW:w1.heap.size<=sb){N:Nat}{x0:aH}(hs2:bz w2 cb sb 0 N x0)(hst:aD w2 sb pb nm 20)(NG:o2 cb=none)(Vk:o2 sb=none){es:List aH}{x:aH}{fl:Bool}(hs3:bz w3 cb sb 1 es.length x)(hx:es[0]? = some x)(hf:aA L nm=some (aw es fl))(hno:nm≠out){ob:Obj}(ha:lj v (w3.alloc ob) w4 v') :
 dc w4 pb o3 L base out v' (l++[⟨cb,sb,nm,es,1⟩]):=by
 have hne:=fX hs2 hst;have hz2:w1.heap.size<=w2.heap.size:=cR.size;have hz3:w2.heap.size<=w3.heap.size:=ep.size;have h2:=hl.moved cR hv (fun _ _=>⟨fun h=>h,fun h=>h⟩) (fun _ _=>rfl);have h3:=h2.moved ep (fun y hy=>Nat.lt_of_lt_of_le (hv y hy) hz2) (fun s hs=>⟨fun e=>by have:=(hl.each s hs).src.lt;omega,fun e=>by have:=(hl.each s hs).str.lt;omega⟩) (fun _ _=>rfl);refine h3.append ha ⟨?_,hst.moved ep Vk hne,ep.free hs2.lt NG,ep.free hst.lt Vk,Nat.le_trans hbase hcb,Nat.le_trans hbase BW,⟨fl,hf⟩,hno⟩ (fun t ht e=>?_) (fun y hy=>⟨Nat.lt_of_lt_of_le (hv y hy) ae,?_,?_⟩) (fun y hy=>ep.aY.fresh hy) ae
 ·grind [Src.cur]
 ·have:=(hl.each t ht).src.lt;grind
 ·grind
 grind
theorem Hi(s:Src):cB [s]=s.left:=by grind [cB]
theorem Kp{rs:List tj}{k:Nat}{p:tj}(h:rs[k]? = some p):ee (rs.take (k+1))=ee (rs.take k)++p.2:=by
 grind [List.take_succ_eq_append_getElem,ee]
def RF(n pb db:Nat)(by':Bool)(w:World)(o:ar)(d:Dsk)(L:aC)(out:Name)(rs:List tj)(k:Nat)(v:Value)(wr:World):Prop:=
 ∃(d':Dsk)(o':ar)(l:List Src),au (fun _=>False) n pb db w o d wr o' d' L/\dc wr pb o' L w.heap.size out v l/\wr.ownsRow w.heap.size 206 1 v (l.map Src.cb).length ((l.map Src.cb).map ptrTo)/\cB l=ee (rs.take k) /\
  (∀s∈l,s.left.Pairwise (dC by'))/\(∀s∈l,s.Ok)/\(l.map Src.cb).length<=k
def N0(n pb db kb yz:Nat)(by':Bool)(w:World)(o:ar)(d:Dsk)(L:aC)(out:Name)(all:List aH)(left:Nat)(v:Value)(wr:World):Prop:=
 ∃(d':Dsk)(o':ar)(l:List Src)(taken:List aH),au (fun _=>False) n pb db w o d wr o' d' (aS L out (aw (fG taken) false))/\dc wr pb o' (aS L out (aw (fG taken) false)) w.heap.size out v l/\uv wr v (l.map Src.cb)/\Taken by' all taken l /\
  eZ wr kb yz (fG taken)/\aD wr yz pb out 20/\o' kb=none/\o' yz=none/\(∀x,v.ownBlock=some x->x≠kb/\x≠yz)/\left=(cB l).length
def C9(n pb db:Nat)(w:World)(o:ar)(d:Dsk)(L:aC)(out:Name)(ns:List Name)(Zk:List aH)(N:Nat)(e:Ending)(w':World):Prop:=
 ∃c d' o' L',e=.returned (.int .i64 ((c:Nat):Int))/\au (fun _=>False) n pb db w o d w' o' d' L'/\(∀x,x≠out->x ∉ ns->aA L' x=aA L x)/\((c=0/\L'=ns.foldl bZ (aS L out (aw Zk false)))\/jq d d' (need L+4*N) c)
theorem dc.cells(h:dc w pb o L base out v l)(hr:gW w g (l.map Src.cb)){k:Nat}{s:Src}(hk:l[k]? = some s) :
 w.cell? ⟨g,k,none⟩=some (ptrTo s.cb)/\w.cell? ⟨s.cb,3,none⟩=some (.int .u32 (s.cur.t.toNat:Int))/\w.cell? ⟨s.cb,4,none⟩=some (.int .u32 (s.cur.h.toNat:Int))/\w.cell? ⟨s.cb,5,none⟩=some (.int .u64 (s.cur.x.toNat:Int))/\w.cell? ⟨s.cb,6,none⟩=some (.int .u32 (s.cur.m.toNat:Int)):=by
 have hl:=aN hk;rw[List.getElem?_eq_getElem hl]at hk;have h1:=hr.cell (k:=k) (by grind);rw[List.getElem_map]at h1;obtain⟨-,⟨h3,h4,h5,h6⟩,-⟩:=(h.each _ (List.getElem_mem hl)).src.cells;grind
theorem Hj{es:List aH}(hno:aA L out=none):need (aS L out (aw es false))<=need L+4*es.length:=by
 grind [pR,cE]
theorem Taken.len{b:Bool}{all taken:List aH}(h:Taken b all taken l):taken.length+(cB l).length=all.length:=by
 rw[<- List.length_append];exact h.perm.length_eq
end
end
section
open Go.RowKit Go.Maps Go.MapKept
section
variable {w w':World} {pb db n jb bg made:Nat} {by':Bool} {o o':ar} {d d':Dsk} {L L':aC}
theorem EB(HW:aP)(h:aQ w pb db n o d L)(hj:cS w jb pb bg made by')(lB:o jb=none)(Ca:o bg=none){v:Value}{rs:List tj}(hv:bG w v (rs.map (·.1)))(mj:∀b,v.ownBlock=some b->o b=none)(hL:∀p∈rs,aA L p.1=some (aw p.2 false))(Js:(rs.map (·.1)).Nodup)(hlen:rs.length<=1000)(CG:∀p∈rs,aJ by' p.2=p.2)(hall:lens rs<=60000){out:Name}(fw:bL out=true)(hno:aA L out=none) :
 Calls prog 179 #[ptrTo jb,v,.string out] w (C9 n pb db w o d L out (rs.map (·.1)) (aJ by' (ee rs)) (lens rs)):=by
 have pP:Hid (∀W o' d' nm es,au (fun _=>False) n pb db w o d W o' d' L->(nm,es)∈rs->Calls prog 116 #[ptrTo jb,.string nm] W (qA n pb db W o' d' L nm es.length)):=aa (fun W o' d' nm es hm hp=>xJ HW hm.aY (hj.moved hm lB Ca (fun h=>h) (fun h=>h)) (hL _ hp));have Hd:Hid (∀W o' d' L' cb sb nm(es:List aH)x0 i fl x,aQ W pb db n o' d' L'->aD W sb pb nm 20->o' sb=none->bz W cb sb i es.length x0->o' cb=none->aA L' nm=some (aw es fl)->es[i]? = some x->Calls prog 221 #[ptrTo cb] W (zV n pb db W o' d' L' cb sb i es.length x)):=aa (fun W o' d' L' cb sb nm es x0 i fl x a b c e f g hx=>by
  have hi:=aN hx;grind [r7])
 have Ew:Hid (∀W o' d',au (fun _=>False) n pb db w o d W o' d' L->Calls prog 223 #[ptrTo jb,.string out] W (lU n pb db W o' d' L out)):=aa (fun W o' d' hm=>r8 hm.aY (hj.moved hm lB Ca (fun h=>h) (fun h=>h)) (hm.free hj.lt.1 lB) fw hno);have hput:Hid (∀W o' d' kb sb res,aQ W pb db n o' d' (aS L out (aw res false))->aD W sb pb out 20->o' sb=none->o' kb=none->kb≠sb->eZ W kb sb res->res.length<65535->∀x:aH,
  Calls prog 225 #[ptrTo kb,.agg #[.int .u32 (x.t.toNat:Int),.int .u32 (x.h.toNat:Int),.int .u64 (x.x.toNat:Int),.int .u32 (x.m.toNat:Int)]] W (zW n pb db W o' d' (aS L out (aw res false)) out kb sb res x)):=
  aa (fun W o' d' kb sb res hW hst ho Rv hne hk hl x=>xH HW hW hst ho Rv hne (by grind [ay]) hl hk x)
 have Kq:∀x∈rs.map (·.1),x≠out:=fun x hx e=>by
  grind
 have tO:Hid (∀W o' d' es,au (fun _=>False) n pb db w o d W o' d' (aS L out (aw es false))->Calls prog 227 #[ptrTo jb,v] W (xI n pb db W o' d' (aS L out (aw es false)) (rs.map (·.1)))):=aa (fun W o' d' es hm=>by
  refine GX hm.aY (hj.moved hm lB Ca (fun h=>h) (fun h=>h)) (hm.free hj.lt.1 lB) (hv.kept (fun b hb=>hm.block (hv.lt b hb) (mj b hb) (fun h=>h))) (fun b hb=>hm.free (hv.lt b hb) (mj b hb)) (fun x hx=>?_) Js (by grind);rw[ay,if_neg (Kq x hx)];obtain⟨p,hp,rfl⟩:=List.mem_map.1 hx;exact⟨_,_,hL p hp⟩)
 have yg:Hid (∀W,cS W jb pb bg made by'->∀x y:aH,Calls prog 224 #[ptrTo jb,.agg #[.int .u32 (x.t.toNat:Int),.int .u32 (x.h.toNat:Int),.int .u64 (x.x.toNat:Int),.int .u32 (x.m.toNat:Int)],.agg #[.int .u32 (y.t.toNat:Int),.int .u32 (y.h.toNat:Int),.int .u64 (y.x.toNat:Int),.int .u32 (y.m.toNat:Int)]] W
  fun e w'=>e=.returned (.int .i64 (aR by' x y))/\dW W w'):=aa (fun W hW x y=>xF hW x y)
 have hcell:Hid (∀W o' d' L',au (fun _=>False) n pb db w o d W o' d' L'->∀k p,rs[k]? = some p->∀g off len cap,v=.slice (some ⟨g,off,none⟩) len cap->W.cell? ⟨g,off+k,none⟩=some (.string p.1)):=aa (fun W o' d' L' hm k p hp g off len cap e=>by
  subst e;have hkr:=aN hp;have h1:=(hv.kept (fun b hb=>hm.block (hv.lt b hb) (mj b hb) (fun h=>h))).cells.2.2.2 k (by grind);grind)
 have H:=aa h;have HJ:=aa hj;have HL:=aa hL;have adm:=aa CG;have Zg:=aa hno;have HNS:=aa Kq;have BH:Hid ((ee rs).length=lens rs):=aa (uj rs);have UY:=aa lB;have Vl:=aa Ca;obtain⟨g,off,cap,rfl⟩:=hv.shape;obtain⟨-,hl2,NH,-⟩:=hv.cells;unfold maxLen at NH;clear h hj lB Ca hv mj hL Js CG fw hno Kq;rw[List.length_map]at *;generalize hN:rs.length=N at *;have HN:=aa hN;clear hN;generalize hM:lens rs=M at *;clear hM;unfold ptrTo at *;go_enter func179,ntmps179;go_wp2;go_loopw [22,7] (fun i v wr=>∃k:Nat,k<=N/\i=.int .i64 (k:Int)/\RF n pb db by' w o d L out rs k v wr) (fun i _ _=>N-(intOf i).toNat)
 case atStart=>exact⟨0,Nat.zero_le _,rfl,d,o,[],au.refl _ H.o,dc.nil,uv.ofNil,rfl,(fun s hs=>nomatch hs),(fun s hs=>nomatch hs),Nat.le_refl _⟩
 case round=>
  generalize u7=v at *;obtain⟨k,hk,rfl,d1,o1,l,dZ,Md,hr1,Xp,RG,tY,hlk⟩:=hrel;have eY:=aa dZ;have Hk:=aa Md;have nx:=aa hr1;have RH:=aa Xp;have EC:=aa RG;have Vm:=aa tY;have hs1:w.heap.size<=wr.heap.size:=dZ.size;have B7:Hid (∀x,v.ownBlock=some x->x<wr.heap.size):=aa (fun x hx=>(aL hr1 x hx).1);clear dZ Md hr1 Xp RG tY;by_cases hlt:k<N
  ·obtain⟨nm,es,hp⟩:∃nm es,rs[k]? = some (nm,es):=by
    have hkr:k<rs.length:=by grind [Hid.out]
    exact⟨rs[k].1,rs[k].2,List.getElem?_eq_getElem hkr⟩
   have mn:(nm,es)∈rs:=List.mem_of_getElem? hp;have hc:=hcell.o wr o1 d1 L eY.o k (nm,es) hp g off N cap rfl;have aM:=aa (pP.o wr o1 d1 nm es eY.o mn);have HF:Hid (aA L nm=some (aw es false)):=aa (HL.o _ mn);have Gr:Hid (nm≠out):=aa (HNS.o nm (List.mem_map.2 ⟨_,mn,rfl⟩));have mR:Hid (es.Pairwise (dC by')):=aa (Ko (adm.o _ mn));have adn:Hid (ee (rs.take (k+1))=ee (rs.take k)++es):=aa (Kp hp);clear hp mn;dsimp only at hc;go_wp2_with fail;refine aM.o.mono ?_;rintro e w2⟨v2,c2,d2,o2,rfl,cR,p7,jl⟩;have eT:=aa (eY.o.trans cR (fun _ _ h=>h));have Xq:=aa cR;have GM:=aa p7;clear cR p7 hc aM;by_cases hc2:c2=0
   ·subst hc2;obtain⟨cb,sb,rfl,hs2,oy,Kr,Af,Vn,Q8⟩:=jl rfl;have eK:=aa hs2;have nB:=aa oy;have RI:=aa Kr;have B8:=aa Af;have hz2:wr.heap.size<=w2.heap.size:=Xq.o.size;clear hs2 oy Kr Af jl;unfold ptrTo at *;by_cases hes:0<es.length
    ·have hx:es[0]? = some es[0]:=List.getElem?_eq_getElem hes;have aM:=aa (Hd.o w2 o2 d2 L cb sb nm es z7 0 false es[0] eT.o.aY nB.o B8.o eK.o RI.o HF.o hx);have HX:=aa hx;clear hx;generalize es[0]=x at *;go_wp2_with fail;refine aM.o.mono ?_;rintro e w3⟨c3,d3,o3,rfl,ep,CY,hs3⟩;have eD:=aa (eT.o.trans ep (fun x hx e=>by omega));have HMT:=aa ep;have BQ:=aa CY;have hz3:w2.heap.size<=w3.heap.size:=ep.size;clear ep CY aM;by_cases hc3:c3=0
     ·subst hc3;have fC:=aa (hs3 rfl);have Bf:Hid (w3.ownsRow w.heap.size 206 1 v (l.map Src.cb).length ((l.map Src.cb).map ptrTo)):=aa (by
       have fO:∀b,v.ownBlock=some b->o1 b=none:=fun b hb=>(Hk.o.row b hb).1;have h2:=Xq.o.ownsRow nx.o (fun b hb=>⟨fO b hb,fun h=>h⟩);exact HMT.o.ownsRow h2 (fun b hb=>⟨Xq.o.free (B7.o b hb) (fO b hb),fun e=>by have:=B7.o b hb;omega⟩))
      clear hs3;go_wp2_with (at_builtin;refine uq rfl _ _ rfl w.heap.size _ _ rfl Bf.o cb 1 rfl ae ae ?_);intro v4 w4 hr4 Km;have Cb:=aa (Km.moved eD.o (fun x hx=>⟨HMT.o.free (Nat.lt_of_lt_of_le (B7.o x hx) hz2) (Xq.o.free (B7.o x hx) (Hk.o.row x hx).1),(Hk.o.row x hx).2.1⟩));have Mj:=aa (Hk.o.opened B7.o Xq.o HMT.o hs1 Vn Q8 eK.o nB.o RI.o B8.o fC.o HX.o HF.o Gr.o Km);have LW:=aa hr4;clear hr4 Km;go_wp2;go_roundw
      case rel=>exact⟨k+1,ae,by go_num,d3,o3,_,Cb.o.1,Mj.o,(by simpa using LW.o),(by rw[lW,Hi,RH.o,adn.o];rfl),(fun s hs=>(List.mem_append.1 hs).elim (EC.o s) (fun hs=>by rw[List.mem_singleton.1 hs];assumption)),(fun s hs=>(List.mem_append.1 hs).elim (Vm.o s) (fun hs=>by rw[List.mem_singleton.1 hs];exact⟨Nat.le_refl _,hes⟩)),(by grind)⟩
      grind [intOf]
     ·have JY:¬(c3:Int)=0:=by omega
      have HE:Hid (jq d d3 (need L+4*M) c3):=aa (((BQ.o.resolve_left hc3).num (Nat.le_add_right _ _)).later eT.o.on.bC);clear hc3 hs3;go_wp2;go_ret;exact⟨c3,d3,o3,L,rfl,eD.o,(fun _ _ _=>rfl),.inr HE.o⟩
    ·have aiG:es=[]:=List.eq_nil_of_length_eq_zero ae;subst aiG;have aM:=aa (lT eK.o (Nat.le_refl _));unfold ptrTo at aM;go_wp2_with fail;refine aM.o.mono ?_;rintro e w3⟨rfl,q,rfl⟩;have HB:Hid (Below w2.heap.size w2 (w2.drewN q)):=aa (below_drewN aj _);have Bf:Hid (w2.ownsRow w.heap.size 206 1 v (l.map Src.cb).length ((l.map Src.cb).map ptrTo)):=aa (Xq.o.ownsRow nx.o (fun b hb=>⟨(Hk.o.row b hb).1,fun h=>h⟩));have RB:=aa ((Hk.o.moved Xq.o B7.o (fun _ _=>⟨fun h=>h,fun h=>h⟩) (fun _ _=>rfl)).below HB.o);have LW:Hid ((w2.drewN q).ownsRow w.heap.size 206 1 v (l.map Src.cb).length ((l.map Src.cb).map ptrTo)):=aa (bH Bf.o (fun x hx=>HB.o.block x (Nat.lt_of_lt_of_le (B7.o x hx) hz2)));have eD:=aa (eT.o.drewN q);generalize w2.drewN q=w3 at *;go_wp2;go_roundw
     case rel=>exact⟨k+1,ae,by go_num,d2,o2,l,eD.o,RB.o,LW.o,(by grind [Hid.out]),EC.o,Vm.o,ae⟩
     grind [intOf]
   ·have J9:¬(c2:Int)=0:=by omega
    have HE:Hid (jq d d2 (need L+4*M) c2):=aa (((GM.o.resolve_left hc2).num (Nat.le_add_right _ _)).later eY.o.on.bC);clear hc2 jl;go_wp2;go_ret;exact⟨c2,d2,o2,L,rfl,eT.o,(fun _ _ _=>rfl),.inr HE.o⟩
  ·obtain rfl:k=N:=by omega
   have HT0:Hid (Taken by' (ee rs) [] l):=aa ⟨by rw[List.nil_append,RH.o,List.take_of_length_le (by grind [Hid.out])],List.Pairwise.nil,(fun x hx=>nomatch hx),EC.o,Vm.o⟩;have aM:=aa (Ew.o wr o1 d1 eY.o);unfold ptrTo at aM;go_wp2_with fail;refine aM.o.mono ?_;rintro e w2⟨v2,c2,d2,o2,rfl,cR,p7,jl⟩;have GM:=aa p7;by_cases hc2:c2=0
   ·subst hc2;obtain⟨kb,yz,rfl,hk2,oy,G6,Af,pq,hkb,BW⟩:=jl rfl;simp only[if_true]at cR;have eT:=aa (eY.o.trans cR (fun _ _ h=>h));have Jf:Hid (dc w2 pb o2 (aS L out (aw [] false)) w.heap.size out v l):=aa (Hk.o.moved cR B7.o (fun _ _=>⟨fun h=>h,fun h=>h⟩) (fun x hx=>by rw[ay,if_neg hx]));have Cc:Hid (uv w2 v (l.map Src.cb)):=aa (uv.C5 (cR.ownsRow nx.o (fun b hb=>⟨(Hk.o.row b hb).1,fun h=>h⟩)));have HK2:=aa hk2;have nB:=aa oy;have Vf:=aa G6;have B8:=aa Af;have Kj:=aa pq;have HVK:Hid (∀x,v.ownBlock=some x->x≠kb/\x≠yz):=aa (fun x hx=>by have:=B7.o x hx;omega);have hkw:w.heap.size<=kb:=by omega
    clear jl cR hk2 oy G6 Af pq p7 aM;unfold ptrTo;have aiI:Hid ((ee rs).length<=60000):=aa (by rw[BH.o];omega);clear Hk nx RH EC Vm B7 eY hlk;go_wp2;go_loopg [7] (ee rs).length (fun left v wr=>N0 n pb db kb yz by' w o d L out (ee rs) left v wr)
    case atStart=>exact⟨d2,o2,l,[],eT.o,Jf.o,Cc.o,HT0.o,HK2.o,nB.o,Vf.o,B8.o,HVK.o,by have:=HT0.o.len;simpa using this.symm⟩
    case round=>
     clear eT Jf Cc HT0 HK2 nB Vf B8 HVK;generalize u7=v at *;generalize wr=wo at *;obtain⟨d3,o3,l3,taken,ep,NH,hr3,yq,hk3,tX,tW,NQ,Zl,Ql⟩:=hrel;have eD:=aa ep;have Zj:Hid (cS wo jb pb bg made by'):=aa (HJ.o.moved ep UY.o Vl.o (fun h=>h) (fun h=>h));by_cases hz:l3=[]
     ·subst hz;have hv0:∃a cap,v=.slice a 0 cap:=by
       rcases hr3 with⟨rfl,_⟩|⟨g',cap',rfl,_⟩
       ·simp
       simp
      have HD:=aa yq.done;have aM:=aa (tO.o wo o3 d3 (fG taken) ep);clear ep NH hr3 yq hk3 tX tW NQ Zl Ql;obtain⟨a,cap',rfl⟩:=hv0;go_wp2_with fail;refine aM.o.mono ?_;rintro e w4⟨c4,d4,o4,L4,rfl,eV,ij⟩;have gl:=aa (eD.o.trans eV (fun _ _ h=>h));have Bh:=aa ij;clear eV ij aM;go_wp2;go_ret;refine⟨c4,d4,o4,L4,rfl,gl.o,fun x hx TY=>?_,?_⟩
      ·rcases Bh.o with⟨_,e⟩|⟨_,_,e⟩
       ·rw[e,rq,if_neg TY,ay,if_neg hx]
       ·rw[e x TY,ay,if_neg hx]
      ·rcases Bh.o with⟨h1,e⟩|⟨h1,h2,_⟩
       ·exact .inl ⟨h1,by rw[e,HD.o]⟩
       ·exact .inr (.inr ⟨h1,h2⟩)
     ·have Yn:0<l3.length:=List.length_pos_iff.2 hz;obtain⟨g3,yC,rfl,ade,Rx,hpr,hg3⟩:∃g3 yC,v=.slice (some ⟨g3,0,none⟩) l3.length yC/\l3.length<=yC/\yC<=maxLen/\gW wo g3 (l3.map Src.cb)/\g3<wo.heap.size:=by
       rcases hr3 with⟨rfl,h⟩|⟨g,cap,rfl,h1,h2,h3,h4⟩
       ·exact absurd (List.map_eq_nil_iff.1 h) hz
       ·rw[List.length_map]at *;exact⟨g,cap,rfl,h1,h2,h3,h4⟩
      have ED:Hid (∀W,dW wo W->∀(k:Nat)(s:Src),l3[k]? = some s->W.cell? ⟨g3,k,none⟩=some (ptrTo s.cb)/\W.cell? ⟨s.cb,3,none⟩=some (.int .u32 (s.cur.t.toNat:Int))/\W.cell? ⟨s.cb,4,none⟩=some (.int .u32 (s.cur.h.toNat:Int))/\W.cell? ⟨s.cb,5,none⟩=some (.int .u64 (s.cur.x.toNat:Int))/\W.cell? ⟨s.cb,6,none⟩=some (.int .u32 (s.cur.m.toNat:Int))):=aa (fun W hW k s hk=>by
       obtain⟨h1,h2,h3,h4,h5⟩:=NH.cells hpr hk;exact⟨hW.cell h1,hW.cell h2,hW.cell h3,hW.cell h4,hW.cell h5⟩)
      have RB:=aa NH;have qZ:=aa yq;have HK3:=aa hk3;have B9:=aa tX;have Rw:=aa tW;have vQ:=aa NQ;have RJ:=aa Zl;have HGK:=aa Ql;have HPR:=aa hpr;clear ep NH hr3 yq hk3 tX tW NQ Zl Ql hpr hz;unfold maxLen at Rx;have EE:Hid (∀k,k<l3.length->∃s,l3[k]? = some s):=aa (fun k hk=>⟨l3[k],List.getElem?_eq_getElem hk⟩);generalize hZ:l3.length=Z at *;have HZ:=aa hZ;clear hZ;go_wp2;go_loopw [15,63] (fun kv iv W=>∃k i:Nat,k<Z/\i<=Z/\kv=.int .i64 (k:Int)/\iv=.int .i64 (i:Int)/\dW wo W/\∀(s t:Src)(j:Nat),j<i->l3[k]? = some s->l3[j]? = some t->dC by' s.cur t.cur) (fun _ iv _=>Z-(intOf iv).toNat)
      case atStart=>exact⟨0,0,Yn,Nat.zero_le _,rfl,rfl,dW.refl _,fun _ _ j hj=>absurd hj (Nat.not_lt_zero _)⟩
      case round=>
       generalize wr=W at *;obtain⟨k,i,hk,hi,rfl,rfl,hgr,ur⟩:=hrel;have HG:=aa hgr;have N1:=aa ur;clear hgr ur;by_cases hlt:i<Z
       ·obtain⟨x,hx⟩:=EE.o i hlt;obtain⟨y,hy⟩:=EE.o k hk;have HCX:Hid (∀W',dW W W'->W'.cell? ⟨g3,i,none⟩=some (ptrTo x.cb)/\W'.cell? ⟨x.cb,3,none⟩=some (.int .u32 (x.cur.t.toNat:Int))/\W'.cell? ⟨x.cb,4,none⟩=some (.int .u32 (x.cur.h.toNat:Int))/\W'.cell? ⟨x.cb,5,none⟩=some (.int .u64 (x.cur.x.toNat:Int))/\W'.cell? ⟨x.cb,6,none⟩=some (.int .u32 (x.cur.m.toNat:Int))):=aa (fun W' hW=>ED.o W' (HG.o.trans hW) i x hx);have HCY:Hid (∀W',dW W W'->W'.cell? ⟨g3,k,none⟩=some (ptrTo y.cb)/\W'.cell? ⟨y.cb,3,none⟩=some (.int .u32 (y.cur.t.toNat:Int))/\W'.cell? ⟨y.cb,4,none⟩=some (.int .u32 (y.cur.h.toNat:Int))/\W'.cell? ⟨y.cb,5,none⟩=some (.int .u64 (y.cur.x.toNat:Int))/\W'.cell? ⟨y.cb,6,none⟩=some (.int .u32 (y.cur.m.toNat:Int))):=aa (fun W' hW=>ED.o W' (HG.o.trans hW) k y hy);have aM:=aa (fun W'(hW:dW W W')=>yg.o W' (Zj.o.below (HG.o.trans hW).below) x.cur y.cur);have ado:Hid (aR by' x.cur y.cur<0->∀(s t:Src)(j:Nat),j<i+1->l3[i]? = some s->l3[j]? = some t->dC by' s.cur t.cur):=aa (fun hc s t j hj hs ht=>by
         rw[hx]at hs;obtain rfl:=Option.some.inj hs;rcases Nat.lt_or_ge j i with uZ | uZ
         ·have h1:=N1.o y t j uZ hy ht;rw[zS]at hc;exact dC.trans (by unfold dC;omega) h1
         ·obtain rfl:j=i:=by omega
          rw[hx]at ht;obtain rfl:=Option.some.inj ht;exact dC.refl _ _)
        have Xr:Hid (¬aR by' x.cur y.cur<0->∀(s t:Src)(j:Nat),j<i+1->l3[k]? = some s->l3[j]? = some t->dC by' s.cur t.cur):=aa (fun hc s t j hj hs ht=>by
         rcases Nat.lt_or_ge j i with uZ | uZ
         ·exact N1.o s t j uZ hs ht
         ·obtain rfl:j=i:=by omega
          rw[hx]at ht;obtain rfl:=Option.some.inj ht;rw[hy]at hs;obtain rfl:=Option.some.inj hs;exact(zT _ _ _).1 hc)
        clear hx hy;unfold ptrTo at *;generalize aR by' x.cur y.cur=R at *
        generalize x.cur.t.toNat=xt at *;generalize x.cur.h.toNat=xh at *;generalize x.cur.x.toNat=xx at *;generalize x.cur.m.toNat=xm at *;generalize y.cur.t.toNat=yt at *;generalize y.cur.h.toNat=yh at *;generalize y.cur.x.toNat=yx at *;generalize y.cur.m.toNat=ym at *;generalize x.cb=xb at *;generalize y.cb=yb at *;by_cases hR:R<0;case' pos=>have hRd:decide (R<0)=true:=decide_eq_true hR
        case' neg=>have hRd:decide (R<0)=false:=decide_eq_false hR
        all_goals
         go_wp2;refine cP (dW W) (by rfl) ag (dW.refl W).drew ?_;iterate 4 (refine qz ?_)
         refine qz ?_ (fun w' hw'=>by have hc:=(HCX.o w' hw').1;go_simp<;>rfl);iterate 2 (refine qz ?_)
         refine qz ?_ (fun w' hw'=>by obtain⟨-,e0,e1,e2,e3⟩:=HCX.o w' hw';go_simp<;>rfl);iterate 3 (refine qz ?_)
         refine qz ?_ (fun w' hw'=>by have hc:=(HCY.o w' hw').1;go_simp<;>rfl);iterate 2 (refine qz ?_)
         refine qz ?_ (fun w' hw'=>by obtain⟨-,e0,e1,e2,e3⟩:=HCY.o w' hw';go_simp<;>rfl);refine qw (fun w' hw'=>(aM.o w' hw').mono (fun e w'' h=>⟨h.1,hw'.trans h.2⟩)) ?_;refine qz ?_;refine wpQuiet_nil ?_;intro W1 hW1;have Je:=aa (HG.o.trans hW1);clear hW1 aM HCX HCY;go_wp2;go_roundw
         case measure=>simp[intOf];omega
        ·exact⟨k,i+1,hk,ae,rfl,by go_num,Je.o,Xr.o ae⟩
        ·exact⟨i,i+1,hlt,ae,rfl,by go_num,Je.o,ado.o ae⟩
       ·obtain rfl:Z=i:=by omega
        obtain⟨y,hy⟩:=EE.o k hk;obtain⟨e0,e3,e4,e5,e6⟩:=ED.o W HG.o k y hy;have Y5:Hid ((fG taken).length<=taken.length):=aa (mE _);have HLEN:Hid (taken.length+(cB l3).length=(ee rs).length):=aa qZ.o.len;have HY:=aa hy;have eV:au (fun _=>False) n pb db w o d W o3 d3 (aS L out (aw (fG taken) false)):=eD.o.below HG.o.below;have gl:=aa eV;have hk4:eZ W kb yz (fG taken):=HK3.o.below HG.o.below;have HK4:=aa hk4;have Ef:aD W yz pb out 20:=B9.o.below HG.o.below;have tZ:=aa Ef;have hl4:=RB.o.below HG.o.below;have Mj:=aa hl4;have aM:=aa (hput.o W o3 d3 kb yz (fG taken) eV.aY Ef vQ.o Rw.o Kj.o hk4 (by have:=Y5.o;have:=HLEN.o;have:=aiI.o;omega) y.cur);have ny:Hid (sK (fG taken) y.cur=fG (taken++[y.cur])):=aa (vD _ _).symm;have hky:k<l3.length:=by rw[HZ.o];exact hk
        have Zm:Hid (l3[k]=y):=aa (by rw[List.getElem?_eq_getElem hky]at hy;exact Option.some.inj hy);have Xs:=hl4.each y (List.mem_of_getElem? hy);have alK:=aa Xs;have RM:Hid (∀s∈l3,dC by' l3[k].cur s.cur):=aa (fun s hs=>by
         obtain⟨j,hj,rfl⟩:=List.getElem_of_mem hs;exact N1.o _ _ j (by rw[<- HZ.o];exact hj) (List.getElem?_eq_getElem hky) (List.getElem?_eq_getElem hj))
        have HNK:Hid (∀s∈l3,kb≠s.cb/\kb≠s.sb/\yz≠s.cb):=aa (fun s hs=>⟨yA (hl4.each s hs).src hk4,yB (hl4.each s hs).str hk4,fX (hl4.each s hs).src Ef⟩);have hyo:=qZ.o.ok y (List.mem_of_getElem? hy);have HYO:=aa hyo;have HYM:=aa (List.mem_of_getElem? hy);have hg4:g3<W.heap.size:=Nat.lt_of_lt_of_le hg3 HG.o.below.size;have aiM:Hid (gW W g3 (l3.map Src.cb)):=aa (HPR.o.kept (HG.o.below.block _ hg3));clear eV hk4 Ef hl4 hy Xs hyo ED N1;unfold ptrTo at *;generalize hyc:y.cur=yc at *;have HYC:=aa hyc;clear hyc;generalize hyb:y.cb=yb at *;have Vo:=aa hyb;clear hyb;go_wp2_with fail;refine aM.o.mono ?_;rintro e w5⟨c5,d5,o5,rfl,kC,Pw,Rz⟩;have QM:=aa Pw;by_cases Be:c5=0
        ·subst Be;simp only[if_true,iO]at kC;rw[ny.o]at kC Rz;have HK5:=aa (Rz rfl);have lx:=aa (gl.o.trans kC (fun x hx e=>by omega));have hl5:dc w5 pb o5 (aS L out (aw (fG (taken++[yc])) false)) w.heap.size out (.slice (some ⟨g3,0,none⟩) Z yC) l3:=Mj.o.moved kC (fun x hx=>by cases hx;omega) (fun s hs=>⟨fun e=>(HNK.o s hs).1 e.symm,fun e=>(HNK.o s hs).2.1 e.symm⟩) (fun x hx=>by rw[ay,if_neg hx,ay,if_neg hx]);have HL5:=aa hl5;have hrow:=Mj.o.row g3 rfl;have Yz:w5.heap[g3]? = W.heap[g3]? := kC.block hg4 hrow.1 (RJ.o g3 rfl).1;have Zn:Hid (gW w5 g3 (l3.map Src.cb)):=aa (aiM.o.kept Yz);have Hn:Hid (aD w5 yz pb out 20):=aa (tZ.o.moved kC vQ.o (fun e=>Kj.o e.symm));have Zo:Hid (o5 kb=none):=aa (kC.free HK4.o.lt Rw.o);have Ho:Hid (o5 yz=none):=aa (kC.free tZ.o.lt vQ.o);have Pp:g3<w5.heap.size:=Nat.lt_of_lt_of_le hg4 kC.size;have e0:w5.cell? ⟨g3,k,none⟩=some (.pointer (some ⟨yb,0,none⟩)):=by
          have:=Zn.o.cell (k:=k) (by rw[List.length_map];omega);rw[List.getElem_map,Zm.o,Vo.o]at this;exact this
         have uw:=hl5.each y HYM.o;have adr:=aa uw;clear kC Rz Pw hl5 hrow Yz e3 e4 e5 e6 aM;have HTL:Hid ((taken++[yc]).length<=(ee rs).length):=aa (by
          rw[List.length_append,List.length_singleton,<- HLEN.o];have h1:=Src.left_eq HYO.o;have h2:y.left.length<=(cB l3).length:=by
           exact(List.sublist_flatten_of_mem (List.mem_map.2 ⟨y,HYM.o,rfl⟩)).length_le
          rw[h1,List.length_cons]at h2;omega)
         have ads:Hid (need (aS L out (aw (fG (taken++[yc])) false))<=need L+4*M):=aa (by
          have h1:=Hj (es:=fG (taken++[yc])) Zg.o;have h2:=mE (taken++[yc]);have h3:=HTL.o;rw[BH.o]at h3;omega)
         obtain⟨fl,RN⟩:=uw.file;by_cases Ah:y.pos<y.es.length
         ·obtain⟨x,hx⟩:∃x,y.es[y.pos]? = some x:=⟨_,List.getElem?_eq_getElem Ah⟩;have aM:=aa (Hd.o w5 o5 d5 _ y.cb y.sb y.name y.es y.cur y.pos fl x lx.o.aY uw.str uw.os uw.src uw.oc RN hx);have HX:=aa hx;clear uw RN hx;rw[Vo.o]at aM;have Xr:=aa Ah;clear Ah;go_wp2_with fail;refine aM.o.mono ?_;rintro e w6⟨c6,d6,o6,rfl,nP,he6,T7⟩;have HE6:=aa he6;have xN:Hid (au (fun _=>False) n pb db w o d w6 o6 d6 (aS L out (aw (fG (taken++[yc])) false))):=aa (lx.o.trans nP (fun x hx e=>by
           have:=adr.o.bc;rw[Vo.o]at this;omega))
          by_cases hc6:c6=0
          ·subst hc6;have adt:=T7 rfl;have hstep:y.step.cur=x:=by
            unfold Src.cur Src.step;show(y.es[y.pos+1-1]?).getD z7=x;rw[Nat.add_sub_cancel,HX.o];rfl
           rw[<- hstep,<- Vo.o]at adt;have RO:au (·=l3[k].cb) n pb db w5 o5 d5 w6 o6 d6 (aS L out (aw (fG (taken++[yc])) false)):=by rw[Zm.o,Vo.o];omega
           have HL6:=aa (HL5.o.step hky RO (fun x hx=>by cases hx;omega) (by rw[Zm.o];omega));have hrow:=HL5.o.row g3 rfl;have Yz:w6.heap[g3]? = w5.heap[g3]? := nP.block Pp hrow.1 (fun e=>(hrow.2.2 y HYM.o).1 (e.trans Vo.o.symm));have RP:(l3.set k l3[k].step).map Src.cb=l3.map Src.cb:=by
            rw[List.map_set];apply List.ext_getElem?;intro j;rw[List.getElem?_set];split
            ·rename_i e
             subst e;rw[List.getElem?_eq_getElem (by rw[List.length_map];omega),if_pos (by rw[List.length_map];omega),List.getElem_map];rfl
            ·rfl
           have JN:Hid (uv w6 (.slice (some ⟨g3,0,none⟩) Z yC) ((l3.set k l3[k].step).map Src.cb)):=aa (by
            rw[RP];exact .inr ⟨g3,yC,by rw[List.length_map,HZ.o],by rw[List.length_map,HZ.o];omega,by assumption,Zn.o.kept Yz,Nat.lt_of_lt_of_le Pp nP.size⟩)
           have Qj:Hid (Taken by' (ee rs) (taken++[yc]) (l3.set k l3[k].step)):=aa (by
            have:=qZ.o.step hky RM.o (by rw[Zm.o];assumption);rw[show l3[k].cur=yc by rw[Zm.o,HYC.o]]at this;omega)
           have HK6:Hid (eZ w6 kb yz (fG (taken++[yc]))):=aa (HK5.o.kept (nP.block HK5.o.lt Zo.o (fun e=>(HNK.o y HYM.o).1 (e.trans Vo.o.symm))));have RQ:Hid (aD w6 yz pb out 20):=aa (Hn.o.moved nP Ho.o (fun e=>(HNK.o y HYM.o).2.2 (e.trans Vo.o.symm)));have aiO:Hid (o6 kb=none):=aa (nP.free HK5.o.lt Zo.o);have aiP:Hid (o6 yz=none):=aa (nP.free Hn.o.lt Ho.o);have aoT:Hid ((cB (l3.set k l3[k].step)).length<gk):=aa (by
            have h1:=Qj.o.len;have h2:=HLEN.o;have h3:=HGK.o;rw[List.length_append,List.length_singleton]at h1;omega)
           clear nP he6 T7 adt hstep RO hrow Yz RP aM e0;generalize Vp:l3.set k l3[k].step=ln at *;have HLN:=aa Vp;clear Vp;go_wp2;go_roundg (cB ln).length
           case measure=>assumption
           case rel=>exact⟨d6,o6,ln,taken++[yc],xN.o,HL6.o,JN.o,Qj.o,HK6.o,RQ.o,aiO.o,aiP.o,RJ.o,rfl⟩
          ·have aoU:¬(c6:Int)=0:=by omega
           have HE:Hid (jq d d6 (need L+4*M) c6):=aa (((HE6.o.resolve_left hc6).num ads.o).later lx.o.on.bC);clear hc6 T7 nP he6 aM;go_wp2;go_ret;exact⟨c6,d6,o6,_,rfl,xN.o,(fun x hx _=>by rw[ay,if_neg hx]),.inr HE.o⟩
         ·have y7:y.es.length<=y.pos:=Nat.le_of_not_lt Ah;have aM:=aa (lT uw.src y7);have Hp:=aa y7;clear uw RN y7 Ah;rw[Vo.o]at aM;unfold ptrTo at aM;go_wp2_with fail;refine aM.o.mono ?_;rintro e w6⟨rfl,q,rfl⟩;have mS:Hid (Below w5.heap.size w5 (w5.drewN q)):=aa (below_drewN aj _);generalize w5.drewN q=w6 at *;have aiQ:Hid (gW w6 g3 (l3.map Src.cb)):=aa (Zn.o.kept (mS.o.block _ Pp));have hg6:g3<w6.heap.size:=Nat.lt_of_lt_of_le Pp mS.o.size;have hcd:=Kn (cap:=yC) aiQ.o (by rw[List.length_map,HZ.o];omega) (by assumption) (k:=k) (by rw[List.length_map];omega);rw[List.length_map,HZ.o,show((k+1:Nat):Int)=(k:Int)+1 by omega]at hcd;have aM:=aa hcd;clear hcd e0;go_wp2_with fail;refine aM.o.mono ?_;rintro e w7⟨rfl,Zp,Pq⟩;have Bk:Hid (au (fun _=>False) n pb db w o d w7 o5 d5 (aS L out (aw (fG (taken++[yc])) false))):=aa ((lx.o.below mS.o).turned (b:=g3) (HL5.o.row g3 rfl).1 (.inr (HL5.o.row g3 rfl).2.1) Pq);have adu:aF (fun x=>(Value.slice (some ⟨g3,0,none⟩) Z yC).ownBlock=some x) w6 w7:=Pq.mono (fun x _ e=>by rw[e];rfl);have HL7:=aa ((HL5.o.below mS.o).gone (v':=.slice (some ⟨g3,0,none⟩) (Z-1) yC) k adu rfl);have RP:(l3.map Src.cb).eraseIdx k=(l3.eraseIdx k).map Src.cb:=by
           rw[List.eraseIdx_eq_take_drop_succ,List.eraseIdx_eq_take_drop_succ,List.map_append,List.map_take,List.map_drop]
          have tQ:(l3.eraseIdx k).length=Z-1:=by rw[List.length_eraseIdx,if_pos hky,HZ.o]
          have EF:Hid (uv w7 (.slice (some ⟨g3,0,none⟩) (Z-1) yC) ((l3.eraseIdx k).map Src.cb)):=aa (by
           rw[RP]at Zp;exact .inr ⟨g3,yC,by rw[List.length_map,tQ],by rw[List.length_map,tQ];omega,by assumption,Zp,Nat.lt_of_lt_of_le hg6 Pq.size⟩)
          have TV:Hid (Taken by' (ee rs) (taken++[yc]) (l3.eraseIdx k)):=aa (by
           have:=qZ.o.gone hky RM.o (by rw[Zm.o];assumption);rw[show l3[k].cur=yc by rw[Zm.o,HYC.o]]at this;omega)
          have HK7:Hid (eZ w7 kb yz (fG (taken++[yc]))):=aa ((HK5.o.below mS.o).kept (Pq.block kb (Nat.lt_of_lt_of_le HK5.o.lt mS.o.size) (fun e=>(RJ.o g3 rfl).1 e.symm)));have RR:Hid (aD w7 yz pb out 20):=aa ((Hn.o.below mS.o).kept (Pq.block yz (Nat.lt_of_lt_of_le Hn.o.lt mS.o.size) (fun e=>(RJ.o g3 rfl).2 e.symm)));have aoW:Hid ((cB (l3.eraseIdx k)).length<gk):=aa (by
           have h1:=TV.o.len;have h2:=HLEN.o;have h3:=HGK.o;rw[List.length_append,List.length_singleton]at h1;omega)
          clear Zp Pq adu RP tQ aM;generalize Vp:l3.eraseIdx k=ln at *;have HLN:=aa Vp;clear Vp;go_wp2;go_roundg (cB ln).length
          case measure=>assumption
          case rel=>exact⟨d5,o5,ln,taken++[yc],Bk.o,HL7.o,EF.o,TV.o,HK7.o,RR.o,Zo.o,Ho.o,RJ.o,rfl⟩
        ·have acr:¬(c5:Int)=0:=by omega
         rw[if_neg Be]at kC;have lx:=aa (gl.o.trans kC (fun x hx e=>by omega));have HE:Hid (jq d d5 (need L+4*M) c5):=aa (((QM.o.resolve_left Be).num (by
          have h1:=Hj (es:=fG taken) Zg.o;have h2:=Y5.o;have h3:=HLEN.o;rw[BH.o]at h3;omega)).later gl.o.on.bC)
         clear Be kC Rz Pw aM;go_wp2;go_ret;exact⟨c5,d5,o5,_,rfl,lx.o,(fun x hx _=>by rw[ay,if_neg hx]),.inr HE.o⟩
   ·have J9:¬(c2:Int)=0:=by omega
    have HC2:=aa hc2;rw[if_neg hc2]at cR;have eT:=aa (eY.o.trans cR (fun _ _ h=>h));clear hc2 cR jl p7 aM;go_wp2;go_ret;exact⟨c2,d2,o2,L,rfl,eT.o,(fun _ _ _=>rfl),.inr (.inr (GM.o.resolve_left HC2.o))⟩
end
end
section
open Go.RowKit Go.Maps Go.MapKept
section
variable {b:Bool} {es:List aH} {rs:List tj} {L L':aC} {name out:Name} {q:Nat}
noncomputable def merged(b:Bool)(rs:List tj)(q:Nat)(name:Name):List tj:=rs.drop q++[(name,aJ b (ee (rs.take q)))]
theorem ux:(merged b rs q name).map (·.1)=(rs.map (·.1)).drop q++[name]:=by
 grind [merged,List.map_drop]
theorem Ce:(merged b rs q name).length=rs.length-q+1:=by
 grind [merged]
theorem pC(rs:List tj)(q:Nat):lens rs=lens (rs.take q)+lens (rs.drop q):=by
 rw[<- xL,List.take_append_drop]
theorem nJ.merge(h:nJ b es rs)(hn:name ∉ rs.map (·.1)):nJ b es (merged b rs q name) where
 each:=fun p hp=>by
  rcases List.mem_append.1 hp with hp | hp
  ·grind [each]
  grind [mN]
 all:=by
  grind [merged,ui,ee,Ey,G7,List.take_append_drop,all]
 len:=by
  have h1:=h.len;grind [pC,cF,uj,merged,lens]
 nodup:=by
  grind [ux,nodup]
theorem Ai(h:nJ b es rs)(hn:name ∉ rs.map (·.1))(hL:∀p∈rs,aA L p.1=none)(he:∀x,aA L' x=aA (dK rs L) x)(x:Name) :
 aA (((rs.take q).map (·.1)).foldl bZ (aS L' name (aw (aJ b (ee (rs.take q))) false))) x=aA (dK (merged b rs q name) L) x:=by
 have Zq:=h.nodup;have Zr:rs.map (·.1)=(rs.take q).map (·.1)++(rs.drop q).map (·.1):=by simp
 rw[Zr]at Zq hn;rw[List.nodup_append]at Zq;rw[List.mem_append,not_or]at hn;obtain⟨n1,n2,n3⟩:=Zq;unfold merged;rw[rq,ay,Ag,ay];by_cases hx:x=name
 ·grind
 ·rw[if_neg hx,if_neg hx];by_cases ht:x∈(rs.take q).map (·.1)
  ·grind [eF]
  ·rw[if_neg ht,he];by_cases hd:x∈(rs.drop q).map (·.1)
   ·obtain⟨p,hp,rfl⟩:=List.mem_map.1 hd;grind [vR]
   grind [eF]
theorem N2(h:nJ b es rs)(hk:(L.map (·.1)).Nodup)(Bw:(L'.map (·.1)).Nodup)(he:∀x,aA L' x=aA (dK rs L) x):need L'<=need L+4*es.length:=by
 rw[zM (Kk rs L hk) Bw he];have h1:=sV rs L;have h2:=h.len;omega
end
end
section
open Go.RowKit Go.Maps Go.MapKept
section
variable {w w':World} {pb db n cb kb sb jb bg made:Nat} {by':Bool} {name:Name} {o o':ar} {d d':Dsk} {L L':aC}
def kx(n pb db jb bg cb:Nat)(by':Bool)(w:World)(o:ar)(d:Dsk)(L:aC)(out:Name)(es:List aH)(left:Nat)(v:Value)(wr:World):Prop:=
 ∃(d':Dsk)(o':ar)(L':aC)(rs:List tj)(made:Nat),au (fun x=>x=cb\/x=jb) n pb db w o d wr o' d' L'/\cS wr jb pb bg made by'/\bG wr v (rs.map (·.1))/\(∀b,v.ownBlock=some b->o' b=none/\w.heap.size<=b)/\nJ by' es rs /\
  (∀x,aA L' x=aA (dK rs L) x)/\((∃x,rs=[(out,x)])\/(2<=rs.length/\∀p∈rs,∃k,k<made/\p.1=dx k))/\made+rs.length<=102/\left=rs.length
theorem N3{out:Name}{rs:List tj}(hno:aA L out=none)(Bp:∀k,aA L (dx k)=none)(h:(∃x,rs=[(out,x)])\/(2<=rs.length/\∀p∈rs,∃k,k<made/\p.1=dx k)):∀p∈rs,aA L p.1=none:=by
 intro p hp;rcases h with⟨x,rfl⟩|⟨_,h⟩
 ·rw[List.mem_singleton.1 hp];exact hno
 ·obtain⟨k,_,e⟩:=h p hp;rw[e];exact Bp k
theorem Da{out:Name}{rs:List tj}(hmd:made<=128)(h:(∃x,rs=[(out,x)])\/(2<=rs.length/\∀p∈rs,∃k,k<made/\p.1=dx k)):∀x∈rs.map (·.1),gV out x:=by
 intro y hy;obtain⟨p,hp,rfl⟩:=List.mem_map.1 hy;rcases h with⟨x,rfl⟩|⟨_,h⟩
 ·rw[List.mem_singleton.1 hp];exact .inl rfl
 ·obtain⟨k,hk,e⟩:=h p hp;exact .inr ⟨k,ae,e⟩
theorem kx.next{out nm:Name}{es:List aH}{rs:List tj}{q left g mk:Nat}{w4 w5:World}{o4:ar}{d4:Dsk}{L4:aC}{vd v5:Value}{nsd:List Name}{ob:Obj}(hm:au (fun x=>x=cb\/x=jb) n pb db w o d w4 o4 d4 L4)(hj:cS w4 jb pb bg mk by')(h1:jb<w.heap.size)(h2:bg<w.heap.size)(hvd:vd.ownBlock=some g)(hg:o4 g=none/\w.heap.size<=g)(ha:lf (w4.alloc ob) vd nsd nm v5 w5)(TY:nsd++[nm]=(merged by' rs q nm).map (·.1))(fw:nJ by' es (merged by' rs q nm))(iT:∀x,aA L4 x=aA (dK (merged by' rs q nm) L) x)(hsh:(∃x,merged by' rs q nm=[(out,x)])\/(2<=(merged by' rs q nm).length/\∀p∈merged by' rs q nm,∃k,k<mk/\p.1=dx k))(vy:mk+(merged by' rs q nm).length<=102)(hl:left=(merged by' rs q nm).length):kx n pb db jb bg cb by' w o d L out es left v5 w5:=by
 obtain⟨hr,ht,hb⟩:=ha;have hs:w4.heap.size<(w4.alloc ob).heap.size:=by simp
 have hw:w.heap.size<=w4.heap.size:=hm.size;have ht':aF (·=g) (w4.alloc ob) w5:=ht.mono (fun x _ e=>by rw[hvd]at e;exact(Option.some.inj e).symm);rw[TY]at hr;have hjk:∀x,x<w.heap.size->w5.heap[x]? = w4.heap[x]? := fun x hx=>(ht'.block x ae (fun e=>by omega)).trans ((MapKept.heap_alloc w4 ob).2 x ae);refine⟨d4,o4,L4,merged by' rs q nm,mk,(hm.alloc ob).turned (b:=g) hg.1 (.inr hg.2) ht',hj.kept (hjk jb h1) (hjk bg h2),hr,fun b hb'=>?_,fw,iT,hsh,vy,hl⟩;rcases hb with e | e
 ·rw[e,hvd]at hb';cases hb';exact hg
 ·rw[e]at hb';cases hb';exact⟨hm.aY.fresh (Nat.le_of_lt hs),ae⟩
theorem FK(HW:aP){m:Nat}(HS:qB m)(aoX:m<=2400):dX m:=by
 intro w pb db n cb sb jb bg by' o d L h hn hj lB Ca hne es fl p9 out x0 hL pn hst NG Vk hcj hcb hsj hsc hout hno Bp hto hm
 have adv:=aa (Hb HW HS h hn hj lB Ca hne hL pn hst NG Vk hcj hcb hsj hsc hout hno Bp hto hm ae);have ry:Hid (∀W o' d' L',aQ W pb db n o' d' L'->Calls prog 44 #[ptrTo pb] W fun e w'=>e=.returned (.int .i64 (n:Int))/\W=w'):=aa (fun W o' d' L' hW=>jr hW);have Zs:Hid (∀W o' d' L' x,aQ W pb db n o' d' L'->aA L' out=some (aw x false)->Calls prog 79 #[ptrTo pb,.string out] W (jk (fun _=>False) n pb db W o' d' L' (aS L' out (aw x true)))):=aa (fun W o' d' L' x hW Bd=>pB HW hW Bd);have DU:Hid (∀W made,cS W jb pb bg made by'->made<100->Calls prog 178 #[ptrTo jb] W fun e w'=>e=.returned (.string (dx made))/\cS w' jb pb bg (made+1) by'/\aF (·=jb) W w'):=aa (fun W made hW hm=>C6 hW hm hne);have RS:Hid (∀W o' d' L' made rs q v nm,au (fun x=>x=cb\/x=jb) n pb db w o d W o' d' L'->cS W jb pb bg made by'->nJ by' es rs->(∀x,aA L' x=aA (dK rs L) x)->bG W v ((rs.take q).map (·.1))->(∀b,v.ownBlock=some b->o' b=none)->rs.length<=1000->bL nm=true->aA L nm=none->nm ∉ rs.map (·.1) ->
  Calls prog 179 #[ptrTo jb,v,.string nm] W (C9 n pb db W o' d' L' nm ((rs.take q).map (·.1)) (aJ by' (ee (rs.take q))) (lens (rs.take q)))):=aa (fun W o' d' L' made rs q v nm pW hjW fw he hv mj hl uT Zi hni=>by
  have Md:=pC rs q;have hl2:=fw.len;refine EB HW pW.aY hjW (pW.free hj.lt.1 lB) (pW.free hj.lt.2 Ca) hv mj (fun p hp=>?_) ?_ ?_ (fun p hp=>fw.each p (List.mem_of_mem_take hp)) ae uT ?_
  ·rw[he];exact vR _ _ fw.nodup p (List.mem_of_mem_take hp)
  ·rw[List.map_take];exact List.Nodup.sublist (List.take_sublist _ _) fw.nodup
  ·rw[List.length_take];omega
  ·rw[he,eF _ _ _ hni,Zi])
 have T8:n<=4096:=by
  obtain⟨fb,mb,l,hand,mf,hp,rfl,-⟩:=h;exact hp.most
 have Zg:=aa hno;have HNT:=aa Bp;have HTO:=aa hto;have Zt:=aa hout;have Q7:=aa h.keys;have UY:=aa lB;have HCJ:=aa hcj;have Vl:=aa Ca;have RT:=hj.lt.1;have Vq:=hj.lt.2;clear h hj lB Ca hne hL pn hst NG Vk hcj hcb hsj hsc hout hno Bp hto hm;unfold ptrTo at *;obtain⟨ways,RU⟩:∃ways:Nat,(ways:Int)=(n:Int)-4:=⟨n-4,ae⟩;have rH:IntKind.i64.wrap ((n:Int)-4)=(ways:Int):=by rw[ax ae ae,RU]
 have RV:4<=ways/\ways<=4092:=by omega
 obtain⟨RV,aiS⟩:=RV;have alQ:=aa RU;clear RU;go_enter func117,ntmps117;go_wp2_with fail;refine adv.o.mono ?_;rintro e w1⟨v1,c1,d1,o1,L1,rfl,dZ,Zu,hc1⟩;have eY:=aa dZ;have adx:=aa Zu;rcases hc1 with⟨rfl,rs,r,Ms,fw,uT,hrr,aiT,J6,M0,ady⟩| td
 ·have HEAD:Hid (kx n pb db jb bg cb by' w o d L out es rs.length v1 w1):=aa ⟨d1,o1,L1,rs,r,dZ,J6,M0,ady,fw,(fun x=>by rw[Ms]),uT.imp id (fun h=>⟨h.1,h.2.2⟩),ae,rfl⟩;obtain⟨T2,-⟩:=J6.cells;have RX:=aa (ry.o w1 o1 d1 L1 dZ.aY);clear Ms fw uT hrr aiT J6 M0 ady dZ Zu;unfold ptrTo at T2;generalize rs.length=r0 at *;clear rs;go_wp2_with fail;refine RX.o.mono ?_;rintro e w2⟨rfl,rfl⟩;go_wp2;go_loopg [7] r0 (fun left v wr=>kx n pb db jb bg cb by' w o d L out es left v wr)
  case atStart=>exact HEAD.o
  case round=>
   clear T2 HEAD eY adx RX;generalize u7=v at *;generalize wr=wo at *;obtain⟨d2,o2,L2,rs,mk,cR,hj2,hv2,adz,jl,Mt,Zv,vy,wX⟩:=hrel;have eT:=aa cR;have U6:=aa hj2;have TX:=aa hv2;have EG:=aa adz;have Aj:=aa jl;have Db:=aa Mt;have adA:=aa Zv;have RY:=aa wX;have sO:Hid (need L2<=need L+4*es.length):=aa (N2 jl Q7.o cR.aY.keys Mt);have N4:Hid (∀x,¬gV out x->aA L2 x=aA L x):=aa (fun x hx=>by rw[Mt,eF _ _ _ (fun e=>hx (Da ae Zv x e))]);obtain⟨T2,-⟩:=hj2.cells;unfold ptrTo at T2;obtain⟨g,off,cap,rfl⟩:=hv2.shape;obtain⟨-,hl2,NH,-⟩:=hv2.cells;unfold maxLen at NH;have hsz:w.heap.size<=wo.heap.size:=cR.size;clear cR hj2 hv2 adz jl Mt wX;rw[List.length_map]at *;rcases Zv with⟨x,rfl⟩|⟨hr2,RZ⟩
   ·have hx:x=aJ by' es:=by
     have h1:=Aj.o.each (out,x) ah;have h2:=Aj.o.all;simp only[ee,List.map_cons,List.map_nil,List.flatten_cons,List.flatten_nil,List.append_nil]at h2;rw[<- h2];exact h1.symm
    have HX:=aa hx;have LZ:=aa (Zs.o wo o2 d2 L2 x eT.o.aY (by rw[Db.o];exact vR _ _ Aj.o.nodup (out,x) ah));clear hx;simp only[List.map_cons,List.map_nil,List.length_cons,List.length_nil]at *;go_wp2_with fail;refine LZ.o.mono ?_;rintro e w3⟨c3,d3,o3,rfl,ep,CY⟩;have eD:=aa (eT.o.trans ep (fun _ _ h=>h.elim));have BQ:=aa CY;clear ep CY;go_wp2;go_ret;refine⟨c3,d3,o3,_,rfl,eD.o,fun y hy=>?_,?_⟩
    ·have h1:=N4.o y hy;split
     ·rw[ay,if_neg (fun e=>hy (.inl e)),h1]
     ·exact h1
    ·rcases BQ.o with h | h
     ·subst h;refine .inl ⟨rfl,fun y=>?_⟩;rw[if_pos rfl,ay,ay,HX.o];by_cases e:y=out
      ·rw[if_pos e,if_pos e]
      ·rw[if_neg e,if_neg e,Db.o,eF];simpa using e
     ·have h2:=sO.o;exact .inr ((h.num ae).later eT.o.on.bC)
   ·have Ks:=aa RZ;have Mu:rs.length<=1000:=by omega
    have HNL:=aa (N3 Zg.o HNT.o adA.o);have HRS:=aa (Da ae adA.o);clear RZ;generalize hN:rs.length=N at *;have HN:=aa hN;clear hN;by_cases ao0:ways<N
    ·have EH:=aa (DU.o wo mk U6.o ae);have Zw:Hid (dx mk ∉ rs.map (·.1)):=aa (fun hx=>by
      obtain⟨p,hp,e⟩:=List.mem_map.1 hx;obtain⟨k,hk,e'⟩:=Ks.o p hp;have:=vS (e'.symm.trans e);omega)
     have ur:min (ways:Int) (N:Int)=(ways:Int):=Int.min_eq_left ae;have Rv:=aa (G9 (k:=mk) ae);unfold ptrTo at EH;go_wp2_with fail;refine EH.o.mono ?_;rintro e w3⟨rfl,PA,yq⟩;have eD:Hid (au (fun x=>x=cb\/x=jb) n pb db w o d w3 o2 d2 L2):=aa (eT.o.turned (b:=jb) (eT.o.free RT UY.o) (.inl (.inr rfl)) yq);have Fy:Hid (bG w3 (.slice (some ⟨g,off,none⟩) N cap) (rs.map (·.1))):=aa (TX.o.turn yq (fun b hb e=>by have:=(EG.o b hb).2;omega));have Zj:=aa PA;have Ed:=aa (RS.o w3 o2 d2 L2 (mk+1) rs ways (.slice (some ⟨g,off,none⟩) ways cap) (dx mk) eD.o PA Aj.o Db.o (by rw[List.map_take];exact Fy.o.take (by rw[List.length_map,HN.o];omega)) (fun b hb=>(EG.o b hb).1) (by rw[HN.o];exact Mu) Rv.o (HNT.o mk) Zw.o);clear PA yq EH;unfold ptrTo at Ed;generalize uT:dx mk=nm at *;have adB:=aa uT;clear uT;go_wp2_with fail;refine Ed.o.mono ?_;rintro e w4⟨c4,d4,o4,L4,rfl,eV,Cf,ij⟩;have gl:=aa (eD.o.trans eV (fun _ _ h=>h.elim));have R1:Hid (∀x,¬gV out x->x≠nm/\x ∉ (rs.take ways).map (·.1)):=aa (fun x hx=>⟨fun e=>hx (.inr ⟨mk,ae,e.trans adB.o.symm⟩),fun e=>by
      obtain⟨p,hp,e'⟩:=List.mem_map.1 e;exact hx (HRS.o x (List.mem_map.2 ⟨p,List.mem_of_mem_take hp,e'⟩))⟩)
     by_cases tU:c4=0
     ·subst tU;have Vh:=aa (Aj.o.merge (q:=ways) Zw.o);have R3:Hid (∀x,aA L4 x=aA (dK (merged by' rs ways nm) L) x):=aa (by
       rcases ij with⟨_,e⟩| e
       ·rw[e];exact Ai Aj.o Zw.o HNL.o Db.o
       ·exact absurd rfl e.ne)
      have JV:Hid (bG w4 (.slice (some ⟨g,off,none⟩) N cap) (rs.map (·.1))):=aa (Fy.o.kept (fun b hb=>eV.block (Fy.o.lt b hb) (EG.o b hb).1 (fun h=>h)));have zH:Hid (o4 g=none/\w.heap.size<=g):=aa ⟨eV.free (Fy.o.lt g rfl) (EG.o g rfl).1,(EG.o g rfl).2⟩;have HJ4:Hid (cS w4 jb pb bg (mk+1) by'):=aa (Zj.o.kept (eV.block Zj.o.lt.1 (eD.o.free RT UY.o) (fun h=>h)) (eV.block Zj.o.lt.2 (eD.o.free Vq Vl.o) (fun h=>h)));have HVD:Hid (∀ob,bG (w4.alloc ob) (.slice (some ⟨g,off+ways,none⟩) (N-ways) (cap-ways)) ((rs.map (·.1)).drop ways)):=aa (fun ob=>(JV.o.drop (by rw[List.length_map,HN.o];omega)).below (aj.alloc (Nat.le_refl _) ob));have HDL:Hid (((rs.map (·.1)).drop ways).length<=100000):=aa (by rw[List.length_drop,List.length_map,HN.o];omega);clear eV Cf ij Ed;go_wp2_with (at_builtin;refine iE rfl _ _ 91 rfl Tryz.underlying91 rfl (HVD.o _) nm ⟨w4.heap.size,0,none⟩ 1 rfl ah HDL.o ?_);intro v5 w5 Jl;have Re:Hid (kx n pb db jb bg cb by' w o d L out es (N-ways+1) v5 w5):=aa (by
       have Bu:(merged by' rs ways nm).length=N-ways+1:=by rw[Ce,HN.o]
       refine kx.next (q:=ways) gl.o HJ4.o RT Vq rfl zH.o Jl ux.symm Vh.o R3.o (.inr ⟨by rw[Bu];omega,fun p hp=>?_⟩) (by rw[Bu];omega) Bu.symm;rcases List.mem_append.1 hp with hp | hp
       ·obtain⟨k,hk,e⟩:=Ks.o p (List.mem_of_mem_drop hp);exact⟨k,ae,e⟩
       ·rw[List.mem_singleton.1 hp];exact⟨mk,Nat.lt_succ_self _,adB.o.symm⟩)
      clear Jl;go_wp2;go_roundg (N-ways+1)
      case measure=>have:=RY.o;omega
      case rel=>exact Re.o
     ·have aiU:¬(c4:Int)=0:=by omega
      have BL:Hid (jq d d4 (need L+8*es.length) c4):=aa (((ij.resolve_left (fun h=>tU h.1)).mono (by
       have h1:=sO.o;have h2:=pC rs ways;have h3:=Aj.o.len;omega)).later eD.o.on.bC)
      have N5:Hid (∀x,¬gV out x->aA L4 x=aA L x):=aa (fun x hx=>by rw[Cf x (R1.o x hx).1 (R1.o x hx).2,N4.o x hx]);clear tU eV Cf ij Ed;go_wp2;go_ret;exact⟨c4,d4,o4,L4,rfl,gl.o,N5.o,.inr BL.o⟩
    ·have Zw:Hid (out ∉ rs.map (·.1)):=aa (fun hx=>by
      obtain⟨p,hp,e⟩:=List.mem_map.1 hx;obtain⟨k,hk,e'⟩:=Ks.o p hp;exact HTO.o k (e.symm.trans e'))
     have ur:min (ways:Int) (N:Int)=(N:Int):=Int.min_eq_right ae;have Ed:=aa (RS.o wo o2 d2 L2 mk rs N (.slice (some ⟨g,off,none⟩) N cap) out eT.o U6.o Aj.o Db.o (by rw[List.map_take];exact TX.o.take (by rw[List.length_map,HN.o];exact Nat.le_refl _)) (fun b hb=>(EG.o b hb).1) (by rw[HN.o];exact Mu) Zt.o Zg.o Zw.o);unfold ptrTo at Ed;have alS:¬(ways:Int)<(N:Int):=by omega
     go_wp2_with fail;refine Ed.o.mono ?_;rintro e w4⟨c4,d4,o4,L4,rfl,eV,Cf,ij⟩;have gl:=aa (eT.o.trans eV (fun _ _ h=>h.elim));have R1:Hid (∀x,¬gV out x->x≠out/\x ∉ (rs.take N).map (·.1)):=aa (fun x hx=>⟨fun e=>hx (.inl e),fun e=>by
      obtain⟨p,hp,e'⟩:=List.mem_map.1 e;exact hx (HRS.o x (List.mem_map.2 ⟨p,List.mem_of_mem_take hp,e'⟩))⟩)
     by_cases tU:c4=0
     ·subst tU;have Vh:=aa (Aj.o.merge (q:=N) Zw.o);have R3:Hid (∀x,aA L4 x=aA (dK (merged by' rs N out) L) x):=aa (by
       rcases ij with⟨_,e⟩| e
       ·rw[e];exact Ai Aj.o Zw.o HNL.o Db.o
       ·exact absurd rfl e.ne)
      have JV:Hid (bG w4 (.slice (some ⟨g,off,none⟩) N cap) (rs.map (·.1))):=aa (TX.o.kept (fun b hb=>eV.block (TX.o.lt b hb) (EG.o b hb).1 (fun h=>h)));have zH:Hid (o4 g=none/\w.heap.size<=g):=aa ⟨eV.free (TX.o.lt g rfl) (EG.o g rfl).1,(EG.o g rfl).2⟩;have HJ4:Hid (cS w4 jb pb bg mk by'):=aa (U6.o.kept (eV.block U6.o.lt.1 (eT.o.free RT UY.o) (fun h=>h)) (eV.block U6.o.lt.2 (eT.o.free Vq Vl.o) (fun h=>h)));have R4:merged by' rs N out=[(out,aJ by' (ee (rs.take N)))]:=by
       unfold merged;rw[List.drop_of_length_le (by rw[HN.o];exact Nat.le_refl _),List.nil_append]
      have Re:Hid (∀vd v5 w5 ob,vd.ownBlock=some g->lf (w4.alloc ob) vd [] out v5 w5->kx n pb db jb bg cb by' w o d L out es 1 v5 w5):=aa (fun vd v5 w5 ob hvd Jl=>by
       refine kx.next (q:=N) gl.o HJ4.o RT Vq hvd zH.o Jl (by rw[R4];rfl) Vh.o R3.o (.inl ⟨_,R4⟩) (by rw[R4];simp only[List.length_singleton];omega) (by rw[R4];rfl))
      have HVD:Hid (∀ob,(cap=N->bG (w4.alloc ob) (.slice (some ⟨g,off,none⟩) 0 0) [])/\(N<cap->bG (w4.alloc ob) (.slice (some ⟨g,off+N,none⟩) 0 (cap-N)) [])):=aa (fun ob=>⟨fun e=>(JV.o.UT e.symm).below (aj.alloc (Nat.le_refl _) ob),fun e=>by
       have:=JV.o.drop (n:=N) (by rw[List.length_map,HN.o];exact Nat.le_refl _);rw[Nat.sub_self,List.drop_of_length_le (by rw[List.length_map,HN.o];exact Nat.le_refl _)]at this;exact this.below (aj.alloc (Nat.le_refl _) ob)⟩)
      clear eV Cf ij Ed R4;by_cases hcN:cap=N
      ·have HCN:=aa hcN;subst hcN;have HV0:Hid (∀ob,bG (w4.alloc ob) (.slice (some ⟨g,off,none⟩) 0 0) []):=aa (fun ob=>(HVD.o ob).1 rfl);go_wp2_with (at_builtin;refine iE rfl _ _ 91 rfl Tryz.underlying91 rfl (HV0.o _) out ⟨w4.heap.size,0,none⟩ 1 rfl ah ah ?_);intro v5 w5 Jl;have HNY:=aa (Re.o _ v5 w5 _ rfl Jl);clear Jl;go_wp2;go_roundg 1
       case measure=>have:=RY.o;omega
       case rel=>exact HNY.o
      ·have aiX:N<cap:=by omega
       go_wp2_with (at_builtin;refine iE rfl _ _ 91 rfl Tryz.underlying91 rfl ((HVD.o _).2 aiX) out ⟨w4.heap.size,0,none⟩ 1 rfl ah ah ?_);intro v5 w5 Jl;have HNY:=aa (Re.o _ v5 w5 _ rfl Jl);clear Jl;go_wp2;go_roundg 1
       case measure=>have:=RY.o;omega
       case rel=>exact HNY.o
     ·have aiU:¬(c4:Int)=0:=by omega
      have BL:Hid (jq d d4 (need L+8*es.length) c4):=aa (((ij.resolve_left (fun h=>tU h.1)).mono (by
       have h1:=sO.o;have h2:=pC rs N;have h3:=Aj.o.len;omega)).later eT.o.on.bC)
      have N5:Hid (∀x,¬gV out x->aA L4 x=aA L x):=aa (fun x hx=>by rw[Cf x (R1.o x hx).1 (R1.o x hx).2,N4.o x hx]);clear tU eV Cf ij Ed;go_wp2;go_ret;exact⟨c4,d4,o4,L4,rfl,gl.o,N5.o,.inr BL.o⟩
 ·have zk:¬(c1:Int)=0:=by have:=td.ne;omega
  have CU:=aa td;clear td dZ Zu;go_wp2;go_ret;exact⟨c1,d1,o1,L1,rfl,eY.o,adx.o,.inr CU.o⟩
end
end
end Go.Proofs.YthkkgdpomhhjjaaGreatDoor
