/-
  Joined.
-/
import Derived.Test.YthkkgdpomhhjjaaGreatDoorD04
import Derived.Shelf.SlSortCmp.Insertion
import Derived.Sort.Grow
import Derived.Deep.AppendSrc
import Derived.Shelf.Strconv.Itoa3
import Derived.Shelf.Strings.Prefix
import Derived.Shelf.SlicesE.Delete
import Derived.Ground.NamesProg
import Derived.Ground.SlgnProg
import Derived.Shelf.LaysM
set_option maxRecDepth 100000
set_option maxHeartbeats 8000000
namespace Go.Proofs.YthkkgdpomhhjjaaGreatDoor
open Go.Proofs.Tryz
section
open Go.RowKit Go.Maps Go.MapKept
def aC(w:World)(sb pb:Nat)(name:Name)(sz:Nat):Prop:=∃t,w.heap[sb]? = some (.cells #[ptrTo pb,.string name,.int .i64 (sz:Int)] t)
section
variable {S:Nat->Prop} {w w':World} {sb pb db n sz:Nat} {name:Name} {o o':ar} {d d':Dsk} {L L':aD}
theorem aC.cells(h:aC w sb pb name sz):w.cell? ⟨sb,0,none⟩=some (ptrTo pb)/\w.cell? ⟨sb,1,none⟩=some (.string name)/\w.cell? ⟨sb,2,none⟩=some (.int .i64 (sz:Int)):=by
 obtain⟨t,h⟩:=h;refine⟨?_,?_,?_⟩<;>rw[aq h]<;>rfl
theorem aC.lt(h:aC w sb pb name sz):sb<w.heap.size:=by
 obtain⟨t,h⟩:=h;exact(Array.getElem?_eq_some_iff.1 h).1
theorem aC.kept(h:aC w sb pb name sz)(hb:w'.heap[sb]? = w.heap[sb]?):aC w' sb pb name sz:=by
 obtain⟨t,h⟩:=h;exact⟨t,hb.trans h⟩
theorem aC.below(h:aC w sb pb name sz)(hb:Below w.heap.size w w'):aC w' sb pb name sz:=h.kept (hb.block _ h.lt)
theorem aC.moved(h:aC w sb pb name sz)(hm:au S n pb db w o d w' o' d' L')(ho:o sb=none)(hs:¬S sb):aC w' sb pb name sz:=h.kept (hm.block h.lt ho hs)
theorem aQ.dJ(h:aQ w pb db n o d L){ps:List Pg}{fl:Bool}(hL:aB L name=some (.inl (ps,fl))):ps.length<=65536/\im ps:=by
 obtain⟨_,_,_,_,_,_,_,g⟩:=h;obtain⟨f,dp,q⟩:=g.dJ _ _ _ hL;exact⟨q.most,q.short⟩
theorem kP(h:aQ w pb db n o d L){ps:List Pg}{fl:Bool}(hL:aB L name=some (.inl (ps,fl))) :
 Calls prog 92 #[ptrTo pb,.string name] w fun e w'=>e=.returned (.tuple #[.int .i64 ((ew d ps).1:Int),.int .i64 ((ew d ps).2:Int)])/\Below w.heap.size w w':=by
 obtain⟨_,_,_,_,_,hp,_,g⟩:=h;exact qD hp g hL
theorem Ci(h:aQ w pb db n o d L)(name:Name)(hs:name.size<=1000) :
 Calls prog 92 #[ptrTo pb,.string name] w fun e w'=>(∃k:Nat,e=.returned (.tuple #[.int .i64 (k:Int),.int .i64 (cC d name:Int)]))/\Below w.heap.size w w':=by
 obtain⟨_,_,_,_,_,hp,_,g⟩:=h;exact(Dg hp (fun p hp=>(g.vW p hp).2) name hs).mono fun e w' ⟨h1,h2⟩=>⟨⟨_,h1⟩,h2⟩
theorem gS(h:aQ w pb db n o d L){ps:List Pg}{fl:Bool}(hL:aB L name=some (.inl (ps,fl))):cC d name=if d.dead=true then 6 else 0:=by
 obtain⟨_,_,_,_,_,_,_,g⟩:=h;obtain⟨f,dp,q,lU,kC⟩:=g.zU hL;cases hd:d.dead with
 |true=>rw[(kC hd).2];rfl
 |false=>rw[(lU hd).2];rfl
def dF(w:World)(pb:Nat)(name:Name)(sz:Nat)(c:Nat)(e:Ending)(w':World):Prop:=
 ∃v,e=.returned (.tuple #[v,.int .i64 (c:Int)])/\Below w.heap.size w w'/\(c=0->∃sb,v=ptrTo sb/\aC w' sb pb name sz/\w.heap.size<=sb)/\(c≠0->v=.pointer none)
theorem dG(h:aQ w pb db n o d L)(name:Name)(hs:name.size<=1000)(h1:1<=sz)(h2:sz<=240) :
 Calls prog 67 #[ptrTo pb,.string name,.int .i64 (sz:Int)] w (dF w pb name sz (cC d name)):=by
 have aN:=aa (Ci h name hs);have g1:¬((sz:Int)<1):=by omega
 have g2:¬((sz:Int)>240):=by omega
 clear h;unfold ptrTo at *;generalize hC:cC d name=c at *;clear hC;by_cases hc:c=0
 ·subst hc;go_enter func67,ntmps67;go_wp2_with fail;refine aN.o.mono ?_;rintro e w1⟨⟨k,rfl⟩,hb⟩;have HB:=aa hb;clear hb;go_wp2;go_ret2;refine⟨_,rfl,HB.o.alloc HB.o.size _,fun _=>⟨w1.heap.size,rfl,⟨_,heap_alloc_new w1 _⟩,HB.o.size⟩,fun h=>absurd rfl h⟩
 ·have hc':¬(c:Int)=0:=by omega
  have HC:=aa hc;clear hc;go_enter func67,ntmps67;go_wp2_with fail;refine aN.o.mono ?_;rintro e w1⟨⟨k,rfl⟩,hb⟩;have HB:=aa hb;clear hb;go_wp2;go_ret2;exact⟨_,rfl,HB.o,fun h=>absurd h HC.o,fun _=>rfl⟩
theorem sf(h:aC w sb pb name sz)(h1:1<=sz)(h2:sz<=240):Calls prog 94 #[ptrTo sb] w fun e w'=>e=.returned (.int .i64 (eQ sz:Int))/\w=w':=by
 obtain⟨-,-,hc2⟩:=h.cells;have e1:(240:Int).tdiv (sz:Int)=(eQ sz:Int):=by
  unfold eQ;rw[Int.tdiv_eq_ediv_of_nonneg ae];rfl
 clear h;have hz:¬(sz:Int)=0:=by omega
 unfold ptrTo;have acN:eQ sz<=240:=Nat.div_le_self _ _;generalize hp:eQ sz=p at *;clear hp;have e2:wrap64 (p:Int)=(p:Int):=by unfold wrap64;omega
 go_enter func94,ntmps94;go_wp2;go_ret;exact⟨rfl,rfl⟩
def xR(n pb db:Nat)(w:World)(o:ar)(d:Dsk)(L:aD)(R:Nat->Ending->World->ar->Prop)(e:Ending)(w':World):Prop:=
 ∃c d' o',R c e w' o'/\au (fun _=>False) n pb db w o d w' o' d' L/\(c=0\/kI d d' L c)
def xS(k:Nat)(c:Nat)(e:Ending)(_:World)(_:ar):Prop:=∃x:Nat,e=.returned (.tuple #[.int .i64 (x:Int),.int .i64 (c:Int)])/\(c=0->x=k)
theorem jn(hp:aQ w' pb db n o' d' L')(ht:aH (o.In cB) w w')(hg:cw w.heap.size o o')(yD:bK d d'):au S n pb db w o d w' o' d' L':=
 ⟨hp,ht.mono (fun _ _ h=>.inl h),hg,yD⟩
theorem Ab{rs:List Rec}(hs:gF sz rs)(h1:1<=sz)(h2:sz<=240)(hN:0<rs.length) :
 ∃(q m:Nat)(b:Pg),(bz (eQ sz) rs).length=q+1/\(bz (eQ sz) rs)[q]? = some b/\b.length=sz*m/\1<=m/\m<=eQ sz/\q*eQ sz+m=rs.length/\b=(rs.drop (eQ sz*q)).flatten:=by
 have hp:=ru h1 h2;obtain⟨g1,g2,g3⟩:=NC hp hN;refine⟨cA (eQ sz) rs.length-1,rs.length-eQ sz*(cA (eQ sz) rs.length-1),_,?_,by rw[iR hp,if_pos g1],?_,ae,ae,by rw[Nat.mul_comm];omega,?_⟩
 ·rw[dW];omega
 ·rw[qA hs,Nat.min_eq_right ae]
 ·rw[List.take_of_length_le (by rw[List.length_drop];omega)]
theorem iq(HW:aP)(h:aQ w pb db n o d L)(hst:aC w sb pb name sz)(ho:o sb=none)(h1:1<=sz)(h2:sz<=240){rs:List Rec}{fl:Bool}(hL:aB L name=some (.inl (bz (eQ sz) rs,fl)))(hs:gF sz rs) :
 Calls prog 59 #[ptrTo sb] w (xR n pb db w o d L (xS rs.length)):=by
 obtain⟨jg,Ac⟩:=h.dJ hL;have aN:Hid (∀W,Below w.heap.size w W->Calls prog 92 #[ptrTo pb,.string name] W fun e w'=>e=.returned (.tuple #[.int .i64 ((ew d (bz (eQ sz) rs)).1:Int),.int .i64 ((ew d (bz (eQ sz) rs)).2:Int)])/\Below W.heap.size W w'):=aa (fun W hW=>kP (h.below hW) hL);have mL:Hid (∀W,Below w.heap.size w W->∀(k:Nat)(b:Pg),(bz (eQ sz) rs)[k]? = some b->Calls prog 93 #[ptrTo pb,.string name,.int .i64 (k:Int)] W (gR W pb db n o d L b)):=aa (fun W hW k b hk=>pz HW (h.below hW) hL hk);have H:=aa h;have HST:=aa hst;have HO:=aa ho;have Ew:=aa (fun hN=>Ab (rs:=rs) hs h1 h2 hN);have U2:=aa (fun W(hW:aC W sb pb name sz)=>sf hW h1 h2);have mz:=tT sz;have T4:=hst.lt;clear h hst ho hL hs Ac;unfold ptrTo at *;unfold ew at aN;cases hd:d.dead with
 |true=>
   rw[hd,if_pos rfl]at aN;have HD:=aa hd;clear hd;dsimp only at aN;go_enter func59,ntmps59;go_wp2;refine wq w ?_;iterate 3 (refine qz ?_)
   refine qz ?_ (fun w' hw'=>by have hc:=(HST.o.below hw').cells.1;unfold ptrTo at hc;go_simp<;>rfl);iterate 3 (refine qz ?_)
   refine qz ?_ (fun w' hw'=>by have hc:=(HST.o.below hw').cells.2.1;go_simp<;>rfl);refine qw (fun w' hw'=>(aN.o w' hw').mono (fun e w'' h=>⟨h.1,hw'.trans (h.2.mono hw'.size)⟩)) ?_;iterate 5 (refine qz ?_)
   refine wpQuiet_nil ?_;intro w1 rN;have HB:=aa rN;clear rN;go_wp2;go_ret2;exact⟨6,d,o,⟨0,rfl,fun h=>absurd h af⟩,au.aW H.o HB.o,.inr (.inr ⟨rfl,HD.o⟩)⟩
 |false=>
   rw[hd,if_neg ah]at aN;clear hd;dsimp only at aN;rcases Nat.eq_zero_or_pos rs.length with hz | hN
   ·have hP:(bz (eQ sz) rs).length=0:=by
     rw[dW,hz];unfold cA;have:=ru h1 h2;rw[Nat.div_eq_of_lt ae]
    rw[hP]at aN;have HZ:=aa hz;clear hz hP jg;go_enter func59,ntmps59;go_wp2;refine wq w ?_;iterate 3 (refine qz ?_)
    refine qz ?_ (fun w' hw'=>by have hc:=(HST.o.below hw').cells.1;unfold ptrTo at hc;go_simp<;>rfl);iterate 3 (refine qz ?_)
    refine qz ?_ (fun w' hw'=>by have hc:=(HST.o.below hw').cells.2.1;go_simp<;>rfl);refine qw (fun w' hw'=>(aN.o w' hw').mono (fun e w'' h=>⟨h.1,hw'.trans (h.2.mono hw'.size)⟩)) ?_;iterate 5 (refine qz ?_)
    refine wpQuiet_nil ?_;intro w1 rN;have HB:=aa rN;clear rN;go_wp2;go_ret2;exact⟨0,d,o,⟨0,rfl,fun _=>HZ.o.symm⟩,au.aW H.o HB.o,.inl rfl⟩
   ·obtain⟨q,m,b,f1,f2,f3,f4,f5,f6,-⟩:=Ew.o hN;have Km:Hid (∀W,Below w.heap.size w W->Calls prog 93 #[.pointer (some ⟨pb,0,none⟩),.string name,.int .i64 (q:Int)] W (gR W pb db n o d L b)):=aa (fun W hW=>mL.o W hW q b f2);have hq:q<=65536:=by omega
    have hm:sz*m<=240:=Nat.le_trans (Nat.mul_le_mul_left sz f5) mz;have rS:1<=sz*m:=Nat.mul_pos ae ae;have e1:(sz*m)/sz=m:=Nat.mul_div_cancel_left m ae;have e2:(sz*m)%sz=0:=Nat.mul_mod_right sz m;have hN':rs.length<=16777216:=by
     have:eQ sz<=240:=Nat.div_le_self _ _;have:=Nat.mul_le_mul hq this;omega
    generalize hPP:(bz (eQ sz) rs).length=P at *;rw[<- f3]at hm rS e1 e2;generalize Xm:b.length=B at *;generalize Y2:rs.length=N at *;generalize hpe:eQ sz=p at *;have hT:q*p<=N:=by omega
    generalize hTT:q*p=T at *;have hwq:IntKind.i64.wrap ((P:Int)-1)=(q:Int):=by rw[ax ae ae];omega
    have hwm:IntKind.i64.wrap ((q:Int)*(p:Int))=(T:Int):=by rw[<- Int.natCast_mul,hTT];exact ax ae ae
    have hwd:(B:Int).tdiv (sz:Int)=(m:Int):=by rw[Int.tdiv_eq_ediv_of_nonneg ae,<- Int.natCast_ediv,e1]
    have hwr:(B:Int).tmod (sz:Int)=0:=by rw[Int.tmod_eq_emod_of_nonneg ae,<- Int.natCast_emod,e2];rfl
    have Rf:(B:Int)%(sz:Int)=0:=by rw[<- Int.natCast_emod,e2];rfl
    have hwa:IntKind.i64.wrap ((T:Int)+(m:Int))=(N:Int):=by rw[ax ae ae];omega
    have hB0:¬(B:Int)=0:=by omega
    have hz0:¬(sz:Int)=0:=by omega
    have hP0:¬(P:Int)=0:=by omega
    have Ad:=aa Xm;have acQ:Hid (IntKind.i64.wrap (m:Int)=(m:Int)):=aa (ax ae ae);have NT:=aa hwq;have Y3:=aa hwm;have ahQ:=aa hwd;have Y4:=aa hwr;have Rg:=aa Rf;have Y5:=aa hwa;clear hPP Y2 hpe hTT Xm f1 f2 f3 f6 e1 e2 hwq hwm hwd hwr Rf hwa;go_enter func59,ntmps59;go_wp2;refine wq w ?_;iterate 3 (refine qz ?_)
    refine qz ?_ (fun w' hw'=>by have hc:=(HST.o.below hw').cells.1;unfold ptrTo at hc;go_simp<;>rfl);iterate 3 (refine qz ?_)
    refine qz ?_ (fun w' hw'=>by have hc:=(HST.o.below hw').cells.2.1;go_simp<;>rfl);refine qw (fun w' hw'=>(aN.o w' hw').mono (fun e w'' h=>⟨h.1,hw'.trans (h.2.mono hw'.size)⟩)) ?_;iterate 5 (refine qz ?_)
    refine wpQuiet_nil ?_;intro w1 rN;have cT:=aa rN;have Cj:=aa (HST.o.below rN);clear rN;go_wp2;refine cG (Below w1.heap.size w1) 10 rfl ag ag (aj.drew) ?_;simp only[List.take_succ_cons,List.take_zero];iterate 3 (refine qz ?_)
    refine qz ?_ (fun w' hw'=>by have hc:=(Cj.o.below hw').cells.1;unfold ptrTo at hc;go_simp<;>rfl);iterate 3 (refine qz ?_)
    refine qz ?_ (fun w' hw'=>by have hc:=(Cj.o.below hw').cells.2.1;go_simp<;>rfl);refine qz ?_;refine qz ?_ (fun w' hw'=>by have hx:=NT.o;go_simp<;>rfl);refine wpQuiet_nil ?_;intro w2 hw2;refine⟨_,_,rfl,(by go_simp<;>exact⟨rfl,rfl⟩),?_⟩;have cZ:Hid (Below w.heap.size w w2):=aa (cT.o.trans (hw2.mono cT.o.size));refine(Km.o w2 cZ.o).mono ?_;rintro e w3⟨v3,c3,d3,o3,rfl,PJ,yJ,hg3,acR,Dm,uk,Ae⟩;have eC:Hid (au (fun _=>False) n pb db w o d w3 o3 d3 L):=aa ((au.aW H.o cZ.o).trans (jn (S:=fun _=>False) PJ yJ hg3 acR) (fun _ _ h=>h));have Ck:=aa Dm;have um:=aa (HST.o.moved eC.o HO.o (fun h=>h));clear hw2 PJ yJ hg3 acR Dm;by_cases hc3:c3=0
    ·subst hc3;obtain⟨iN,-⟩:=uk rfl;rw[Ad.o]at iN;obtain⟨a3,k3,rfl⟩:=az iN;clear uk Ae iN;refine⟨_,rfl,?_⟩;go_simp;iterate 5 (refine qz ?_)
     refine wpQuiet_nil ?_;have hx:=Y4.o;have hx2:=Rg.o;have hc:=um.o.cells.2.2;go_wp2;clear hx hx2;refine wq w3 ?_;refine qz ?_;refine qz ?_ (fun w' hw'=>by have hx:=NT.o;go_simp<;>rfl);refine qz ?_;refine qw (fun w' hw'=>(U2.o w' (um.o.below hw')).mono (fun e w'' h=>⟨h.1,h.2▸hw'⟩)) ?_;refine qz ?_ (fun w' hw'=>by have hx:=Y3.o;go_simp<;>rfl);iterate 5 (refine qz ?_)
     refine qz ?_ (fun w' hw'=>by have hc:=(um.o.below hw').cells.2.2;go_simp<;>rfl);refine qz ?_ (fun w' hw'=>by have hx:=ahQ.o;have hx2:=acQ.o;go_simp<;>rfl);refine qz ?_ (fun w' hw'=>by have hx:=Y5.o;go_simp<;>rfl);iterate 2 (refine qz ?_)
     refine wpQuiet_nil ?_;intro w4 hw4;go_wp2;go_ret2;exact⟨0,d3,o3,⟨N,rfl,fun _=>rfl⟩,eC.o.below hw4,.inl rfl⟩
    ·obtain rfl:=Ae hc3;have Kn:¬(c3:Int)=0:=by omega
     have JD:=aa hc3;clear hc3 uk Ae;refine⟨_,rfl,?_⟩;go_simp;iterate 5 (refine qz ?_)
     refine wpQuiet_nil ?_;go_wp2;go_ret2;exact⟨c3,d3,o3,⟨0,rfl,fun h=>absurd h JD.o⟩,eC.o,Ck.o⟩
end
end
section
open Go.RowKit Go.Maps Go.MapKept
section
variable {S:Nat->Prop} {w w':World} {sb pb db n sz:Nat} {name:Name} {o o':ar} {d d':Dsk} {L L':aD}
theorem Dp{rs:List Rec}(hs:gF sz rs)(h1:1<=sz)(h2:sz<=240){i:Nat}(hi:i<rs.length) :
 ∃b:Pg,(bz (eQ sz) rs)[i/eQ sz]? = some b/\b.length%sz=0/\sz*(i%eQ sz)+sz<=b.length/\(b.drop (sz*(i%eQ sz))).take sz=rs[i]/\b.length<=240:=by
 have hp:=ru h1 h2;obtain⟨g1,g2,g3⟩:=QJ hs hp hi;refine⟨_,by rw[iR hp,if_pos g1],?_,g3,g2,?_⟩
 ·rw[qA hs];exact Nat.mul_mod_right _ _
 ·rw[qA hs];exact Nat.le_trans (Nat.mul_le_mul_left sz (Nat.min_le_left _ _)) (tT sz)
def Y6(n pb db:Nat)(w:World)(o:ar)(d:Dsk)(L:aD)(b:Pg)(k a:Nat)(e:Ending)(w':World):Prop:=
 ∃v c d' o',e=.returned (.tuple #[v,.int .i64 ((if c=0 then k else 0:Nat):Int),.int .i64 ((if c=0 then a else 0:Nat):Int),.int .i64 ((c:Nat):Int)])/\au (fun _=>False) n pb db w o d w' o' d' L/\(c=0\/kI d d' L c) /\
  (c=0->w'.ownsRow w.heap.size 5 1 v b.length (b.map bv)/\∀x,v.ownBlock=some x->o' x=none)
theorem Cl(HW:aP)(h:aQ w pb db n o d L)(hst:aC w sb pb name sz)(ho:o sb=none)(h1:1<=sz)(h2:sz<=240){rs:List Rec}{fl:Bool}(hL:aB L name=some (.inl (bz (eQ sz) rs,fl)))(hs:gF sz rs){i:Nat}(hi:i<rs.length){b:Pg}(hb:(bz (eQ sz) rs)[i/eQ sz]? = some b) :
 Calls prog 90 #[ptrTo sb,.int .i64 (i:Int)] w (Y6 n pb db w o d L b (i/eQ sz) (sz*(i%eQ sz))):=by
 obtain⟨jg,Ac⟩:=h.dJ hL;have aN:Hid (∀W,Below w.heap.size w W->Calls prog 92 #[ptrTo pb,.string name] W fun e w'=>e=.returned (.tuple #[.int .i64 ((ew d (bz (eQ sz) rs)).1:Int),.int .i64 ((ew d (bz (eQ sz) rs)).2:Int)])/\Below W.heap.size W w'):=aa (fun W hW=>kP (h.below hW) hL);have mL:Hid (∀W,Below w.heap.size w W->Calls prog 93 #[ptrTo pb,.string name,.int .i64 ((i/eQ sz:Nat):Int)] W (gR W pb db n o d L b)):=aa (fun W hW=>pz HW (h.below hW) hL hb);have H:=aa h;have HST:=aa hst;have HO:=aa ho;obtain⟨b',hb',f1,f2,-,f4⟩:=Dp hs h1 h2 hi;obtain rfl:b'=b:=by rw[hb]at hb';exact(Option.some.inj hb').symm
 have U2:=aa (fun W(hW:aC W sb pb name sz)=>sf hW h1 h2);have mz:=tT sz;have zE:=ru h1 h2;have acN:eQ sz<=240:=Nat.div_le_self _ _;have T4:=hst.lt;have hkP:=aM hb;have hN':rs.length<=16777216:=by
  have h3:rs.length<=eQ sz*(bz (eQ sz) rs).length:=by
   rw[dW];exact Nat.le_of_not_lt (fun h=>Nat.lt_irrefl _ ((fe zE).2 h))
  have h4:eQ sz<=240:=Nat.div_le_self _ _;have:=Nat.mul_le_mul h4 jg;omega
 have Nv:i/eQ sz<=i:=Nat.div_le_self _ _;have hr1:i%eQ sz<eQ sz:=Nat.mod_lt _ ae;have hr2:sz*(i%eQ sz)<=240:=Nat.le_trans (Nat.mul_le_mul_left sz (Nat.le_of_lt hr1)) mz;have hwk:(i:Int).tdiv (eQ sz:Int)=((i/eQ sz:Nat):Int):=by rw[Int.tdiv_eq_ediv_of_nonneg ae,Int.natCast_ediv]
 have hwm:(i:Int).tmod (eQ sz:Int)=((i%eQ sz:Nat):Int):=by rw[Int.tmod_eq_emod_of_nonneg ae,Int.natCast_emod]
 have hwa:IntKind.i64.wrap (((i%eQ sz:Nat):Int)*(sz:Int))=((sz*(i%eQ sz):Nat):Int):=by rw[<- Int.natCast_mul,Nat.mul_comm];exact ax ae ae
 have hwr:(b'.length:Int).tmod (sz:Int)=0:=by rw[Int.tmod_eq_emod_of_nonneg ae,<- Int.natCast_emod,f1];rfl
 have Rf:(b'.length:Int)%(sz:Int)=0:=by rw[<- Int.natCast_emod,f1];rfl
 clear h hst ho hL hs Ac hb hb' f1;unfold ptrTo at *;unfold ew at aN;generalize Xm:b'.length=B at *;have Ad:=aa Xm;clear Xm;generalize (bz (eQ sz) rs).length=P at *;generalize i/eQ sz=k at *;generalize i%eQ sz=r at *;generalize eQ sz=p at *;obtain⟨a,ha⟩:∃a,a=sz*r:=⟨_,rfl⟩;rw[<- ha]at hr2 f2 hwa ⊢;have ahR:=aa hwk;have Y3:=aa hwm;have Y5:=aa hwa;have Y4:=aa hwr;have Rg:=aa Rf;have aoI:i<16777216:=by omega
 clear hwk hwm hwa hwr Rf ha hi hN';have rV:¬((i:Int)<0):=by omega
 have aoJ:¬((k:Int) >= (P:Int)):=by omega
 have haB:¬((a:Int) >= (B:Int)):=by omega
 have hz0:¬(sz:Int)=0:=by omega
 have hpn:¬p=0:=by omega
 have ahS:Hid (IntKind.i64.wrap (k:Int)=(k:Int)):=aa (ax ae ae);have ahT:Hid (IntKind.i64.wrap (r:Int)=(r:Int)):=aa (ax ae ae);cases hd:d.dead with
 |true=>
   rw[hd,if_pos rfl]at aN;have HD:=aa hd;clear hd;dsimp only at aN;go_enter func90,ntmps90;go_wp2;refine wq w ?_;iterate 3 (refine qz ?_)
   refine qz ?_ (fun w' hw'=>by have hc:=(HST.o.below hw').cells.1;unfold ptrTo at hc;go_simp<;>rfl);iterate 3 (refine qz ?_)
   refine qz ?_ (fun w' hw'=>by have hc:=(HST.o.below hw').cells.2.1;go_simp<;>rfl);refine qw (fun w' hw'=>(aN.o w' hw').mono (fun e w'' h=>⟨h.1,hw'.trans (h.2.mono hw'.size)⟩)) ?_;iterate 5 (refine qz ?_)
   refine wpQuiet_nil ?_;intro w1 rN;have HB:=aa rN;clear rN;go_wp2;go_returns;exact⟨_,6,d,o,rfl,au.aW H.o HB.o,.inr (.inr ⟨rfl,HD.o⟩),fun h=>absurd h af⟩
 |false=>
   rw[hd,if_neg ah]at aN;clear hd;dsimp only at aN;go_enter func90,ntmps90;go_wp2;refine wq w ?_;iterate 3 (refine qz ?_)
   refine qz ?_ (fun w' hw'=>by have hc:=(HST.o.below hw').cells.1;unfold ptrTo at hc;go_simp<;>rfl);iterate 3 (refine qz ?_)
   refine qz ?_ (fun w' hw'=>by have hc:=(HST.o.below hw').cells.2.1;go_simp<;>rfl);refine qw (fun w' hw'=>(aN.o w' hw').mono (fun e w'' h=>⟨h.1,hw'.trans (h.2.mono hw'.size)⟩)) ?_;iterate 5 (refine qz ?_)
   refine wpQuiet_nil ?_;intro w1 rN;have cT:=aa rN;have Cj:=aa (HST.o.below rN);clear rN;go_wp2;refine wq w1 ?_;iterate 2 (refine qz ?_)
   refine qw (fun w' hw'=>(U2.o w' (Cj.o.below hw')).mono (fun e w'' h=>⟨h.1,h.2▸hw'⟩)) ?_;refine qz ?_ (fun w' hw'=>by have hx:=ahR.o;have hx2:=hpn;have hx3:=ahS.o;go_simp<;>rfl);iterate 2 (refine qz ?_)
   refine qw (fun w' hw'=>(U2.o w' (Cj.o.below hw')).mono (fun e w'' h=>⟨h.1,h.2▸hw'⟩)) ?_;refine qz ?_ (fun w' hw'=>by have hx:=Y3.o;have hx2:=hpn;have hx3:=ahT.o;go_simp<;>rfl);iterate 3 (refine qz ?_)
   refine qz ?_ (fun w' hw'=>by have hc:=(Cj.o.below hw').cells.2.2;go_simp<;>rfl);refine qz ?_ (fun w' hw'=>by have hx:=Y5.o;go_simp<;>rfl);iterate 2 (refine qz ?_)
   refine wpQuiet_nil ?_;intro w2 hw2;have cZ:Hid (Below w.heap.size w w2):=aa (cT.o.trans (hw2.mono cT.o.size));have nC:=aa (Cj.o.below hw2);clear hw2;go_wp2;refine cG (Below w2.heap.size w2) 9 rfl ag ag (aj.drew) ?_;simp only[List.take_succ_cons,List.take_zero];iterate 3 (refine qz ?_)
   refine qz ?_ (fun w' hw'=>by have hc:=(nC.o.below hw').cells.1;unfold ptrTo at hc;go_simp<;>rfl);iterate 3 (refine qz ?_)
   refine qz ?_ (fun w' hw'=>by have hc:=(nC.o.below hw').cells.2.1;go_simp<;>rfl);refine qz ?_;refine wpQuiet_nil ?_;intro w3 hw3;refine⟨_,_,rfl,(by go_simp<;>exact⟨rfl,rfl⟩),?_⟩;have jF:Hid (Below w.heap.size w w3):=aa (cZ.o.trans (hw3.mono cZ.o.size));refine(mL.o w3 jF.o).mono ?_;rintro e w4⟨v4,c4,d4,o4,rfl,oW,tK,hg4,uh,vp,Cm,Af⟩;have gp:Hid (au (fun _=>False) n pb db w o d w4 o4 d4 L):=aa ((au.aW H.o jF.o).trans (jn (S:=fun _=>False) oW tK hg4 uh) (fun _ _ h=>h));have Cg:=aa vp;have Ex:=aa (HST.o.moved gp.o HO.o (fun h=>h));clear hw3 oW tK hg4 uh vp;by_cases ik:c4=0
   ·subst ik;obtain⟨Bw,C9⟩:=Cm rfl;have HF4:=aa C9;rw[Ad.o]at Bw;obtain⟨a4,k4,rfl⟩:=az Bw;have T9:=aa Bw;clear Cm Af Bw C9;refine⟨_,rfl,?_⟩;go_simp;iterate 5 (refine qz ?_)
    refine wpQuiet_nil ?_;have hx:=Y4.o;have hx2:=Rg.o;have hc:=Ex.o.cells.2.2;go_wp2;go_returns;exact⟨_,0,d4,o4,rfl,gp.o,.inl rfl,fun _=>⟨by rw[Ad.o];exact aU T9.o jF.o.size,HF4.o⟩⟩
   ·obtain rfl:=Af ik;have ui:¬(c4:Int)=0:=by omega
    have BG:=aa ik;clear ik Cm Af;refine⟨_,rfl,?_⟩;go_simp;iterate 5 (refine qz ?_)
    refine wpQuiet_nil ?_;go_wp2;go_returns;exact⟨_,c4,d4,o4,by rw[if_neg BG.o,if_neg BG.o];rfl,gp.o,Cg.o,fun h=>absurd h BG.o⟩
def uo(n pb db:Nat)(w:World)(o:ar)(d:Dsk)(L:aD)(r:Rec)(e:Ending)(w':World):Prop:=
 ∃v c d' o',e=.returned (.tuple #[v,.int .i64 ((c:Nat):Int)])/\au (fun _=>False) n pb db w o d w' o' d' L/\(c=0\/kI d d' L c) /\
  (c=0->w'.ownsRow w.heap.size 5 1 v r.length (r.map bv)/\∀x,v.ownBlock=some x->o' x=none)/\(c≠0->v=.slice none 0 0)
theorem Cn(w:World)(e:TypeId)(base:Nat)(hb:base<=w.heap.size):(w.alloc (.cells #[] e)).ownsRow base e 1 (.slice (some ⟨w.heap.size,0,none⟩) 0 0) 0 []:=
 ⟨rfl,.inr ⟨w.heap.size,0,#[],rfl,hb,heap_alloc_new w _,Nat.le_refl _,by unfold maxLen;omega,rfl,rfl⟩⟩
theorem jo(HW:aP)(h:aQ w pb db n o d L)(hst:aC w sb pb name sz)(ho:o sb=none)(h1:1<=sz)(h2:sz<=240){rs:List Rec}{fl:Bool}(hL:aB L name=some (.inl (bz (eQ sz) rs,fl)))(hs:gF sz rs){i:Nat}(hi:i<rs.length) :
 Calls prog 57 #[ptrTo sb,.int .i64 (i:Int)] w (uo n pb db w o d L rs[i]):=by
 obtain⟨b,hb,f1,f2,f3,f4⟩:=Dp hs h1 h2 hi;have aN:=aa (Cl HW h hst ho h1 h2 hL hs hi hb);have Gp:rs[i].length=sz:=hs _ (List.getElem_mem hi);have HST:=aa hst;have HO:=aa ho;generalize rs[i]=r at *;clear h hst ho hL hs hi hb f1;unfold ptrTo at *;generalize sz*(i%eQ sz)=a at *;generalize i/eQ sz=k at *;have HRL:=aa Gp;have HF3:=aa f3;have hwx:IntKind.i64.wrap ((a:Int)+(sz:Int))=((a+sz:Nat):Int):=by rw[ax ae ae];omega
 clear Gp f3 hwx;go_enter func57,ntmps57;go_wp2_with fail;refine aN.o.mono ?_;rintro e w1⟨v1,c1,d1,o1,rfl,ee,tA,uq⟩;have eu:=aa ee;have Dk:=aa tA;have Ey:=aa (HST.o.moved ee HO.o (fun h=>h));clear ee tA;by_cases hc1:c1=0
 ·subst hc1;obtain⟨k9,tP⟩:=uq rfl;rw[if_pos rfl,if_pos rfl];obtain⟨a1,k1,rfl⟩:=az k9;have Dq:=aa k9;have ny:=aa (fw k9);obtain⟨va,vc,Co,UU,hvm,Xb⟩:=fw k9;cases Co;unfold maxLen at hvm;obtain Xb |⟨vb,acS,rfl,-⟩:=Xb
  ·omega
  have hc:=Ey.o.cells.2.2;have acT:=Ey.o.lt;have hwx:IntKind.i64.wrap ((a:Int)+(sz:Int))=(a:Int)+(sz:Int):=ax ae ae;have ahU:Hid (Rd w1 (.slice (some ⟨vb,acS+a,none⟩) (a+sz-a) (k1-a)) r):=aa (by
   rw[Nat.add_sub_cancel_left];have:=ny.o.sub (i:=a) (k:=sz) ae;rw[HF3.o]at this;simpa[bG]using this)
  have Rh:=aa tP;have Ua:Hid (w.heap.size<=w1.heap.size):=aa eu.o.size;generalize Xm:b.length=B at *;have Ad:=aa Xm;have haB:(a:Int)+(sz:Int)<=(B:Int):=by omega
  have hak:(a:Int)+(sz:Int)<=(k1:Int):=by omega
  have hka:¬k1=a:=by omega
  have aoN:a<k1:=by omega
  clear uq k9 tP Xm;go_wp2_with (at_builtin;refine jM rfl _ _ 39 rfl w1.heap.size 5 Tryz.underlying39 k8 _ 0 [] rfl (Cn w1 5 w1.heap.size (Nat.le_refl _)) (.slice (some ⟨vb,acS+a,none⟩) (a+sz-a) (k1-a)) r rfl (ahU.o.below ai) ?c1 ?c2 ?_);case c1=>rw[HRL.o];omega
  case c2=>simp
  intro v' w2 kr hg2 hw2;have qd:=aa kr;have eB:Hid (au (fun _=>False) n pb db w o d w2 o1 d1 L):=aa ((eu.o.alloc _).grown hg2 (fun k hk=>by
   cases hk;exact⟨eu.o.aX.fresh (Nat.le_refl _),.inr Ua.o⟩))
  have Ri:Hid (∀x,v'.ownBlock=some x->o1 x=none):=aa (fun x hx=>by
   rcases hw2 with e | e
   ·rw[e]at hx;cases hx;exact eu.o.aX.fresh (Nat.le_refl _)
   ·rw[e]at hx;cases hx;exact eu.o.aX.fresh ah)
  clear kr hg2 hw2;go_wp2;go_ret2;refine⟨v',0,d1,o1,rfl,eB.o,.inl rfl,fun _=>⟨?_,Ri.o⟩,fun h=>absurd rfl h⟩;have:=aU qd.o Ua.o;simpa using this
 ·have zC:¬(c1:Int)=0:=by omega
  have Rj:=aa hc1;clear hc1 uq;go_wp2;go_ret2;exact⟨_,c1,d1,o1,rfl,eu.o,Dk.o,fun h=>absurd h Rj.o,fun _=>rfl⟩
end
end
section
open Go.RowKit Go.Maps Go.MapKept
section
variable {S:Nat->Prop} {w w':World} {sb pb db n sz:Nat} {name:Name} {o o':ar} {d d':Dsk} {L L':aD}
def Ag(w:World)(base:Nat)(v:Value)(b r:List UInt8)(e:Ending)(w':World):Prop:=
 ∃v',e=.returned v'/\w'.ownsRow base 5 1 v' (b.length+r.length) ((b++r).map bv)/\w.grownBy w' v.ownBlock/\(v'.ownBlock=v.ownBlock\/v'.ownBlock=some w.heap.size)
theorem Ko{base bx:Nat}{v rv:Value}{b r:List UInt8}(hc:w.cell? ⟨bx,0,none⟩=some rv)(hr:Rd w rv r)(hown:w.ownsRow base 5 1 v b.length (b.map bv))(hb:base<=w.heap.size)(hl:b.length+r.length<=1073741824) :
 Calls prog 106 #[v,.pointer (some ⟨bx,0,none⟩)] w (Ag w base v b r):=by
 have HO:=aa hown;have HR:=aa hr;obtain⟨ra,rc,rfl,-⟩:=hr;obtain⟨va,vc,rfl⟩:=az hown;clear hown;generalize Gp:r.length=R at *;have HRL:=aa Gp;clear Gp;go_enter func106,ntmps106;go_wp2_with (at_builtin;refine jM rfl _ _ 39 rfl base 5 Tryz.underlying39 k8 _ b.length _ rfl HO.o _ r rfl HR.o ?c1 ?c2 ?_);case c1=>have:=HRL.o;omega
 case c2=>exact hb
 intro v' w1 k9 hg1 rN;have Dq:=aa k9;have JB:=aa hg1;have NU:=aa rN;clear k9 hg1 rN;go_wp2;go_ret;refine⟨v',rfl,?_,JB.o,NU.o⟩;rw[List.map_append];exact Dq.o
def jq(S:Nat->Prop)(n pb db:Nat)(w:World)(o:ar)(d:Dsk)(L L':aD)(e:Ending)(w':World):Prop:=
 ∃c d' o',e=.returned (.int .i64 ((c:Nat):Int))/\au S n pb db w o d w' o' d' (if c=0 then L' else L)/\(c=0\/kI d d' L c)
theorem G5(HW:aP)(h:aQ w pb db n o d L)(hst:aC w sb pb name sz)(ho:o sb=none){ps:List Pg}{fl:Bool}(hL:aB L name=some (.inl (ps,fl))){k:Nat}(hk:k<=ps.length)(BX:k<65536){base bx:Nat}{v rv:Value}{b r:List UInt8}(hc:w.cell? ⟨bx,0,none⟩=some rv)(hr:Rd w rv r)(hown:w.ownsRow base 5 1 v b.length (b.map bv))(my:∀x,v.ownBlock=some x->o x=none/\x≠sb)(hb:base<=w.heap.size)(hl:b.length+r.length<=240) :
 Calls prog 107 #[ptrTo sb,.int .i64 (k:Int),v,.func (.func 106) #[] #[.pointer (some ⟨bx,0,none⟩)]] w (jq (fun x=>v.ownBlock=some x) n pb db w o d L (aS L name (.inl (dr ps k (b++r),false)))):=by
 have H:=aa h;have vV:=aa my;have HHR:=aa hr;have vP:=aa hown;have hc':=aa hc;obtain⟨hc0,hc1,-⟩:=hst.cells;unfold ptrTo at hc0;have hwr:Hid (∀W o' ,aQ W pb db n o' d L->∀v',W.ownsRow base 5 1 v' (b.length+r.length) ((b++r).map bv)->(∀x,v'.ownBlock=some x->o' x=none)->Calls prog 155 #[.pointer (some ⟨pb,0,none⟩),.string name,.int .i64 (k:Int),v'] W (nB W pb db n o' d L (aS L name (.inl (dr ps k (b++r),false))))):=
  aa (fun W o' hW v' hv my=>Ch HW hW hL hk BX (fw (by rw[List.length_append];exact hv)) (by rw[List.length_append];exact hl) my)
 have HST:=aa hst;clear h my hr hown hc hst hL hk;have ahV:Hid (∀n',Calls prog 106 #[v,.pointer (some ⟨bx,0,none⟩)] (w.drewN n') (Ag (w.drewN n') base v b r)):=aa (fun n'=>Ko (w:=w.drewN n') hc'.o (HHR.o.drewN n') vP.o hb ae);clear hl;have xJ:Hid (∀w1 v1,(w.drewN 1).grownBy w1 v.ownBlock->(v1:Value).ownBlock=v.ownBlock\/v1.ownBlock=some (w.drewN 1).heap.size->(w1.cell? ⟨sb,0,none⟩=some (.pointer (some ⟨pb,0,none⟩))/\w1.cell? ⟨sb,1,none⟩=some (.string name))/\au (fun x=>v.ownBlock=some x) n pb db w o d w1 o d L/\∀x,v1.ownBlock=some x->o x=none):=aa (fun w1 v1 hg Nl=>by
  have hm:au (fun x=>v.ownBlock=some x) n pb db w o d w1 o d L:=((au.refl _ H.o).drewN 1).grown hg (fun k hk=>⟨(vV.o k hk).1,.inl hk⟩);have hs1:aC w1 sb pb name sz:=HST.o.moved hm ho (fun e=>(vV.o sb e).2 rfl);refine⟨⟨hs1.cells.1,hs1.cells.2.1⟩,hm,fun x hx=>?_⟩;rcases Nl with e | e
  ·rw[e]at hx;exact(vV.o x hx).1
  ·rw[e]at hx;cases hx;exact H.o.fresh (Nat.le_refl _))
 have Y7:Hid (∀w1 w2 d2 o2 L2,au (fun x=>v.ownBlock=some x) n pb db w o d w1 o d L->aQ w2 pb db n o2 d2 L2->aH (o.In cB) w1 w2->cw w1.heap.size o o2->bK d d2->(w2.cell? ⟨sb,0,none⟩=some (.pointer (some ⟨pb,0,none⟩))/\w2.cell? ⟨sb,1,none⟩=some (.string name))/\au (fun x=>v.ownBlock=some x) n pb db w o d w2 o2 d2 L2):=aa (fun w1 w2 d2 o2 L2 hm hp ht hg yD=>by
  have cQ:au (fun x=>v.ownBlock=some x) n pb db w o d w2 o2 d2 L2:=hm.trans (jn (S:=fun _=>False) hp ht hg yD) (fun _ _ h=>h.elim);have hs2:aC w2 sb pb name sz:=HST.o.moved cQ ho (fun e=>(vV.o sb e).2 rfl);exact⟨⟨hs2.cells.1,hs2.cells.2.1⟩,cQ⟩)
 unfold ptrTo;go_enter func107,ntmps107;go_wp2;go_region_held3 (fun w'=>w'.cell? ⟨sb,0,none⟩=some (.pointer (some ⟨pb,0,none⟩))/\w'.cell? ⟨sb,1,none⟩=some (.string name)) (first | exact⟨hc0,hc1⟩| exact q1 | exact q2)
  (first
    | (go_at_call 106;refine(ahV.o 1).mono ?_;rintro e w1⟨v1,rfl,k9,hg1,rN⟩;obtain⟨q1,ee,tP⟩:=xJ.o w1 v1 hg1 rN)
    | (go_at_call 155;refine(hwr.o w1 o ee.aX v1 k9 tP).mono ?_;rintro e w2⟨c2,d2,o2,rfl,j7,oU,hg2,Rk,pV⟩;obtain⟨q2,cQ⟩:=Y7.o w1 w2 d2 o2 _ ee j7 oU hg2 Rk))
 have eB:=aa cQ;have G6:=aa pV;clear cQ pV j7 oU hg2 Rk ee hg1 k9 q1 q2;go_wp2;go_ret;exact⟨c2,d2,o2,rfl,eB.o,G6.o⟩
theorem G7{rs:List Rec}{r:Rec}(hs:gF sz rs)(h1:1<=sz)(h2:sz<=240) :
 (rs=[]->bz (eQ sz) (rs++[r])=dr (bz (eQ sz) rs) 0 ([]++r)/\(bz (eQ sz) rs).length=0) /\
 ∀q m b,(bz (eQ sz) rs).length=q+1->(bz (eQ sz) rs)[q]? = some b->b.length=sz*m->1<=m->m<=eQ sz->q*eQ sz+m=rs.length->b=(rs.drop (eQ sz*q)).flatten ->
  (sz*m+sz<=240->bz (eQ sz) (rs++[r])=dr (bz (eQ sz) rs) q (b++r))/\(¬sz*m+sz<=240->bz (eQ sz) (rs++[r])=dr (bz (eQ sz) rs) (q+1) ([]++r)):=by
 have hp:=ru h1 h2;have P7:=tT sz;have hpn:=QI h1;refine⟨fun e=>?_,fun q m b g1 g2 g3 g4 g5 g6 g7=>⟨fun hr=>?_,fun hr=>?_⟩⟩
 ·subst e;have:=xM (rs:=[]) hp r (k:=0) ah;exact⟨this.1,this.2⟩
 ·have hm:m<eQ sz:=by
   rcases Nat.lt_or_ge m (eQ sz) with h | h
   ·exact h
   ·have:m=eQ sz:=by omega
    subst this;rw[Nat.mul_succ]at hpn;omega
  rw[Em hp r (k:=q) (by rw[Nat.mul_comm];omega) (by rw[Nat.mul_comm];omega),g7,List.take_of_length_le (by rw[List.length_drop,Nat.mul_comm];omega)]
 ·have hm:m=eQ sz:=by
   rcases Nat.lt_or_ge m (eQ sz) with h | h
   ·have:=Nat.mul_le_mul_left sz (show m+1<=eQ sz from h);rw[Nat.mul_succ]at this;omega
   ·omega
  have:=xM (rs:=rs) hp r (k:=q+1) (by rw[Nat.mul_succ,Nat.mul_comm];omega);exact this.1
theorem j8(HW:aP)(h:aQ w pb db n o d L)(hst:aC w sb pb name sz)(ho:o sb=none)(h1:1<=sz)(h2:sz<=240){rs:List Rec}{fl:Bool}(hL:aB L name=some (.inl (bz (eQ sz) rs,fl)))(hs:gF sz rs)(hN:rs.length<65535){rv:Value}{r:Rec}(hr:Rd w rv r)(Gp:r.length=sz)(hro:∀x,rv.ownBlock=some x->o x=none) :
 Calls prog 72 #[ptrTo sb,rv] w (jq (fun _=>False) n pb db w o d L (aS L name (.inl (bz (eQ sz) (rs++[r]),false)))):=by
 obtain⟨jg,Ac⟩:=h.dJ hL;have aN:Hid (∀W,Below w.heap.size w W->Calls prog 92 #[ptrTo pb,.string name] W fun e w'=>e=.returned (.tuple #[.int .i64 ((ew d (bz (eQ sz) rs)).1:Int),.int .i64 ((ew d (bz (eQ sz) rs)).2:Int)])/\Below W.heap.size W w'):=aa (fun W hW=>kP (h.below hW) hL);have mL:Hid (∀W,Below w.heap.size w W->∀(k:Nat)(b:Pg),(bz (eQ sz) rs)[k]? = some b->Calls prog 93 #[ptrTo pb,.string name,.int .i64 (k:Int)] W (gR W pb db n o d L b)):=aa (fun W hW k b hk=>pz HW (h.below hW) hL hk);have hturn:Hid (∀W o' d',aQ W pb db n o' d' L->aC W sb pb name sz->o' sb=none->∀bx,W.cell? ⟨bx,0,none⟩=some rv->Rd W rv r->∀(k base:Nat)(v:Value)(b:Pg),k<=(bz (eQ sz) rs).length->k<65536->W.ownsRow base 5 1 v b.length (b.map bv)->(∀x,v.ownBlock=some x->o' x=none/\x≠sb)->base<=W.heap.size->b.length+r.length<=240 ->
  Calls prog 107 #[ptrTo sb,.int .i64 (k:Int),v,.func (.func 106) #[] #[.pointer (some ⟨bx,0,none⟩)]] W (jq (fun x=>v.ownBlock=some x) n pb db W o' d' L (aS L name (.inl (dr (bz (eQ sz) rs) k (b++r),false))))):=
  aa (fun W o' d' hW Y8 kN bx hc Mi k base v b h1 h2 h3 h4 h5 h6=>G5 HW hW Y8 kN hL h1 h2 hc Mi h3 h4 h5 h6)
 have Kp:=aa (G7 (r:=r) hs h1 h2);have H:=aa h;have HST:=aa hst;have HO:=aa ho;have G8:=aa hro;have PN:=aa hr;have T4:=hst.lt;obtain⟨-,-,hc2⟩:=hst.cells;obtain⟨ra,rc,rfl,-⟩:=hr;have Ew:=aa (fun hN=>Ab (rs:=rs) hs h1 h2 hN);have mz:=tT sz;rw[Gp]at *;have hPN:(bz (eQ sz) rs).length<=rs.length:=by
  rcases Nat.eq_zero_or_pos rs.length with hz | hp
  ·have:=List.eq_nil_of_length_eq_zero hz;rw[((Kp.o.1 this).2),hz];exact Nat.le_refl _
  ·obtain⟨q,m,b,f1,f2,f3,f4,f5,f6,f7⟩:=Ew.o hp;have h3:=ru h1 h2;have h4:q<=q*eQ sz:=Nat.le_mul_of_pos_right q h3;omega
 clear h hst ho hro hL hs Ac;unfold ptrTo at *;have Y9:Hid (Below w.heap.size w (w.alloc (.cells #[.slice ra sz rc] 39))):=aa ai;have mD:Hid ((w.alloc (.cells #[.slice ra sz rc] 39)).cell? ⟨w.heap.size,0,none⟩=some (.slice ra sz rc)):=aa ah;have CX:w.heap.size<(w.alloc (.cells #[.slice ra sz rc] 39)).heap.size:=by simp
 unfold ew at aN;cases hd:d.dead with
 |true=>
   rw[hd,if_pos rfl]at aN;have HD:=aa hd;clear hd;dsimp only at aN;go_enter func72,ntmps72;go_wp2;go_quiet (fail)
   go_wp2;have cT:Hid (Below w.heap.size w ((w.alloc (.cells #[.slice ra sz rc] 39)).drewN nq)):=aa (below_drewN Y9.o _);generalize (w.alloc (.cells #[.slice ra sz rc] 39)).drewN nq=w1 at *;refine wq w1 ?_;iterate 3 (refine qz ?_)
   refine qz ?_ (fun w' hw'=>by have hc:=((HST.o.below cT.o).below hw').cells.1;unfold ptrTo at hc;go_simp<;>rfl);iterate 3 (refine qz ?_)
   refine qz ?_ (fun w' hw'=>by have hc:=((HST.o.below cT.o).below hw').cells.2.1;go_simp<;>rfl);refine qw (fun w' hw'=>(aN.o w' (cT.o.trans (hw'.mono cT.o.size))).mono (fun e w'' h=>⟨h.1,hw'.trans (h.2.mono hw'.size)⟩)) ?_;iterate 5 (refine qz ?_)
   refine wpQuiet_nil ?_;intro w2 hw2;have cZ:Hid (Below w.heap.size w w2):=aa (cT.o.trans (hw2.mono cT.o.size));clear hw2;go_wp2;go_ret;exact⟨6,d,o,rfl,au.aW H.o cZ.o,.inr (.inr ⟨rfl,HD.o⟩)⟩
 |false=>
   rw[hd,if_neg ah]at aN;clear hd;dsimp only at aN;rcases Nat.eq_zero_or_pos rs.length with hz | hNp
   ·have hnil:=List.eq_nil_of_length_eq_zero hz;obtain⟨ha1,ha2⟩:=Kp.o.1 hnil;rw[ha2]at aN;have HA1:=aa ha1;have HA2:=aa ha2;clear hz hnil ha1 ha2;go_enter func72,ntmps72;go_wp2;go_quiet (fail)
    go_wp2;have cT:Hid (Below w.heap.size w ((w.alloc (.cells #[.slice ra sz rc] 39)).drewN nq)):=aa (below_drewN Y9.o _);have Za:Hid (((w.alloc (.cells #[.slice ra sz rc] 39)).drewN nq).cell? ⟨w.heap.size,0,none⟩=some (.slice ra sz rc)):=aa mD.o;have Rl:w.heap.size<((w.alloc (.cells #[.slice ra sz rc] 39)).drewN nq).heap.size:=CX;generalize (w.alloc (.cells #[.slice ra sz rc] 39)).drewN nq=w1 at *;refine wq w1 ?_;iterate 3 (refine qz ?_)
    refine qz ?_ (fun w' hw'=>by have hc:=((HST.o.below cT.o).below hw').cells.1;unfold ptrTo at hc;go_simp<;>rfl);iterate 3 (refine qz ?_)
    refine qz ?_ (fun w' hw'=>by have hc:=((HST.o.below cT.o).below hw').cells.2.1;go_simp<;>rfl);refine qw (fun w' hw'=>(aN.o w' (cT.o.trans (hw'.mono cT.o.size))).mono (fun e w'' h=>⟨h.1,hw'.trans (h.2.mono hw'.size)⟩)) ?_;iterate 5 (refine qz ?_)
    refine wpQuiet_nil ?_;intro w2 hw2;have cZ:Hid (Below w.heap.size w w2):=aa (cT.o.trans (hw2.mono cT.o.size));have Zb:Hid (w2.cell? ⟨w.heap.size,0,none⟩=some (.slice ra sz rc)):=aa (by rw[hw2.cell (p:=⟨w.heap.size,0,none⟩) Rl];exact Za.o);clear hw2;go_wp2_with fail;refine(hturn.o w2 o d (H.o.below cZ.o) (HST.o.below cZ.o) HO.o w.heap.size Zb.o (PN.o.below cZ.o) 0 0 (.slice none 0 0) [] (Nat.zero_le _) af (ownsRow_nil _ _ _) (fun x hx=>by cases hx) (Nat.zero_le _) (by simp;omega)).mono ?_;rintro e w3⟨c3,d3,o3,rfl,ej,Dm⟩;rw[<- HA1.o]at ej;have eC:=aa ((au.aW (S:=fun _=>False) H.o cZ.o).trans ej (fun x _ e=>by cases e));have Ck:=aa Dm;clear ej Dm;go_wp2;go_ret;exact⟨c3,d3,o3,rfl,eC.o,Ck.o⟩
   ·obtain⟨q,m,b,f1,f2,f3,f4,f5,f6,f7⟩:=Ew.o hNp;have Km:Hid (∀W,Below w.heap.size w W->Calls prog 93 #[.pointer (some ⟨pb,0,none⟩),.string name,.int .i64 (q:Int)] W (gR W pb db n o d L b)):=aa (fun W hW=>mL.o W hW q b f2);have nz:=aa (Kp.o.2 q m b f1 f2 f3 f4 f5 f6 f7);have hq:q<65535:=by omega
    have hm:sz*m<=240:=Nat.le_trans (Nat.mul_le_mul_left sz f5) mz;have Rh:=aa f1;have hwq:IntKind.i64.wrap (((q+1:Nat):Int)-1)=(q:Int):=by rw[ax ae ae];omega
    have NT:=aa hwq;rw[f1]at aN;obtain⟨P,hP⟩:∃P,P=q+1:=⟨_,rfl⟩;rw[<- hP]at aN NT;have HP:=aa hP;have hPb:P<=65535:=by omega
    have hP0:(P:Int)>0:=by omega
    have hBb:b.length<=240:=by omega
    have z7:=aa f3;clear f1 f2 f3 f4 f6 f7 hwq hP mL;go_enter func72,ntmps72;go_wp2;go_quiet (fail)
    go_wp2;have cT:Hid (Below w.heap.size w ((w.alloc (.cells #[.slice ra sz rc] 39)).drewN nq)):=aa (below_drewN Y9.o _);have Za:Hid (((w.alloc (.cells #[.slice ra sz rc] 39)).drewN nq).cell? ⟨w.heap.size,0,none⟩=some (.slice ra sz rc)):=aa mD.o;have Rl:w.heap.size<((w.alloc (.cells #[.slice ra sz rc] 39)).drewN nq).heap.size:=CX;generalize (w.alloc (.cells #[.slice ra sz rc] 39)).drewN nq=w1 at *;refine wq w1 ?_;iterate 3 (refine qz ?_)
    refine qz ?_ (fun w' hw'=>by have hc:=((HST.o.below cT.o).below hw').cells.1;unfold ptrTo at hc;go_simp<;>rfl);iterate 3 (refine qz ?_)
    refine qz ?_ (fun w' hw'=>by have hc:=((HST.o.below cT.o).below hw').cells.2.1;go_simp<;>rfl);refine qw (fun w' hw'=>(aN.o w' (cT.o.trans (hw'.mono cT.o.size))).mono (fun e w'' h=>⟨h.1,hw'.trans (h.2.mono hw'.size)⟩)) ?_;iterate 5 (refine qz ?_)
    refine wpQuiet_nil ?_;intro w2 hw2;have cZ:Hid (Below w.heap.size w w2):=aa (cT.o.trans (hw2.mono cT.o.size));have Zb:Hid (w2.cell? ⟨w.heap.size,0,none⟩=some (.slice ra sz rc)):=aa (by rw[hw2.cell (p:=⟨w.heap.size,0,none⟩) Rl];exact Za.o);have nC:=aa (HST.o.below cZ.o);have U3:w.heap.size<w2.heap.size:=Nat.lt_of_lt_of_le Rl hw2.size;clear hw2 CX Rl;go_wp2;refine cG (Below w2.heap.size w2) 10 rfl ag ag (aj.drew) ?_;simp only[List.take_succ_cons,List.take_zero];iterate 3 (refine qz ?_)
    refine qz ?_ (fun w' hw'=>by have hc:=(nC.o.below hw').cells.1;unfold ptrTo at hc;go_simp<;>rfl);iterate 3 (refine qz ?_)
    refine qz ?_ (fun w' hw'=>by have hc:=(nC.o.below hw').cells.2.1;go_simp<;>rfl);refine qz ?_;refine qz ?_ (fun w' hw'=>by have hx:=NT.o;go_simp<;>rfl);refine wpQuiet_nil ?_;intro w3 hw3;refine⟨_,_,rfl,(by go_simp<;>exact⟨rfl,rfl⟩),?_⟩;have jF:Hid (Below w.heap.size w w3):=aa (cZ.o.trans (hw3.mono cZ.o.size));have ahW:Hid (w3.cell? ⟨w.heap.size,0,none⟩=some (.slice ra sz rc)):=aa (by rw[hw3.cell (p:=⟨w.heap.size,0,none⟩) U3];exact Zb.o);refine(Km.o w3 jF.o).mono ?_;rintro e w4⟨v4,c4,d4,o4,rfl,oW,tK,hg4,uh,vp,Cm,Af⟩;have Zc:au (fun _=>False) n pb db w3 o d w4 o4 d4 L:=jn (S:=fun _=>False) oW tK hg4 uh;have gp:Hid (au (fun _=>False) n pb db w o d w4 o4 d4 L):=aa ((au.aW H.o jF.o).trans Zc (fun _ _ h=>h));have Cg:=aa vp;have ur:=aa (HST.o.moved gp.o HO.o (fun h=>h));have T9:Hid (o4 sb=none):=aa (gp.o.free T4 HO.o);have G9:Hid (w4.cell? ⟨w.heap.size,0,none⟩=some (.slice ra sz rc)):=aa (Zc.cell ahW.o (H.o.fresh (Nat.le_refl _)) (fun h=>h));have Mr:Hid (Rd w4 (.slice ra sz rc) r):=aa (gp.o.rd PN.o (fun x hx=>⟨G8.o x hx,fun h=>h⟩));have oX:w.heap.size<=w3.heap.size:=jF.o.size;clear hw3 oW tK hg4 uh vp Zc;by_cases ik:c4=0
    ·subst ik;obtain⟨Bw,C9⟩:=Cm rfl;obtain⟨a4,k4,rfl⟩:=az Bw;have ahX:=aa (aU Bw oX);have Kk:Hid (∀x,(Value.slice a4 b.length k4).ownBlock=some x->o4 x=none/\x≠sb):=aa (fun x hx=>⟨C9 x hx,fun e=>by have:=aF Bw x hx;omega⟩);have ahY:Hid (∀x,(Value.slice a4 b.length k4).ownBlock=some x->w.heap.size<=x):=aa (fun x hx=>by have:=aF Bw x hx;omega);have hs5:w.heap.size<=w4.heap.size:=gp.o.size;clear Cm Af Bw C9;refine⟨_,rfl,?_⟩;go_simp;iterate 5 (refine qz ?_)
     refine wpQuiet_nil ?_;have BC:=ur.o.cells.2.2;have aoQ:=NT.o;by_cases hroom:b.length+sz<=240
     ·have Zd:(b.length:Int)+(sz:Int)<=240:=by omega
      have BB:=nz.o.1 (by have:=z7.o;omega);have HL':=aa BB;clear BB;go_wp2_with fail;refine(hturn.o w4 o4 d4 gp.o.aX ur.o T9.o w.heap.size G9.o Mr.o q w.heap.size _ b (by have:=Rh.o;omega) ae ahX.o Kk.o hs5 hroom).mono ?_;rintro e w5⟨c5,d5,o5,rfl,lD,PM⟩;rw[<- HL'.o]at lD;have lF:=aa (gp.o.trans lD (fun x hx e=>by have:=ahY.o x e;omega));have Q7:=aa (PM.imp id (kI.later gp.o.on.bD));clear lD PM;go_wp2;go_ret;exact⟨c5,d5,o5,rfl,lF.o,Q7.o⟩
     ·have Zd:¬(b.length:Int)+(sz:Int)<=240:=by omega
      have BB:=nz.o.2 (by have:=z7.o;omega);have HL':=aa BB;clear BB;go_wp2_with fail;refine(hturn.o w4 o4 d4 gp.o.aX ur.o T9.o w.heap.size G9.o Mr.o P 0 (.slice none 0 0) [] (by have:=Rh.o;have:=HP.o;omega) ae (ownsRow_nil _ _ _) (fun x hx=>by cases hx) (Nat.zero_le _) (by simp;omega)).mono ?_;rintro e w5⟨c5,d5,o5,rfl,lD,PM⟩;rw[HP.o,<- HL'.o]at lD;have lF:=aa (gp.o.trans lD (fun x hx e=>by cases e));have Q7:=aa (PM.imp id (kI.later gp.o.on.bD));clear lD PM;go_wp2;go_ret;exact⟨c5,d5,o5,rfl,lF.o,Q7.o⟩
    ·obtain rfl:=Af ik;have ui:¬(c4:Int)=0:=by omega
     have BG:=aa ik;clear ik Cm Af;refine⟨_,rfl,?_⟩;go_simp;iterate 5 (refine qz ?_)
     refine wpQuiet_nil ?_;go_wp2;go_ret;exact⟨c4,d4,o4,rfl,by rw[if_neg BG.o];exact gp.o,Cg.o⟩
end
end
section
open Go.RowKit
abbrev aJ.cells(e:aJ):List Value:=[.int .u32 (e.t.toNat:Int),.int .u32 (e.h.toNat:Int),.int .u64 (e.x.toNat:Int),.int .u32 (e.m.toNat:Int)]
def aJ.val(e:aJ):Value:=.agg #[.int .u32 (e.t.toNat:Int),.int .u32 (e.h.toNat:Int),.int .u64 (e.x.toNat:Int),.int .u32 (e.m.toNat:Int)]
def aJ.bytes(e:aJ):Rec:=vE e.t.toNat e.h.toNat e.x.toNat e.m.toNat
theorem aJ.eF(e:aJ):e.bytes.length=20:=by rfl
theorem aJ.sW(e:aJ):eY (e.bytes.take 4)=e.t.toNat/\eY ((e.bytes.drop 4).take 4)=e.h.toNat/\eY ((e.bytes.drop 8).take 8)=e.x.toNat/\eY ((e.bytes.drop 16).take 4)=e.m.toNat:=by
 have h1:=e.t.toNat_lt;have h2:=e.h.toNat_lt;have h3:=e.x.toNat_lt;have h4:=e.m.toNat_lt;have l4:∀x,(le x 4).length=4:=fun x=>cj x 4;have l8:∀x,(le x 8).length=8:=fun x=>cj x 8;have e1:e.bytes=le e.t.toNat 4++(le e.h.toNat 4++(le e.x.toNat 8++le e.m.toNat 4)):=by rfl
 have e2:e.bytes.drop 4=le e.h.toNat 4++(le e.x.toNat 8++le e.m.toNat 4):=by rfl
 have e3:e.bytes.drop 8=le e.x.toNat 8++le e.m.toNat 4:=by rfl
 have e4:e.bytes.drop 16=le e.m.toNat 4:=by rfl
 refine⟨?_,?_,?_,?_⟩
 ·grind [ja]
 ·grind [ja]
 ·grind [ja]
 grind [ja]
theorem qE(v:Value)(e:aJ)(w:World)(hv:Rd w v e.bytes) :
 Calls prog 68 #[v] w (Ga (.tuple #[.agg #[.int .u32 (e.t.toNat:Int),.int .u32 (e.h.toNat:Int),.int .u64 (e.x.toNat:Int),.int .u32 (e.m.toNat:Int)],.int .i64 0]) w):=by
 have h:=D7 v e.bytes w e.eF hv;grind [aJ.sW]
theorem uu(e:aJ)(w:World):Calls prog 208 #[.agg #[.int .u32 (e.t.toNat:Int),.int .u32 (e.h.toNat:Int),.int .u64 (e.x.toNat:Int),.int .u32 (e.m.toNat:Int)]] w (jc w e.bytes):=Qb _ _ _ _ w
structure bW where
 r:UInt32
 l:UInt32
 g:UInt32
def bW.bytes(v:bW):Rec:=vD v.r.toNat v.l.toNat v.g.toNat
theorem bW.eF(v:bW):v.bytes.length=12:=by rfl
theorem bW.sW(v:bW):eY (v.bytes.take 4)=v.r.toNat/\eY ((v.bytes.drop 4).take 4)=v.l.toNat/\eY ((v.bytes.drop 8).take 4)=v.g.toNat:=by
 have h1:=v.r.toNat_lt;have h2:=v.l.toNat_lt;have h3:=v.g.toNat_lt;have l4:∀x,(le x 4).length=4:=fun x=>cj x 4;have e1:v.bytes=le v.r.toNat 4++(le v.l.toNat 4++le v.g.toNat 4):=by rfl
 have e2:v.bytes.drop 4=le v.l.toNat 4++le v.g.toNat 4:=by rfl
 have e3:v.bytes.drop 8=le v.g.toNat 4:=by rfl
 refine⟨?_,?_,?_⟩
 ·grind [ja]
 ·grind [ja]
 grind [ja]
theorem Ha(v:Value)(x:bW)(w:World)(hv:Rd w v x.bytes) :
 Calls prog 58 #[v] w (Ga (.tuple #[.agg #[.int .u32 (x.r.toNat:Int),.int .u32 (x.l.toNat:Int),.int .u32 (x.g.toNat:Int)],.int .i64 0]) w):=by
 have h:=D6 v x.bytes w x.eF hv;grind [bW.sW]
theorem Ez(x:bW)(w:World):Calls prog 78 #[.agg #[.int .u32 (x.r.toNat:Int),.int .u32 (x.l.toNat:Int),.int .u32 (x.g.toNat:Int)]] w (jc w x.bytes):=Qa _ _ _ w
def aR(b:Bool)(x y:aJ):Int:=if pk b x<pk b y then -1 else if pk b y<pk b x then 1 else if rk x<rk y then -1 else if rk y<rk x then 1 else 0
theorem Ah(b:Bool)(x y:aJ):aR b x y<0↔(pk b x<pk b y\/pk b x=pk b y/\rk x<rk y):=by
 unfold aR;omega
theorem Ai(b:Bool)(x y:aJ):¬aR b y x<0↔dE b x y:=by
 rw[Ah];grind [dE]
theorem oz(b:Bool):Go.Sort.SWO (ltOf (aR b)):=by
 have h:∀x y,ltOf (aR b) x y=decide (pk b x<pk b y\/pk b x=pk b y/\rk x<rk y):=fun x y=>by
  grind [ltOf,Ah]
 refine⟨fun x=>?_,fun x y z h1 h2=>?_,fun x y z h1 h2=>?_⟩
 ·grind
 ·grind
 grind
def dX(w w':World):Prop:=∃q os,w'=Go.Sort.grow (w.drewN q) os
theorem dX.refl(w:World):dX w w:=⟨0,#[],by rfl⟩
theorem dX.trans{a b c:World}(h:dX a b)(k:dX b c):dX a c:=by
 obtain⟨q,os,rfl⟩:=h;obtain⟨q',os',rfl⟩:=k;exact⟨q+q',os++os',by grind [Go.Sort.grow,World.drewN]⟩
theorem dX.alloc{a b:World}(h:dX a b)(ob:Obj):dX a (b.alloc ob):=h.trans ⟨0,#[ob],by rfl⟩
theorem dX.drewN{a b:World}(h:dX a b)(n:Nat):dX a (b.drewN n):=h.trans ⟨n,#[],ah⟩
theorem dX.drew{a b:World}(h:dX a b):dX a b.drew:=h.trans ⟨1,#[],(Go.Sort.grow_empty _).symm⟩
theorem dX.below{a b:World}(h:dX a b):Below a.heap.size a b:=by
 obtain⟨q,os,rfl⟩:=h;exact⟨rfl,rfl,rfl,ah,fun k hk=>Go.Sort.heap_grow_old _ _ hk⟩
theorem dX.cell{a b:World}(h:dX a b){p:Addr}{v:Value}(hc:a.cell? p=some v):b.cell? p=some v:=by
 rw[h.below.cell (World.block_lt_of_cell? _ _ hc)];exact hc
def p9(a b:Nat):Int:=if a<b then -1 else if b<a then 1 else 0
theorem gG(a b:Nat):(a<b/\p9 a b=-1)\/(b<a/\p9 a b=1)\/(a=b/\p9 a b=0):=by
 unfold p9;split
 ·exact .inl ⟨by assumption,rfl⟩
 ·split
  ·exact .inr (.inl ⟨by assumption,rfl⟩)
  ·exact .inr (.inr ⟨ae,rfl⟩)
theorem vX(a b:Nat)(w:World):Calls prog 205 #[.int .u64 (a:Int),.int .u64 (b:Int)] w fun e w'=>e=.returned (.int .i64 (p9 a b))/\w=w':=by
 rcases gG a b with⟨h1,h2⟩|⟨h1,h2⟩|⟨h1,h2⟩
 ·have H:=aa h2;clear h2;have g1:(a:Int)<(b:Int):=by omega
  go_enter func205,ntmps205;go_wp2;go_ret;exact⟨by rw[H.o];rfl,rfl⟩
 ·have H:=aa h2;clear h2;have g1:¬(a:Int)<(b:Int):=by omega
  have g2:(a:Int)>(b:Int):=by omega
  go_enter func205,ntmps205;go_wp2;go_ret;exact⟨by rw[H.o];rfl,rfl⟩
 ·subst h1;have H:=aa h2;clear h2;go_enter func205,ntmps205;go_wp2;go_ret;exact⟨by rw[H.o];rfl,rfl⟩
theorem vY(a b:Nat)(w:World):Calls prog 206 #[.int .u32 (a:Int),.int .u32 (b:Int)] w fun e w'=>e=.returned (.int .i64 (p9 a b))/\w=w':=by
 rcases gG a b with⟨h1,h2⟩|⟨h1,h2⟩|⟨h1,h2⟩
 ·have H:=aa h2;clear h2;have g1:(a:Int)<(b:Int):=by omega
  go_enter func206,ntmps206;go_wp2;go_ret;exact⟨by rw[H.o];rfl,rfl⟩
 ·have H:=aa h2;clear h2;have g1:¬(a:Int)<(b:Int):=by omega
  have g2:(a:Int)>(b:Int):=by omega
  go_enter func206,ntmps206;go_wp2;go_ret;exact⟨by rw[H.o];rfl,rfl⟩
 ·subst h1;have H:=aa h2;clear h2;go_enter func206,ntmps206;go_wp2;go_ret;exact⟨by rw[H.o];rfl,rfl⟩
def nG(x y:Int):Int:=if x=0 then y else x
theorem NV(x y:Int)(b:Nat)(w:World)(hx:w.cell? ⟨b,0,none⟩=some (.int .i64 x))(hy:w.cell? ⟨b,1,none⟩=some (.int .i64 y)) :
 Calls prog 293 #[.slice (some ⟨b,0,none⟩) 2 2] w fun e w'=>e=.returned (.int .i64 (nG x y))/\w=w':=by
 by_cases h1:x=0
 ·subst h1;by_cases h2:y=0
  ·subst h2;go_enter func293,ntmps293;go_wp2;refine wp_loop_rounds 3 ?_;iterate 3 (rw[rounds_succ];go_wp2)
   go_ret;exact⟨rfl,rfl⟩
  ·go_enter func293,ntmps293;go_wp2;refine wp_loop_rounds 2 ?_;iterate 2 (rw[rounds_succ];go_wp2)
   go_ret;exact⟨rfl,rfl⟩
 ·have H:=aa h1;go_enter func293,ntmps293;go_wp2;refine wp_loop_rounds 1 ?_;iterate 1 (rw[rounds_succ];go_wp2)
  go_ret;exact⟨by unfold nG;rw[if_neg H.o];rfl,rfl⟩
def mM(x y:aJ):Bool:=decide (rk x<rk y)
theorem NW(x y:aJ):decide (nG (p9 x.x.toNat y.x.toNat) (p9 ((x.m.toNat+1)%4294967296) ((y.m.toNat+1)%4294967296))<0)=mM x y:=by
 have h1:=x.m.toNat_lt;have h2:=y.m.toNat_lt;unfold mM rk nG;rw[decide_eq_decide];rcases gG x.x.toNat y.x.toNat with⟨g1,g2⟩|⟨g1,g2⟩|⟨g1,g2⟩
 ·rw[g2,if_neg af];omega
 ·rw[g2,if_neg af];omega
 ·rw[g2,if_pos rfl];rcases gG ((x.m.toNat+1)%4294967296) ((y.m.toNat+1)%4294967296) with⟨k1,k2⟩|⟨k1,k2⟩|⟨k1,k2⟩<;>rw[k2]<;>omega
theorem Aj(x y:aJ)(w:World) :
 Calls prog 262 #[.agg #[.int .u32 (x.t.toNat:Int),.int .u32 (x.h.toNat:Int),.int .u64 (x.x.toNat:Int),.int .u32 (x.m.toNat:Int)],.agg #[.int .u32 (y.t.toNat:Int),.int .u32 (y.h.toNat:Int),.int .u64 (y.x.toNat:Int),.int .u32 (y.m.toNat:Int)]] w
  fun e w'=>e=.returned (.bool (mM x y))/\dX w w':=by
 have hf:=aa (NW x y);have rN:IntKind.u32.wrap ((x.m.toNat:Int)+1)=(((x.m.toNat+1)%4294967296:Nat):Int):=by rw[IntKind.wrap_u32];omega
 have hw2:IntKind.u32.wrap ((y.m.toNat:Int)+1)=(((y.m.toNat+1)%4294967296:Nat):Int):=by rw[IntKind.wrap_u32];omega
 generalize x.t.toNat=xt at *;generalize x.h.toNat=xh at *;generalize x.x.toNat=xx at *;generalize x.m.toNat=xm at *;generalize y.t.toNat=yt at *;generalize y.h.toNat=yh at *;generalize y.x.toNat=yx at *;generalize y.m.toNat=ym at *;generalize (xm+1)%4294967296=Ze at *;generalize (ym+1)%4294967296=Zf at *;go_enter func262,ntmps262;have HG:Hid (dX w ((w.alloc (.cells #[.int .u32 (xt:Int),.int .u32 (xh:Int),.int .u64 (xx:Int),.int .u32 (xm:Int)] 64)).alloc (.cells #[.int .u32 (yt:Int),.int .u32 (yh:Int),.int .u64 (yx:Int),.int .u32 (ym:Int)] 64))):=aa (((dX.refl w).alloc _).alloc _);go_wp2;have k1:((w.alloc (.cells #[.int .u32 (xt:Int),.int .u32 (xh:Int),.int .u64 (xx:Int),.int .u32 (xm:Int)] 64)).alloc (.cells #[.int .u32 (yt:Int),.int .u32 (yh:Int),.int .u64 (yx:Int),.int .u32 (ym:Int)] 64)).cell? ⟨w.heap.size,2,none⟩=some (.int .u64 (xx:Int)):=by simp
 have k2:((w.alloc (.cells #[.int .u32 (xt:Int),.int .u32 (xh:Int),.int .u64 (xx:Int),.int .u32 (xm:Int)] 64)).alloc (.cells #[.int .u32 (yt:Int),.int .u32 (yh:Int),.int .u64 (yx:Int),.int .u32 (ym:Int)] 64)).cell? ⟨w.heap.size,3,none⟩=some (.int .u32 (xm:Int)):=by simp
 have k3:((w.alloc (.cells #[.int .u32 (xt:Int),.int .u32 (xh:Int),.int .u64 (xx:Int),.int .u32 (xm:Int)] 64)).alloc (.cells #[.int .u32 (yt:Int),.int .u32 (yh:Int),.int .u64 (yx:Int),.int .u32 (ym:Int)] 64)).cell? ⟨w.heap.size+1,2,none⟩=some (.int .u64 (yx:Int)):=by simp
 have k4:((w.alloc (.cells #[.int .u32 (xt:Int),.int .u32 (xh:Int),.int .u64 (xx:Int),.int .u32 (xm:Int)] 64)).alloc (.cells #[.int .u32 (yt:Int),.int .u32 (yh:Int),.int .u64 (yx:Int),.int .u32 (ym:Int)] 64)).cell? ⟨w.heap.size+1,3,none⟩=some (.int .u32 (ym:Int)):=by simp
 have K1:=aa k1;have K2:=aa k2;have K3:=aa k3;have K4:=aa k4;clear k1 k2 k3 k4;generalize ((w.alloc (.cells #[.int .u32 (xt:Int),.int .u32 (xh:Int),.int .u64 (xx:Int),.int .u32 (xm:Int)] 64)).alloc (.cells #[.int .u32 (yt:Int),.int .u32 (yh:Int),.int .u64 (yx:Int),.int .u32 (ym:Int)] 64))=W at *;refine ct (dX W) 12 ag ag (dX.refl W).drew ?_;simp only[List.take_succ_cons,List.take_zero,List.drop_succ_cons,List.drop_zero];refine qz ?_;refine qz ?_ (fun w' hw'=>by have hc:=hw'.cell K1.o;go_simp<;>rfl);refine qz ?_;refine qz ?_ (fun w' hw'=>by have hc:=hw'.cell K3.o;go_simp<;>rfl);refine qw (fun w' hw'=>(vX xx yx w').mono (fun e w'' h=>⟨h.1,h.2▸hw'⟩)) ?_;refine qz ?_;refine qz ?_ (fun w' hw'=>by have hc:=hw'.cell K2.o;go_simp<;>rfl);refine qz ?_ (fun w' hw'=>by have hx:=rN;go_simp<;>rfl);refine qz ?_;refine qz ?_ (fun w' hw'=>by have hc:=hw'.cell K4.o;go_simp<;>rfl);refine qz ?_ (fun w' hw'=>by have hx:=hw2;go_simp<;>rfl);refine qw (fun w' hw'=>(vY Ze Zf w').mono (fun e w'' h=>⟨h.1,h.2▸hw'⟩)) ?_;refine wpQuiet_nil ?_;intro w3 hw3;have y9:=aa hw3;clear hw3;go_wp2_with fail;refine(NV (p9 xx yx) (p9 Ze Zf) _ _ ah ah).mono ?_;rintro e w4⟨rfl,rfl⟩;go_wp2;go_ret;exact⟨by rw[<- hf.o];rfl,(HG.o.trans y9.o).alloc _⟩
def fW(b:Bool)(e:aJ):Nat:=if b then e.h.toNat else e.t.toNat
def vZ(b:Bool)(e:aJ):Nat:=if b then e.t.toNat else e.h.toNat
theorem EA(b:Bool)(e:aJ):pk b e=fW b e*4294967296+vZ b e/\fW b e<4294967296/\vZ b e<4294967296:=by
 have h1:=e.t.toNat_lt;have h2:=e.h.toNat_lt;unfold pk fW vZ;cases b
 ·exact⟨rfl,h1,h2⟩
 ·exact⟨rfl,h2,h1⟩
def lY(b:Bool):Nat:=if b then 1 else 0
def uv(bf:Nat):Value:=.func (.func 115) #[] #[.pointer (some ⟨bf,0,none⟩)]
structure cU(w:World)(jb pb bf made:Nat)(b:Bool):Prop where
 head:∃t,w.heap[jb]? = some (.cells #[ptrTo pb,uv bf,.int .i64 (made:Int)] t)
 by':∃t,w.heap[bf]? = some (.cells #[.int .i64 (lY b:Int)] t)
theorem cU.cells{w:World}{jb pb bf made:Nat}{b:Bool}(h:cU w jb pb bf made b) :
 w.cell? ⟨jb,0,none⟩=some (ptrTo pb)/\w.cell? ⟨jb,1,none⟩=some (uv bf)/\w.cell? ⟨jb,2,none⟩=some (.int .i64 (made:Int))/\w.cell? ⟨bf,0,none⟩=some (.int .i64 (lY b:Int))/\w.frozen? ⟨jb,2,none⟩=false:=by
 obtain⟨⟨t,h1⟩,⟨t',h2⟩⟩:=h;refine⟨?_,?_,?_,?_,aO h1 _⟩
 ·rw[aq h1];rfl
 ·rw[aq h1];rfl
 ·rw[aq h1];rfl
 ·rw[aq h2];rfl
theorem cU.kept{w w':World}{jb pb bf made:Nat}{b:Bool}(h:cU w jb pb bf made b)(h1:w'.heap[jb]? = w.heap[jb]?)(h2:w'.heap[bf]? = w.heap[bf]?):cU w' jb pb bf made b:=by
 obtain⟨⟨t,g1⟩,⟨t',g2⟩⟩:=h;exact⟨⟨t,h1.trans g1⟩,⟨t',h2.trans g2⟩⟩
theorem cU.lt{w:World}{jb pb bf made:Nat}{b:Bool}(h:cU w jb pb bf made b):jb<w.heap.size/\bf<w.heap.size:=by
 obtain⟨⟨t,g1⟩,⟨t',g2⟩⟩:=h;exact⟨(Array.getElem?_eq_some_iff.1 g1).1,(Array.getElem?_eq_some_iff.1 g2).1⟩
theorem cU.below{w w':World}{jb pb bf made:Nat}{b:Bool}(h:cU w jb pb bf made b)(hb:Below w.heap.size w w'):cU w' jb pb bf made b:=h.kept (hb.block _ h.lt.1) (hb.block _ h.lt.2)
theorem Hb(b:Bool)(x:aJ)(bf:Nat)(w:World)(hc:w.cell? ⟨bf,0,none⟩=some (.int .i64 (lY b:Int))) :
 Calls prog 115 #[.agg #[.int .u32 (x.t.toNat:Int),.int .u32 (x.h.toNat:Int),.int .u64 (x.x.toNat:Int),.int .u32 (x.m.toNat:Int)],.pointer (some ⟨bf,0,none⟩)] w
  fun e w'=>e=.returned (.tuple #[.int .u32 (fW b x:Int),.int .u32 (vZ b x:Int)])/\dX w w':=by
 have hlt:=World.block_lt_of_cell? _ _ hc;dsimp only at hlt;unfold fW vZ;cases b with
 |false=>
   have hc':w.cell? ⟨bf,0,none⟩=some (.int .i64 0):=hc;clear hc;go_enter func115,ntmps115;go_wp2;go_quiet (fail)
   go_wp2;go_ret2;exact⟨rfl,((dX.refl w).alloc _).drewN _⟩
 |true=>
   have hc':w.cell? ⟨bf,0,none⟩=some (.int .i64 1):=hc;clear hc;go_enter func115,ntmps115;go_wp2;go_quiet (fail)
   go_wp2;go_ret2;exact⟨rfl,((dX.refl w).alloc _).drewN _⟩
theorem rA(b:Bool)(w:World):Calls prog 261 #[.bool b] w fun e w'=>e=.returned (.int .i64 (if b=true then -1 else 1))/\w=w':=by
 cases b
 ·go_enter func261,ntmps261;go_wp2;go_ret;exact⟨rfl,rfl⟩
 ·go_enter func261,ntmps261;go_wp2;go_ret;exact⟨rfl,rfl⟩
theorem xT{w:World}{jb pb bf made:Nat}{b:Bool}(h:cU w jb pb bf made b)(x y:aJ) :
 Calls prog 224 #[ptrTo jb,.agg #[.int .u32 (x.t.toNat:Int),.int .u32 (x.h.toNat:Int),.int .u64 (x.x.toNat:Int),.int .u32 (x.m.toNat:Int)],.agg #[.int .u32 (y.t.toNat:Int),.int .u32 (y.h.toNat:Int),.int .u64 (y.x.toNat:Int),.int .u32 (y.m.toNat:Int)]] w
  fun e w'=>e=.returned (.int .i64 (aR b x y))/\dX w w':=by
 have H:=aa h;have hx:=aa (fun W hW=>Hb b x bf W hW);have hy:=aa (fun W hW=>Hb b y bf W hW);have acU:=aa (fun W=>Aj x y W);have acV:=aa (fun W=>Aj y x W);obtain⟨px,px1,px2⟩:=EA b x;obtain⟨py,py1,py2⟩:=EA b y;have yG:Hid (aR b x y=if fW b x<fW b y then -1 else if fW b y<fW b x then 1 else if vZ b x<vZ b y then -1 else if vZ b y<vZ b x then 1 else if mM x y=true then -1 else if mM y x=true then 1 else 0):=aa (by
  unfold aR mM;rw[px,py];simp only[decide_eq_true_eq];generalize fW b x=a1 at *;generalize vZ b x=a2 at *;generalize fW b y=b1 at *;generalize vZ b y=b2 at *;rcases Nat.lt_trichotomy a1 b1 with g | g | g
  ·rw[if_pos (show a1*4294967296+a2<b1*4294967296+b2 by omega),if_pos g]
  ·subst g;rcases Nat.lt_trichotomy a2 b2 with g | g | g
   ·rw[if_pos (show a1*4294967296+a2<a1*4294967296+b2 by omega),if_neg (Nat.lt_irrefl a1),if_neg (Nat.lt_irrefl a1),if_pos g]
   ·subst g;simp only[Nat.lt_irrefl,if_false]
   ·rw[if_neg (show ¬a1*4294967296+a2<a1*4294967296+b2 by omega),if_pos (show a1*4294967296+b2<a1*4294967296+a2 by omega),if_neg (Nat.lt_irrefl a1),if_neg (Nat.lt_irrefl a1),if_neg (show ¬a2<b2 by omega),if_pos g]
  ·rw[if_neg (show ¬a1*4294967296+a2<b1*4294967296+b2 by omega),if_pos (show b1*4294967296+b2<a1*4294967296+a2 by omega),if_neg (show ¬a1<b1 by omega),if_pos g])
 obtain⟨hc0,hc1,hc2,hc3,-⟩:=h.cells;obtain⟨kY,hbl⟩:=h.lt;have Rj:=aa hc1;have JD:=aa hc3;clear h px py hc0 hc1 hc2 hc3;unfold ptrTo;generalize aR b x y=R at *;generalize fW b x=a1 at *;generalize vZ b x=a2 at *;generalize fW b y=b1 at *;generalize vZ b y=b2 at *;generalize mM x y=q1 at *;generalize mM y x=q2 at *;generalize x.t.toNat=xt at *;generalize x.h.toNat=xh at *;generalize x.x.toNat=xx at *;generalize x.m.toNat=xm at *;generalize y.t.toNat=yt at *;generalize y.h.toNat=yh at *;generalize y.x.toNat=yx at *;generalize y.m.toNat=ym at *;go_enter func224,ntmps224;have HG:Hid (dX w ((w.alloc (.cells #[.int .u32 (xt:Int),.int .u32 (xh:Int),.int .u64 (xx:Int),.int .u32 (xm:Int)] 64)).alloc (.cells #[.int .u32 (yt:Int),.int .u32 (yh:Int),.int .u64 (yx:Int),.int .u32 (ym:Int)] 64))):=aa (((dX.refl w).alloc _).alloc _);have KX:Hid (∀j v,(#[Value.int .u32 (xt:Int),.int .u32 (xh:Int),.int .u64 (xx:Int),.int .u32 (xm:Int)]:Array Value)[j]? = some v->((w.alloc (.cells #[.int .u32 (xt:Int),.int .u32 (xh:Int),.int .u64 (xx:Int),.int .u32 (xm:Int)] 64)).alloc (.cells #[.int .u32 (yt:Int),.int .u32 (yh:Int),.int .u64 (yx:Int),.int .u32 (ym:Int)] 64)).cell? ⟨w.heap.size,j,none⟩=some v):=aa (fun j v hv=>by simpa using hv);have KY:Hid (∀j v,(#[Value.int .u32 (yt:Int),.int .u32 (yh:Int),.int .u64 (yx:Int),.int .u32 (ym:Int)]:Array Value)[j]? = some v->((w.alloc (.cells #[.int .u32 (xt:Int),.int .u32 (xh:Int),.int .u64 (xx:Int),.int .u32 (xm:Int)] 64)).alloc (.cells #[.int .u32 (yt:Int),.int .u32 (yh:Int),.int .u64 (yx:Int),.int .u32 (ym:Int)] 64)).cell? ⟨w.heap.size+1,j,none⟩=some v):=aa (fun j v hv=>by simpa using hv);go_wp2;generalize ((w.alloc (.cells #[.int .u32 (xt:Int),.int .u32 (xh:Int),.int .u64 (xx:Int),.int .u32 (xm:Int)] 64)).alloc (.cells #[.int .u32 (yt:Int),.int .u32 (yh:Int),.int .u64 (yx:Int),.int .u32 (ym:Int)] 64))=W at *;have C1:Hid (W.cell? ⟨jb,1,none⟩=some (uv bf)):=aa (HG.o.cell Rj.o);have C3:Hid (W.cell? ⟨bf,0,none⟩=some (.int .i64 (lY b:Int))):=aa (HG.o.cell JD.o);refine cR (dX W) ag ag (dX.refl W).drew ?_;iterate 3 (refine qz ?_)
 refine qz ?_ (fun w' hw'=>by have hc:=hw'.cell C1.o;unfold uv at hc;go_simp<;>rfl);refine qz ?_ (fun w' hw'=>by have e0:=hw'.cell (KX.o 0 _ rfl);have e1:=hw'.cell (KX.o 1 _ rfl);have e2:=hw'.cell (KX.o 2 _ rfl);have e3:=hw'.cell (KX.o 3 _ rfl);go_simp<;>rfl);refine qw (fun w' hw'=>(hx.o w' (hw'.cell C3.o)).mono (fun e w'' h=>⟨h.1,hw'.trans h.2⟩)) ?_;iterate 5 (refine qz ?_)
 refine wpQuiet_nil ?_;intro W1 hW1;have NU:=aa hW1;clear hW1;go_wp2;refine cR (dX W1) ag ag (dX.refl W1).drew ?_;iterate 3 (refine qz ?_)
 refine qz ?_ (fun w' hw'=>by have hc:=hw'.cell (NU.o.cell C1.o);unfold uv at hc;go_simp<;>rfl);refine qz ?_ (fun w' hw'=>by have e0:=hw'.cell (NU.o.cell (KY.o 0 _ rfl));have e1:=hw'.cell (NU.o.cell (KY.o 1 _ rfl));have e2:=hw'.cell (NU.o.cell (KY.o 2 _ rfl));have e3:=hw'.cell (NU.o.cell (KY.o 3 _ rfl));go_simp<;>rfl);refine qw (fun w' hw'=>(hy.o w' (hw'.cell (NU.o.cell C3.o))).mono (fun e w'' h=>⟨h.1,hw'.trans h.2⟩)) ?_;iterate 5 (refine qz ?_)
 refine wpQuiet_nil ?_;intro W2 hW2;have Ri:=aa (NU.o.trans hW2);have yI:=aa (HG.o.trans Ri.o);clear hW2;have e0:=Ri.o.cell (KX.o 0 _ rfl);have e1:=Ri.o.cell (KX.o 1 _ rfl);have e2:=Ri.o.cell (KX.o 2 _ rfl);have e3:=Ri.o.cell (KX.o 3 _ rfl);have f0:=Ri.o.cell (KY.o 0 _ rfl);have f1:=Ri.o.cell (KY.o 1 _ rfl);have f2:=Ri.o.cell (KY.o 2 _ rfl);have f3:=Ri.o.cell (KY.o 3 _ rfl);rcases Nat.lt_trichotomy a1 b1 with g | g | g
 ·have g':(a1:Int)<(b1:Int):=by omega
  have gn:¬(a1:Int)=(b1:Int):=by omega
  have hr:Hid (R=-1):=aa (by rw[yG.o,if_pos g]);go_wp2_with fail;refine(rA _ _).mono ?_;rintro e w'⟨rfl,rfl⟩;go_wp2;go_ret;exact⟨by rw[hr.o];rfl,yI.o⟩
 ·subst g;rcases Nat.lt_trichotomy a2 b2 with g | g | g
  ·have g':(a2:Int)<(b2:Int):=by omega
   have gn:¬(a2:Int)=(b2:Int):=by omega
   have hr:Hid (R=-1):=aa (by rw[yG.o,if_neg ae,if_neg ae,if_pos g]);go_wp2_with fail;refine(rA _ _).mono ?_;rintro e w'⟨rfl,rfl⟩;go_wp2;go_ret;exact⟨by rw[hr.o];rfl,yI.o⟩
  ·subst g;cases q1 with
   |true=>
     have hr:Hid (R=-1):=aa (by rw[yG.o,if_neg ae,if_neg ae,if_neg ae,if_neg ae,if_pos rfl]);go_wp2_with fail;refine(acU.o _).mono ?_;rintro e w'⟨rfl,hw⟩;go_wp2;go_ret;exact⟨by rw[hr.o];rfl,yI.o.trans hw⟩
   |false=>
     go_wp2_with fail;refine(acU.o _).mono ?_;rintro e W3⟨rfl,hw⟩;have y9:=aa hw;have e0:=hw.cell e0;have e1:=hw.cell e1;have e2:=hw.cell e2;have e3:=hw.cell e3;have f0:=hw.cell f0;have f1:=hw.cell f1;have f2:=hw.cell f2;have f3:=hw.cell f3;clear hw;cases q2 with
     |true=>
       have hr:Hid (R=1):=aa (by rw[yG.o,if_neg ae,if_neg ae,if_neg ae,if_neg ae,if_neg af,if_pos rfl]);go_wp2_with fail;refine(acV.o _).mono ?_;rintro e w'⟨rfl,hw⟩;go_wp2;go_ret;exact⟨by rw[hr.o];rfl,(yI.o.trans y9.o).trans hw⟩
     |false=>
       have hr:Hid (R=0):=aa (by rw[yG.o,if_neg ae,if_neg ae,if_neg ae,if_neg ae,if_neg af,if_neg af]);go_wp2_with fail;refine(acV.o _).mono ?_;rintro e w'⟨rfl,hw⟩;go_wp2;go_ret;exact⟨by rw[hr.o];rfl,(yI.o.trans y9.o).trans hw⟩
  ·have g':¬(a2:Int)<(b2:Int):=by omega
   have gn:¬(a2:Int)=(b2:Int):=by omega
   have hr:Hid (R=1):=aa (by rw[yG.o,if_neg ae,if_neg ae,if_neg ae,if_pos g]);go_wp2_with fail;refine(rA _ _).mono ?_;rintro e w'⟨rfl,rfl⟩;go_wp2;go_ret;exact⟨by rw[hr.o];rfl,yI.o⟩
 ·have g':¬(a1:Int)<(b1:Int):=by omega
  have gn:¬(a1:Int)=(b1:Int):=by omega
  have hr:Hid (R=1):=aa (by rw[yG.o,if_neg ae,if_pos g]);go_wp2_with fail;refine(rA _ _).mono ?_;rintro e w'⟨rfl,rfl⟩;go_wp2;go_ret;exact⟨by rw[hr.o];rfl,yI.o⟩
end
section
open Go.RowKit
theorem xU:(prog.info? 9).map (fun i=>(i.zero,i.size,i.bytes))=some (some (.string ByteArray.empty),1,16):=by kernel_rfl
def bH(w:World)(v:Value)(ns:List Name):Prop:=
 ∃g off cap cur,v=.slice (some ⟨g,off,none⟩) ns.length cap/\w.heap[g]? = some (.cells cur 9 (0,0))/\off+cap<=cur.size/\cap<=maxLen/\ns.length<=cap/\∀j(h:j<ns.length),cur[off+j]? = some (.string ns[j])
section
variable {S:Nat->Prop} {w w':World} {v:Value} {ns:List Name}
theorem bH.kept(h:bH w v ns)(hb:∀b,v.ownBlock=some b->w'.heap[b]? = w.heap[b]?):bH w' v ns:=by
 obtain⟨g,off,cap,cur,rfl,hg,r⟩:=h;exact⟨g,off,cap,cur,rfl,(hb g rfl).trans hg,r⟩
theorem bH.lt(h:bH w v ns):∀b,v.ownBlock=some b->b<w.heap.size:=by
 obtain⟨g,off,cap,cur,rfl,hg,r⟩:=h;intro b hb;cases hb;grind
theorem bH.below(h:bH w v ns)(hb:Below w.heap.size w w'):bH w' v ns:=h.kept fun b hv=>hb.block b (h.lt b hv)
theorem bH.turn(h:bH w v ns)(ht:aH S w w')(hs:∀b,v.ownBlock=some b->¬S b):bH w' v ns:=h.kept fun b hv=>ht.block b (h.lt b hv) (hs b hv)
theorem bH.cells{g off cap len:Nat}(h:bH w (.slice (some ⟨g,off,none⟩) len cap) ns):len=ns.length/\len<=cap/\cap<=maxLen/\∀j(h:j<ns.length),w.cell? ⟨g,off+j,none⟩=some (.string ns[j]):=by
 obtain⟨g',off',cap',cur,he,hg,h1,h2,h3,h4⟩:=h;grind [aq]
theorem bH.shape(h:bH w v ns):∃g off cap,v=.slice (some ⟨g,off,none⟩) ns.length cap:=by
 obtain⟨g,off,cap,cur,rfl,_⟩:=h;simp
theorem bH.Dr{base:Nat}(hr:w.ownsRow base 9 1 v ns.length (ns.map Value.string))(hn:ns≠[]):bH w v ns:=by
 obtain⟨hl,⟨h1,h2⟩|⟨g,cap,cur,rfl,hg,hh,hc,hm,hs,ht⟩⟩:=hr
 ·grind
 ·refine⟨g,0,cap,cur,rfl,hh,ae,hm,hc,fun j hj=>?_⟩;have h3:(cur.toList.take (ns.length*1))[j]? = (ns.map Value.string)[j]? := by rw[ht]
  grind
theorem bH.take{g off cap len:Nat}(h:bH w (.slice (some ⟨g,off,none⟩) len cap) ns){n:Nat}(hn:n<=ns.length):bH w (.slice (some ⟨g,off,none⟩) n cap) (ns.take n):=by
 obtain⟨g',off',cap',cur,he,hg,h1,h2,h3,h4⟩:=h;cases he;have hl:(ns.take n).length=n:=by grind
 refine⟨g,off,cap,cur,by rw[hl],hg,h1,h2,ae,fun j hj=>?_⟩;grind
theorem bH.drop{g off cap len:Nat}(h:bH w (.slice (some ⟨g,off,none⟩) len cap) ns){n:Nat}(hn:n<=ns.length):bH w (.slice (some ⟨g,off+n,none⟩) (len-n) (cap-n)) (ns.drop n):=by
 obtain⟨g',off',cap',cur,he,hg,h1,h2,h3,h4⟩:=h;cases he;have hl:(ns.drop n).length=ns.length-n:=List.length_drop ..;refine⟨g,off+n,cap-n,cur,by rw[hl],hg,ae,ae,ae,fun j hj=>?_⟩;grind
theorem bH.U4{g off cap len:Nat}(h:bH w (.slice (some ⟨g,off,none⟩) len cap) ns)(hn:len=cap):bH w (.slice (some ⟨g,off,none⟩) 0 0) []:=by
 obtain⟨g',off',cap',cur,he,hg,h1,h2,h3,h4⟩:=h;cases he;exact⟨g,off,0,cur,rfl,hg,ae,ah,Nat.le_refl _,fun j hj=>absurd hj (Nat.not_lt_zero _)⟩
def lj(w:World)(v:Value)(ns:List Name)(x:Name)(v':Value)(w':World):Prop:=
 bH w' v' (ns++[x])/\aH (fun b=>v.ownBlock=some b) w w'/\(v'.ownBlock=v.ownBlock\/v'.ownBlock=some w.heap.size)
theorem yK(t ty:TypeId)(ht:prog.underlying t=some (.slice 9))(h:bH w v ns)(x:Name)(a:Addr)(c:Nat)(hx:w.cell? a=some (.string x))(hn:ns.length<=100000) :
 ∃v' w',(Builtin.append_ #[t,t] ty #[v,.slice (some a) 1 c]).run prog w=.ok v' w'/\lj w v ns x v' w':=by
 obtain⟨i0,hi,hz0,hz1,hz2⟩:=info_parts xU;obtain⟨g,off,cap,cur,rfl,hg,h1,h2,h3,h4⟩:=h;have hnews:∀j u,[Value.string x][j]? = some u->w.cell? (a.add j)=some u:=fun j u hj=>by
  grind [Addr.add]
 have pA:Src prog i0.size t (.slice (some a) 1 c) 1 [Value.string x] w:=Src.ofSlice w ht a 1 c _ (by grind) hnews (by simp[Value.oneCell']);by_cases hroom:ns.length+1<=cap
 ·have il:off+ns.length<cur.size:=by omega
  have hr:=run_append_room_src (P:=prog) (w:=w) t t ty 9 i0 ht hi g off ns.length cap _ 1 [Value.string x] pA hroom (fun j hj=>by
   have:j=0:=by grind
   subst this;rw[hz1,aq hg,Nat.mul_one,Nat.add_zero,Array.getElem?_eq_getElem il];rfl) (fun j hj=>aO hg _)
  refine⟨_,_,hr,⟨g,off,cap,cur.setIfInBounds (off+ns.length) (.string x),ah,?_,by grind,h2,by grind,fun j hj=>?_⟩,?_,.inl rfl⟩
  ·show(w.setCell _ _).heap[g]? = _;rw[hz1,Nat.mul_one];grind [aT]
  ·grind
  ·exact(aH.refl _ w).setCell _ _ (.inl rfl)
 ·have holds:∀j u,(ns.map Value.string)[j]? = some u->w.drew.cell? ((⟨g,off,none⟩:Addr).add j)=some u:=fun j u hj=>by
   rw[List.getElem?_map]at hj;by_cases kY:j<ns.length
   ·rw[List.getElem?_eq_getElem kY]at hj;cases hj;show w.cell? _=_;grind [bG,aq]
   grind
  have BW:=run_firstCells_some (P:=prog) w.drew i0.size ns.length ⟨g,off,none⟩ ns.length cap (ns.map Value.string) (by grind) holds;have hr:=run_append_grow_src (P:=prog) (w:=w) t t ty 9 i0 (.string ByteArray.empty) ht hi hz0 (some ⟨g,off,none⟩) ns.length cap (ns.map Value.string) BW _ 1 [Value.string x] pA ae ae (growslice_fits ae (by grind));have vG:=grownCap_ge w (ns.length+1) cap 9;have hle:=grownCap_le_maxLen w (ns.length+1) cap 9 (by grind [maxLen]);refine⟨_,_,hr,⟨w.heap.size,0,grownCap w (ns.length+1) cap 9,_,ah,heap_alloc_new w.drew _,?_,hle,by grind,fun j hj=>?_⟩,(aH.refl _ w).drew.alloc _,.inr rfl⟩
  ·simp only[Array.size_append,List.size_toArray,List.length_append,List.length_map,List.length_singleton,size_zeroCells];show 0+_<=_+_*1;omega
  grind
theorem iG{ops:Array Oper}{rest:List Oper}{op:Oper}{a:Act}{Q:Exit->Act->World->Prop}(hgd:op.guard=none)(s y:Operand)(t:TypeId)(ho:op.op=.call { callee:=.builtin .append,args:=#[s,y],argTypes:=#[t,t] })(ht:prog.underlying t=some (.slice 9))(hv:a.eval s=v)(h:bH w v ns)(x:Name)(ad:Addr)(c:Nat)(hy:a.eval y=.slice (some ad) 1 c)(hx:w.cell? ad=some (.string x))(hn:ns.length<=100000)(k:∀v' w',lj w v ns x v' w'->wpList prog ops Q rest (a.put op.dst v') w'):wpList prog ops Q (op::rest) a w:=by
 refine wpList_plain hgd fun K hK=>?_;obtain⟨v',w',h1,h2⟩:=yK t op.type ht h x ad c hx hn;unfold Oper.wp execOp;simp only[ho,resolve,invoke,builtin,Sem.run_bind,Sem.run_pure,Result.andThen_ok,List.map_toArray,List.map_cons,List.map_nil,hv,hy,h1];exact hK _ _ (k v' w' h2)
end
end
section
open Go.RowKit Go.Maps Go.MapKept
def aw(es:List aJ)(fl:Bool):gT:=.inl (bz (eQ 20) (es.map aJ.bytes),fl)
theorem dY(es:List aJ):gF 20 (es.map aJ.bytes):=fun r hr=>by
 obtain⟨e,_,rfl⟩:=List.mem_map.1 hr;exact e.eF
def bC(w:World)(cb sb at' n:Nat)(e:aJ):Prop:=∃t,w.heap[cb]? = some (.cells #[ptrTo sb,.int .i64 (at':Int),.int .i64 (n:Int),.int .u32 (e.t.toNat:Int),.int .u32 (e.h.toNat:Int),.int .u64 (e.x.toNat:Int),.int .u32 (e.m.toNat:Int)] t)
def dL(w:World)(kb sb:Nat)(last:aJ)(any:Bool):Prop:=∃t,w.heap[kb]? = some (.cells #[ptrTo sb,.int .u32 (last.t.toNat:Int),.int .u32 (last.h.toNat:Int),.int .u64 (last.x.toNat:Int),.int .u32 (last.m.toNat:Int),.bool any] t)
section
variable {S:Nat->Prop} {w w':World} {pb db n cb kb sb:Nat} {name:Name} {o o':ar} {d d':Dsk} {L L':aD}
theorem bC.kept{i N:Nat}{e:aJ}(h:bC w cb sb i N e)(hb:w'.heap[cb]? = w.heap[cb]?):bC w' cb sb i N e:=by
 obtain⟨t,h⟩:=h;exact⟨t,hb.trans h⟩
theorem bC.lt{i N:Nat}{e:aJ}(h:bC w cb sb i N e):cb<w.heap.size:=by
 obtain⟨t,h⟩:=h;exact(Array.getElem?_eq_some_iff.1 h).1
theorem bC.below{i N:Nat}{e:aJ}(h:bC w cb sb i N e)(hb:Below w.heap.size w w'):bC w' cb sb i N e:=h.kept (hb.block _ h.lt)
theorem bC.cells{i N:Nat}{e:aJ}(h:bC w cb sb i N e) :
 (w.cell? ⟨cb,0,none⟩=some (ptrTo sb)/\w.cell? ⟨cb,1,none⟩=some (.int .i64 (i:Int))/\w.cell? ⟨cb,2,none⟩=some (.int .i64 (N:Int))) /\
 (w.cell? ⟨cb,3,none⟩=some (.int .u32 (e.t.toNat:Int))/\w.cell? ⟨cb,4,none⟩=some (.int .u32 (e.h.toNat:Int))/\w.cell? ⟨cb,5,none⟩=some (.int .u64 (e.x.toNat:Int))/\w.cell? ⟨cb,6,none⟩=some (.int .u32 (e.m.toNat:Int))) /\
 ∀j,w.frozen? ⟨cb,j,none⟩=false:=by
 obtain⟨t,h⟩:=h;refine⟨⟨?_,?_,?_⟩,⟨?_,?_,?_,?_⟩,fun j=>aO h j⟩<;>rw[aq h]<;>rfl
theorem bC.U5{i N:Nat}{e e':aJ}(h:bC w cb sb i N e) :
 bC ((((w.setCell ⟨cb,3,none⟩ (.int .u32 (e'.t.toNat:Int))).setCell ⟨cb,4,none⟩ (.int .u32 (e'.h.toNat:Int))).setCell ⟨cb,5,none⟩ (.int .u64 (e'.x.toNat:Int))).setCell ⟨cb,6,none⟩ (.int .u32 (e'.m.toNat:Int))) cb sb i N e':=by
 obtain⟨t,h⟩:=h;refine⟨t,?_⟩;have h2:=aT h 3 (.int .u32 (e'.t.toNat:Int));have h3:=aT h2 4 (.int .u32 (e'.h.toNat:Int));have h4:=aT h3 5 (.int .u64 (e'.x.toNat:Int));exact aT h4 6 (.int .u32 (e'.m.toNat:Int))
theorem bC.setAt{i N i':Nat}{e:aJ}(h:bC w cb sb i N e):bC (w.setCell ⟨cb,1,none⟩ (.int .i64 (i':Int))) cb sb i' N e:=by
 obtain⟨t,h⟩:=h;exact⟨t,aT h 1 (.int .i64 (i':Int))⟩
theorem dL.kept{x:aJ}{a:Bool}(h:dL w kb sb x a)(hb:w'.heap[kb]? = w.heap[kb]?):dL w' kb sb x a:=by
 obtain⟨t,h⟩:=h;exact⟨t,hb.trans h⟩
theorem dL.lt{x:aJ}{a:Bool}(h:dL w kb sb x a):kb<w.heap.size:=by
 obtain⟨t,h⟩:=h;exact(Array.getElem?_eq_some_iff.1 h).1
theorem dL.below{x:aJ}{a:Bool}(h:dL w kb sb x a)(hb:Below w.heap.size w w'):dL w' kb sb x a:=h.kept (hb.block _ h.lt)
theorem dL.cells{x:aJ}{a:Bool}(h:dL w kb sb x a) :
 w.cell? ⟨kb,0,none⟩=some (ptrTo sb)/\w.cell? ⟨kb,1,none⟩=some (.int .u32 (x.t.toNat:Int))/\w.cell? ⟨kb,2,none⟩=some (.int .u32 (x.h.toNat:Int))/\w.cell? ⟨kb,3,none⟩=some (.int .u64 (x.x.toNat:Int))/\w.cell? ⟨kb,4,none⟩=some (.int .u32 (x.m.toNat:Int))/\w.cell? ⟨kb,5,none⟩=some (.bool a) /\
 ∀j,w.frozen? ⟨kb,j,none⟩=false:=by
 obtain⟨t,h⟩:=h;refine⟨?_,?_,?_,?_,?_,?_,fun j=>aO h j⟩<;>rw[aq h]<;>rfl
theorem dL.set{x y:aJ}{a:Bool}(h:dL w kb sb x a) :
 dL (((((w.setCell ⟨kb,1,none⟩ (.int .u32 (y.t.toNat:Int))).setCell ⟨kb,2,none⟩ (.int .u32 (y.h.toNat:Int))).setCell ⟨kb,3,none⟩ (.int .u64 (y.x.toNat:Int))).setCell ⟨kb,4,none⟩ (.int .u32 (y.m.toNat:Int))).setCell ⟨kb,5,none⟩ (.bool true)) kb sb y true:=by
 obtain⟨t,h⟩:=h;refine⟨t,?_⟩;have h1:=aT h 1 (.int .u32 (y.t.toNat:Int));have h2:=aT h1 2 (.int .u32 (y.h.toNat:Int));have h3:=aT h2 3 (.int .u64 (y.x.toNat:Int));have h4:=aT h3 4 (.int .u32 (y.m.toNat:Int));exact aT h4 5 (.bool true)
def Ak(n pb db:Nat)(w:World)(o:ar)(d:Dsk)(L:aD)(cb sb i N:Nat)(x:aJ)(e:Ending)(w':World):Prop:=
 ∃c d' o',e=.returned (.tuple #[.bool (c == 0),.int .i64 ((c:Nat):Int)])/\au (·=cb) n pb db w o d w' o' d' L/\(c=0\/kI d d' L c)/\(c=0->bC w' cb sb (i+1) N x)
theorem lZ{i N:Nat}{x0:aJ}(pA:bC w cb sb i N x0)(hi:N<=i) :
 Calls prog 221 #[ptrTo cb] w fun e w'=>e=.returned (.tuple #[.bool false,.int .i64 0])/\∃q,w'=w.drewN q:=by
 obtain⟨⟨hc0,hc1,hc2⟩,-,-⟩:=pA.cells;have vG:((i:Int) >= (N:Int)):=by omega
 clear pA hc0;unfold ptrTo;go_enter func221,ntmps221;go_wp2;go_quiet (fail)
 go_wp2;go_ret2;exact⟨rfl,_,rfl⟩
theorem si(HW:aP)(h:aQ w pb db n o d L)(hst:aC w sb pb name 20)(ho:o sb=none){i:Nat}{x0:aJ}{es:List aJ}{fl:Bool}(pA:bC w cb sb i es.length x0)(NY:o cb=none)(hL:aB L name=some (aw es fl))(hi:i<es.length) :
 Calls prog 221 #[ptrTo cb] w (Ak n pb db w o d L cb sb i es.length es[i]):=by
 have jg:=(h.dJ hL).1;have hN:es.length<=16777216:=by
  rw[dW,List.length_map]at jg;have h3:es.length<=eQ 20*cA (eQ 20) es.length:=Nat.le_of_not_lt (fun h=>Nat.lt_irrefl _ ((fe af).2 h));have EB:eQ 20=12:=by decide
  rw[EB]at h3 jg;omega
 have gV:Hid (∀W,Below w.heap.size w W->Calls prog 57 #[ptrTo sb,.int .i64 (i:Int)] W (uo n pb db W o d L es[i].bytes)):=aa (fun W hW=>by
  have:=jo HW (h.below hW) (hst.below hW) ho af af hL (dY es) (i:=i) (by rw[List.length_map];exact hi);rw[List.getElem_map]at this;exact this)
 have H:=aa h;have HS:=aa pA;have Xn:=aa NY;have zK:=pA.lt;generalize es[i]=x at *;generalize es.length=N at *;have hlt:¬((i:Int) >= (N:Int)):=by omega
 obtain⟨⟨hc0,hc1,hc2⟩,-,-⟩:=pA.cells;have rN:IntKind.i64.wrap ((i:Int)+1)=(i:Int)+1:=ax ae ae;clear h hst ho pA NY hL jg hi hN hc0;unfold ptrTo at *;go_enter func221,ntmps221;go_wp2;go_quiet (fail)
 have cT:Hid (Below w.heap.size w (w.drewN nq)):=aa (below_drewN aj _);have iY:Hid (bC (w.drewN nq) cb sb i N x0):=aa (HS.o.below cT.o);generalize w.drewN nq=w1 at *;clear hc1 hc2;go_wp2;refine cG (Below w1.heap.size w1) 8 rfl ag ag (aj.drew) ?_;simp only[List.take_succ_cons,List.take_zero];iterate 3 (refine qz ?_)
 refine qz ?_ (fun w' hw'=>by have hc:=(iY.o.below hw').cells.1.1;unfold ptrTo at hc;go_simp<;>rfl);iterate 3 (refine qz ?_)
 refine qz ?_ (fun w' hw'=>by have hc:=(iY.o.below hw').cells.1.2.1;go_simp<;>rfl);refine wpQuiet_nil ?_;intro w2 hw2;refine⟨_,_,rfl,(by go_simp<;>exact⟨rfl,rfl⟩),?_⟩;have cZ:Hid (Below w.heap.size w w2):=aa (cT.o.trans (hw2.mono cT.o.size));refine(gV.o w2 cZ.o).mono ?_;rintro e w3⟨v3,c3,d3,o3,rfl,ej,Dm,uk,Ae⟩;have eC:Hid (au (·=cb) n pb db w o d w3 o3 d3 L):=aa ((au.aW H.o cZ.o).trans ej (fun _ _ h=>h.elim));have fB:Hid (bC w3 cb sb i N x0):=aa ((HS.o.below cZ.o).kept (ej.block (Nat.lt_of_lt_of_le zK cZ.o.size) Xn.o (fun h=>h)));have Ck:=aa Dm;clear hw2 ej Dm;by_cases hc3:c3=0
 ·subst hc3;obtain⟨iN,hf3⟩:=uk rfl;obtain⟨a3,k3,rfl⟩:=az iN;have BD:=aa (fw iN);have mG:=aa iN;have ah0:Hid (∀b,(Value.slice a3 x.bytes.length k3).ownBlock=some b->b≠cb):=aa (fun b hb e=>by
   have:=aF iN b hb;have:=cZ.o.size;omega)
  clear uk Ae iN hf3;refine⟨_,rfl,?_⟩;go_simp;iterate 5 (refine qz ?_)
  refine wpQuiet_nil ?_;obtain⟨⟨-,hc1,-⟩,-,Jz⟩:=fB.o.cells;have hz1:=Jz 1;have HRS:Hid (Rd (w3.setCell ⟨cb,1,none⟩ (.int .i64 ((i:Int)+1))) (.slice a3 x.bytes.length k3) x.bytes):=aa (((aH.refl (·=cb) w3).setCell ⟨cb,1,none⟩ _ (.inl rfl)).rd BD.o (fun b hb e=>ah0.o b hb e));have gq:Hid (bC (w3.setCell ⟨cb,1,none⟩ (.int .i64 ((i:Int)+1))) cb sb (i+1) N x0):=aa (by
   have:=fB.o.setAt (i':=i+1);rwa [show((i+1:Nat):Int)=(i:Int)+1 by omega]at this)
  have gp:Hid (au (·=cb) n pb db w o d (w3.setCell ⟨cb,1,none⟩ (.int .i64 ((i:Int)+1))) o3 d3 L):=aa (eC.o.setCell _ _ (eC.o.free zK Xn.o) (.inl rfl));clear Jz;go_wp2_with fail;generalize w3.setCell ⟨cb,1,none⟩ (.int .i64 ((i:Int)+1))=w4 at *;refine(qE _ x _ HRS.o).mono ?_;rintro e w5⟨rfl,oh⟩;have b9:=aa (gq.o.below oh);have lF:=aa (gp.o.below oh);clear oh hc1 hz1;obtain⟨-,⟨k3',k4',k5',k6'⟩,Jz⟩:=b9.o.cells;have hz3:=Jz 3;have uY:=Jz 4;have T3:=Jz 5;have WU:=Jz 6;clear Jz;go_wp2;go_ret2;have U6:=eC.o.free zK Xn.o;exact⟨0,d3,o3,rfl,(((lF.o.setCell ⟨cb,3,none⟩ _ U6 (.inl rfl)).setCell ⟨cb,4,none⟩ _ U6 (.inl rfl)).setCell ⟨cb,5,none⟩ _ U6 (.inl rfl)).setCell ⟨cb,6,none⟩ _ U6 (.inl rfl),.inl rfl,fun _=>b9.o.U5⟩
 ·obtain rfl:=Ae hc3;have Kn:¬(c3:Int)=0:=by omega
  have JD:=aa hc3;clear hc3 uk Ae;refine⟨_,rfl,?_⟩;go_simp;iterate 5 (refine qz ?_)
  refine wpQuiet_nil ?_;go_wp2;go_ret2;exact⟨c3,d3,o3,by rw[beq_false_of_ne JD.o];rfl,eC.o,Ck.o,fun h=>absurd h JD.o⟩
end
end
section
open Go.RowKit Go.Maps Go.MapKept
section
variable {S:Nat->Prop} {w w':World} {pb db n kb sb:Nat} {name:Name} {o o':ar} {d d':Dsk} {L L':aD}
def eZ(w:World)(kb sb:Nat)(out:List aJ):Prop:=(out=[]/\∃x,dL w kb sb x false)\/∃x,out.getLast? = some x/\dL w kb sb x true
theorem eZ.kept{out:List aJ}(h:eZ w kb sb out)(hb:w'.heap[kb]? = w.heap[kb]?):eZ w' kb sb out:=
 h.imp (fun⟨h1,x,h2⟩=>⟨h1,x,h2.kept hb⟩) (fun⟨x,h1,h2⟩=>⟨x,h1,h2.kept hb⟩)
theorem eZ.lt{out:List aJ}(h:eZ w kb sb out):kb<w.heap.size:=by
 rcases h with⟨_,x,h⟩|⟨x,_,h⟩
 ·exact h.lt
 ·exact h.lt
theorem eZ.below{out:List aJ}(h:eZ w kb sb out)(hb:Below w.heap.size w w'):eZ w' kb sb out:=h.kept (hb.block _ h.lt)
theorem Cp{κ υ:Type}[DecidableEq κ]{m:List (κ×υ)}{k:κ}{v:υ}(h:aB m k=some v)(k':κ):aB (aS m k v) k'=aB m k':=by
 grind [ay]
theorem au.same(h:au S n pb db w o d w' o' d' L){f:gT}(hL:aB L name=some f):au S n pb db w o d w' o' d' (aS L name f):=
 h.congr (cF h.aX.keys) (fun x=>Cp hL x)
def Al(n pb db:Nat)(w:World)(o:ar)(d:Dsk)(L:aD)(name:Name)(kb sb:Nat)(out:List aJ)(x:aJ)(e:Ending)(w':World):Prop:=
 ∃c d' o',e=.returned (.int .i64 ((c:Nat):Int))/\au (·=kb) n pb db w o d w' o' d' (if c=0 then aS L name (aw (sU out x) false) else L)/\(c=0\/kI d d' L c)/\(c=0->eZ w' kb sb (sU out x))
def qF(last:aJ)(any:Bool)(x:aJ):Bool:=decide (x.t=x.h) || (any && (decide (last.t=x.t) && decide (last.h=x.h)))
theorem Am{a b:UInt32}(h:¬a=b):¬((a.toNat:Int)=(b.toNat:Int))/\((a.toNat:Int) == (b.toNat:Int))=false/\¬a.toNat=b.toNat/\decide (a.toNat=b.toNat)=false/\decide ((a.toNat:Int)=(b.toNat:Int))=false:=by
 grind [UInt32.toNat_inj]
theorem Rm{last x:aJ}{any:Bool}(hk:dL w kb sb last any)(hs:qF last any x=true) :
 Calls prog 225 #[ptrTo kb,.agg #[.int .u32 (x.t.toNat:Int),.int .u32 (x.h.toNat:Int),.int .u64 (x.x.toNat:Int),.int .u32 (x.m.toNat:Int)]] w fun e w'=>e=.returned (.int .i64 0)/\Below w.heap.size w w':=by
 obtain⟨hc0,hc1,hc2,hc3,ik,BC,-⟩:=hk.cells;have yE:=hk.lt;clear hk hc0 hc3 ik;unfold qF at hs;unfold ptrTo;by_cases h1:x.t=x.h
 ·rw[h1];clear hs h1 hc1 hc2 BC;go_enter func225,ntmps225;go_wp2;go_quiet (fail)
  go_wp2;go_ret;exact⟨rfl,below_drewN ai _⟩
 ·cases any with
  |false=>grind
  |true=>
    obtain⟨g1,g2,g3,g4,g5⟩:=Am h1;simp only[h1,decide_false,Bool.false_or,Bool.true_and,Bool.and_eq_true,decide_eq_true_eq]at hs;obtain⟨h2,h3⟩:=hs;rw[h2]at hc1;rw[h3]at hc2;clear h1 h2 h3;go_enter func225,ntmps225;go_wp2;go_quiet (fail)
    go_wp2;go_ret;exact⟨rfl,below_drewN ai _⟩
theorem Kq{out:List aJ}{last:aJ}{any:Bool}{x:aJ}(h:(out=[]/\any=false)\/(out.getLast? = some last/\any=true)):(qF last any x=true->sU out x=out)/\(qF last any x=false->sU out x=out++[x]):=by
 unfold qF;constructor
 ·intro hs;refine vR ?_;simp only[Bool.or_eq_true,Bool.and_eq_true,decide_eq_true_eq]at hs;rcases hs with hs |⟨h1,h2,h3⟩
  ·exact .inl hs
  ·rcases h with⟨_,h⟩|⟨h,_⟩
   ·grind
   ·exact .inr ⟨last,h,h2,h3⟩
 ·intro hs;refine zO (fun hk=>?_);simp only[Bool.or_eq_false_iff,Bool.and_eq_false_iff,decide_eq_false_iff_not]at hs;rcases hk with hk |⟨y,hy,hs1,hs2⟩
  ·grind
  grind
theorem U7(HW:aP)(h:aQ w pb db n o d L)(hst:aC w sb pb name 20)(ho:o sb=none)(eD:o kb=none)(hne:kb≠sb){out:List aJ}(hL:aB L name=some (aw out false))(hN:out.length<65535){last x:aJ}{any:Bool}(hk:dL w kb sb last any)(hs:qF last any x=false) :
 Calls prog 225 #[ptrTo kb,.agg #[.int .u32 (x.t.toNat:Int),.int .u32 (x.h.toNat:Int),.int .u64 (x.x.toNat:Int),.int .u32 (x.m.toNat:Int)]] w fun e w'=>
  ∃c d' o',e=.returned (.int .i64 ((c:Nat):Int))/\au (·=kb) n pb db w o d w' o' d' (if c=0 then aS L name (aw (out++[x]) false) else L)/\(c=0\/kI d d' L c)/\dL w' kb sb x true:=by
 have lf:Hid (∀W o' d',aQ W pb db n o' d' L->aC W sb pb name 20->o' sb=none->∀rv,Rd W rv x.bytes->(∀b,rv.ownBlock=some b->o' b=none) ->
  Calls prog 72 #[ptrTo sb,rv] W (jq (fun _=>False) n pb db W o' d' L (aS L name (aw (out++[x]) false)))):=aa (fun W o' d' hW Y8 kN rv hr hro=>by
  have:=j8 HW hW Y8 kN af af hL (dY out) (by grind) hr x.eF hro;grind [aw])
 have acW:=aa (fun W=>uu x W);have H:=aa h;have HST:=aa hst;have HO:=aa ho;have PE:=aa eD;have HK:=aa hk;have sX:=aa hne;obtain⟨-,hc1,hc2,-,-,BC,-⟩:=hk.cells;have yE:=hk.lt;have Zg:Hid (∀W,dL W kb sb last any->dL (((((W.setCell ⟨kb,1,none⟩ (.int .u32 (x.t.toNat:Int))).setCell ⟨kb,2,none⟩ (.int .u32 (x.h.toNat:Int))).setCell ⟨kb,3,none⟩ (.int .u64 (x.x.toNat:Int))).setCell ⟨kb,4,none⟩ (.int .u32 (x.m.toNat:Int))).setCell ⟨kb,5,none⟩ (.bool true)) kb sb x true):=aa (fun W h=>h.set);clear h hst ho eD hk hne hL hN;unfold qF at hs;simp only[Bool.or_eq_false_iff,Bool.and_eq_false_iff,decide_eq_false_iff_not]at hs;obtain⟨hs1,hs2⟩:=hs;obtain⟨a1,a2,a3,a4,a5⟩:=Am hs1;clear hs1;have Hd:any=false\/(any=true/\¬last.t=x.t)\/(any=true/\last.t=x.t/\¬last.h=x.h):=by
  grind
 clear hs2;unfold ptrTo at *;rcases Hd with rfl |⟨rfl,g⟩|⟨rfl,g,g'⟩;case' inr.inl=>
  obtain⟨b1,b2,b3,b4,b5⟩:=Am g;clear g
 case' inr.inr=>
  obtain⟨b1,b2,b3,b4,b5⟩:=Am g';rw[g]at hc1;clear g g'
 all_goals
  go_enter func225,ntmps225;go_wp2;go_quiet (fail)
  have cT:Hid (Below w.heap.size w ((w.alloc (.cells #[.int .u32 (x.t.toNat:Int),.int .u32 (x.h.toNat:Int),.int .u64 (x.x.toNat:Int),.int .u32 (x.m.toNat:Int)] 64)).drewN nq)):=aa (below_drewN ai _);have e0:((w.alloc (.cells #[.int .u32 (x.t.toNat:Int),.int .u32 (x.h.toNat:Int),.int .u64 (x.x.toNat:Int),.int .u32 (x.m.toNat:Int)] 64)).drewN nq).cell? ⟨w.heap.size,0,none⟩=some (.int .u32 (x.t.toNat:Int)):=by simp
  have e1:((w.alloc (.cells #[.int .u32 (x.t.toNat:Int),.int .u32 (x.h.toNat:Int),.int .u64 (x.x.toNat:Int),.int .u32 (x.m.toNat:Int)] 64)).drewN nq).cell? ⟨w.heap.size,1,none⟩=some (.int .u32 (x.h.toNat:Int)):=by simp
  have e2:((w.alloc (.cells #[.int .u32 (x.t.toNat:Int),.int .u32 (x.h.toNat:Int),.int .u64 (x.x.toNat:Int),.int .u32 (x.m.toNat:Int)] 64)).drewN nq).cell? ⟨w.heap.size,2,none⟩=some (.int .u64 (x.x.toNat:Int)):=by simp
  have e3:((w.alloc (.cells #[.int .u32 (x.t.toNat:Int),.int .u32 (x.h.toNat:Int),.int .u64 (x.x.toNat:Int),.int .u32 (x.m.toNat:Int)] 64)).drewN nq).cell? ⟨w.heap.size,3,none⟩=some (.int .u32 (x.m.toNat:Int)):=by simp
  have CX:w.heap.size<((w.alloc (.cells #[.int .u32 (x.t.toNat:Int),.int .u32 (x.h.toNat:Int),.int .u64 (x.x.toNat:Int),.int .u32 (x.m.toNat:Int)] 64)).drewN nq).heap.size:=by simp
  generalize (w.alloc (.cells #[.int .u32 (x.t.toNat:Int),.int .u32 (x.h.toNat:Int),.int .u64 (x.x.toNat:Int),.int .u32 (x.m.toNat:Int)] 64)).drewN nq=w1 at *;clear hc1 hc2 BC;have HK1:=aa (HK.o.below cT.o);obtain⟨k0,k1,k2,k3,k4,k5,Jz⟩:=HK1.o.cells;have z1:=Jz 1;have z2:=Jz 2;have z3:=Jz 3;have z4:=Jz 4;have z5:=Jz 5;have Yj:¬w.heap.size=kb:=by omega
  clear Jz;go_wp2;have Rn:=Zg.o w1 HK1.o;have cQ:au (·=kb) n pb db w o d (((((w1.setCell ⟨kb,1,none⟩ (.int .u32 (x.t.toNat:Int))).setCell ⟨kb,2,none⟩ (.int .u32 (x.h.toNat:Int))).setCell ⟨kb,3,none⟩ (.int .u64 (x.x.toNat:Int))).setCell ⟨kb,4,none⟩ (.int .u32 (x.m.toNat:Int))).setCell ⟨kb,5,none⟩ (.bool true)) o d L:=
   (((((au.aW (S:=(·=kb)) H.o cT.o).setCell ⟨kb,1,none⟩ _ PE.o (.inl rfl)).setCell ⟨kb,2,none⟩ _ PE.o (.inl rfl)).setCell ⟨kb,3,none⟩ _ PE.o (.inl rfl)).setCell ⟨kb,4,none⟩ _ PE.o (.inl rfl)).setCell ⟨kb,5,none⟩ _ PE.o (.inl rfl)
  have U3:w.heap.size<(((((w1.setCell ⟨kb,1,none⟩ (.int .u32 (x.t.toNat:Int))).setCell ⟨kb,2,none⟩ (.int .u32 (x.h.toNat:Int))).setCell ⟨kb,3,none⟩ (.int .u64 (x.x.toNat:Int))).setCell ⟨kb,4,none⟩ (.int .u32 (x.m.toNat:Int))).setCell ⟨kb,5,none⟩ (.bool true)).heap.size:=by simp_all
  have f:∀(j:Nat)(v:Value),w1.cell? ⟨w.heap.size,j,none⟩=some v->(((((w1.setCell ⟨kb,1,none⟩ (.int .u32 (x.t.toNat:Int))).setCell ⟨kb,2,none⟩ (.int .u32 (x.h.toNat:Int))).setCell ⟨kb,3,none⟩ (.int .u64 (x.x.toNat:Int))).setCell ⟨kb,4,none⟩ (.int .u32 (x.m.toNat:Int))).setCell ⟨kb,5,none⟩ (.bool true)).cell? ⟨w.heap.size,j,none⟩=some v:=fun j v hv=>
   ((((((aH.refl (·=kb) w1).setCell ⟨kb,1,none⟩ (.int .u32 (x.t.toNat:Int)) (.inl rfl)).setCell ⟨kb,2,none⟩ (.int .u32 (x.h.toNat:Int)) (.inl rfl)).setCell ⟨kb,3,none⟩ (.int .u64 (x.x.toNat:Int)) (.inl rfl)).setCell ⟨kb,4,none⟩ (.int .u32 (x.m.toNat:Int)) (.inl rfl)).setCell ⟨kb,5,none⟩ (.bool true) (.inl rfl)).cell hv Yj
  have f0:=f 0 _ e0;have f1:=f 1 _ e1;have f2:=f 2 _ e2;have f3:=f 3 _ e3;have Xo:=aa Rn;have eB:=aa cQ;have q0:=Rn.cells.1;unfold ptrTo at q0;clear f Rn cQ e0 e1 e2 e3 k0 k1 k2 k3 k4 k5 z1 z2 z3 z4 z5 HK1;generalize (((((w1.setCell ⟨kb,1,none⟩ (.int .u32 (x.t.toNat:Int))).setCell ⟨kb,2,none⟩ (.int .u32 (x.h.toNat:Int))).setCell ⟨kb,3,none⟩ (.int .u64 (x.x.toNat:Int))).setCell ⟨kb,4,none⟩ (.int .u32 (x.m.toNat:Int))).setCell ⟨kb,5,none⟩ (.bool true))=w2 at *;have ah1:w.heap.size<=w2.heap.size:=Nat.le_of_lt U3;have Nv:Hid (∀w3 v3,w3.ownsRow w2.drew.heap.size 5 1 v3 x.bytes.length (x.bytes.map bv)->Below w2.drew.heap.size w2.drew w3->(w3.cell? ⟨kb,0,none⟩=some (.pointer (some ⟨sb,0,none⟩))/\w3.cell? ⟨w.heap.size,0,none⟩=some (.int .u32 (x.t.toNat:Int))/\w3.cell? ⟨w.heap.size,1,none⟩=some (.int .u32 (x.h.toNat:Int))/\w3.cell? ⟨w.heap.size,2,none⟩=some (.int .u64 (x.x.toNat:Int))/\w3.cell? ⟨w.heap.size,3,none⟩=some (.int .u32 (x.m.toNat:Int))) /\
   au (·=kb) n pb db w o d w3 o d L/\aC w3 sb pb name 20/\Rd w3 v3 x.bytes/\(∀b,v3.ownBlock=some b->o b=none)/\dL w3 kb sb x true):=aa (fun w3 v3 iN hb3=>by
   have ej:=eB.o.drew.below hb3;have hs3:dL w3 kb sb x true:=Xo.o.kept (hb3.block kb Xo.o.lt);have g:=fun(j:Nat)(v:Value)(hv:w2.cell? ⟨w.heap.size,j,none⟩=some v)=>(show w3.cell? ⟨w.heap.size,j,none⟩=some v by rw[hb3.cell (p:=⟨w.heap.size,j,none⟩) U3];exact hv);refine⟨⟨hs3.cells.1,g 0 _ f0,g 1 _ f1,g 2 _ f2,g 3 _ f3⟩,ej,?_,fw iN,fun b hb=>H.o.fresh (Nat.le_trans ah1 (aF iN b hb)),hs3⟩;exact HST.o.moved ej HO.o (fun e=>sX.o e.symm))
  have hk2:Hid (∀w3 w4 d4 o4 L4,au (·=kb) n pb db w o d w3 o d L->dL w3 kb sb x true->w3.cell? ⟨w.heap.size,0,none⟩=some (.int .u32 (x.t.toNat:Int))/\w3.cell? ⟨w.heap.size,1,none⟩=some (.int .u32 (x.h.toNat:Int))/\w3.cell? ⟨w.heap.size,2,none⟩=some (.int .u64 (x.x.toNat:Int))/\w3.cell? ⟨w.heap.size,3,none⟩=some (.int .u32 (x.m.toNat:Int))->au (fun _=>False) n pb db w3 o d w4 o4 d4 L4 ->
   (w4.cell? ⟨kb,0,none⟩=some (.pointer (some ⟨sb,0,none⟩))/\w4.cell? ⟨w.heap.size,0,none⟩=some (.int .u32 (x.t.toNat:Int))/\w4.cell? ⟨w.heap.size,1,none⟩=some (.int .u32 (x.h.toNat:Int))/\w4.cell? ⟨w.heap.size,2,none⟩=some (.int .u64 (x.x.toNat:Int))/\w4.cell? ⟨w.heap.size,3,none⟩=some (.int .u32 (x.m.toNat:Int))) /\
   au (·=kb) n pb db w o d w4 o4 d4 L4/\dL w4 kb sb x true):=aa (fun w3 w4 d4 o4 L4 ej hs3 ⟨g0,g1,g2,g3⟩ eG=>by
   have oX:dL w4 kb sb x true:=hs3.kept (eG.block hs3.lt PE.o (fun h=>h));have hx:o w.heap.size=none:=H.o.fresh (Nat.le_refl _);exact⟨⟨oX.cells.1,eG.cell g0 hx (fun h=>h),eG.cell g1 hx (fun h=>h),eG.cell g2 hx (fun h=>h),eG.cell g3 hx (fun h=>h)⟩,ej.trans eG (fun _ _ h=>h.elim),oX⟩)
  go_region_held3 (fun w'=>w'.cell? ⟨kb,0,none⟩=some (.pointer (some ⟨sb,0,none⟩))/\w'.cell? ⟨w.heap.size,0,none⟩=some (.int .u32 (x.t.toNat:Int))/\w'.cell? ⟨w.heap.size,1,none⟩=some (.int .u32 (x.h.toNat:Int))/\w'.cell? ⟨w.heap.size,2,none⟩=some (.int .u64 (x.x.toNat:Int))/\w'.cell? ⟨w.heap.size,3,none⟩=some (.int .u32 (x.m.toNat:Int))) (first | exact⟨q0,f0,f1,f2,f3⟩| exact q1 | exact q2)
   (first
     | (go_at_call 208;refine(acW.o _).mono ?_;rintro e w3⟨v3,rfl,iN,hb3⟩;obtain⟨q1,ej,um,hr3,hf3,hs3⟩:=Nv.o w3 v3 iN hb3)
     | (go_at_call 72;refine(lf.o w3 o d ej.aX um HO.o v3 hr3 hf3).mono ?_;rintro e w4⟨c4,d4,o4,rfl,eG,vp⟩;obtain⟨q2,lD,hs5⟩:=hk2.o w3 w4 d4 o4 _ ej hs3 q1.2 eG))
  have lF:=aa lD;have b9:=aa hs5;have Cg:=aa vp;clear lD hs5 vp eG ej um hr3 hf3 hs3 iN hb3 q1 q2 q0 f0 f1 f2 f3;go_wp2;go_ret;exact⟨c4,d4,o4,rfl,lF.o,Cg.o,b9.o⟩
theorem xV(HW:aP)(h:aQ w pb db n o d L)(hst:aC w sb pb name 20)(ho:o sb=none)(eD:o kb=none)(hne:kb≠sb){out:List aJ}(hL:aB L name=some (aw out false))(hN:out.length<65535)(hk:eZ w kb sb out)(x:aJ) :
 Calls prog 225 #[ptrTo kb,.agg #[.int .u32 (x.t.toNat:Int),.int .u32 (x.h.toNat:Int),.int .u64 (x.x.toNat:Int),.int .u32 (x.m.toNat:Int)]] w (Al n pb db w o d L name kb sb out x):=by
 obtain⟨last,any,hsk,Hd⟩:∃last any,dL w kb sb last any/\((out=[]/\any=false)\/(out.getLast? = some last/\any=true)):=by
  rcases hk with⟨h1,y,h2⟩|⟨y,h1,h2⟩
  ·grind
  grind
 obtain⟨p1,p2⟩:=Kq (x:=x) Hd;cases hs:qF last any x with
 |true=>
   refine(Rm hsk hs).mono ?_;rintro e w'⟨rfl,hb⟩;refine⟨0,d,o,rfl,?_,.inl rfl,fun _=>?_⟩
   ·rw[if_pos rfl,p1 hs];exact(au.aW h hb).same hL
   grind [eZ.below]
 |false=>
   refine(U7 HW h hst ho eD hne hL hN hsk hs).mono ?_;rintro e w'⟨c,d',o',rfl,hm,he,hs'⟩;refine⟨c,d',o',rfl,by grind,he,fun _=>?_⟩;rw[p2 hs];exact .inr ⟨x,ah,hs'⟩
end
end
end Go.Proofs.YthkkgdpomhhjjaaGreatDoor
namespace Go.Proofs
open Go.Shelf
def Tryz.uw:Go.Shelf.Ren:=⟨fun | 171=>51 | 243=>85 | 246=>126 | 283=>187 | 284=>188 | 285=>189 | 286=>190 | 129=>136 | 317=>232 | 318=>233 | 319=>234 | 320=>235 | 337=>276 | 338=>277 | n=>n,fun | 3=>3 | 9=>9 | 2=>2 | 4=>4 | 171=>276 | 0=>0 | 53=>62 | 37=>39 | 5=>5 | 173=>278 | 212=>311 | 51=>26 | 20=>20 | 213=>312 | 46=>159 | 232=>377 | 233=>378 | n=>n,fun | 17=>0 | 18=>1 | 19=>2 | n=>n⟩
theorem Tryz.itoa:Go.Proofs.LaysM.n171 prog Tryz.uw:={
 mixed:=by kernel_rfl
 f129:=func136.trans ak
 f171:=func51.trans ak
 f243:=func85.trans ak
 f246:=func126.trans ak
 f283:=func187.trans ak
 f284:=func188.trans ak
 f285:=func189.trans ak
 f286:=func190.trans ak
 f317:=func232.trans ak
 f318:=func233.trans ak
 f319:=func234.trans ak
 f320:=func235.trans ak
 f337:=func276.trans ak
 f338:=func277.trans ak
 t0:=Tryz.underlying0
 a0:=Tryz.isAgg0
 z0:=Tryz.sizeOf0
 v0:=Tryz.zeroValue0
 t2:=Tryz.underlying2
 a2:=Tryz.isAgg2
 z2:=Tryz.sizeOf2
 v2:=Tryz.zeroValue2
 t3:=Tryz.underlying3
 a3:=Tryz.isAgg3
 z3:=Tryz.sizeOf3
 v3:=Tryz.zeroValue3
 t4:=Tryz.underlying4
 a4:=Tryz.isAgg4
 z4:=Tryz.sizeOf4
 v4:=Tryz.zeroValue4
 t5:=Tryz.underlying5
 a5:=Tryz.isAgg5
 z5:=Tryz.sizeOf5
 v5:=Tryz.zeroValue5
 t9:=Tryz.underlying9
 a9:=Tryz.isAgg9
 z9:=Tryz.sizeOf9
 v9:=Tryz.zeroValue9
 t20:=Tryz.underlying20
 a20:=Tryz.isAgg20
 z20:=Tryz.sizeOf20
 v20:=Tryz.zeroValue20
 t37:=Tryz.underlying39
 a37:=Tryz.isAgg39
 z37:=Tryz.sizeOf39
 v37:=Tryz.zeroValue39
 t46:=Tryz.underlying159
 a46:=Tryz.isAgg159
 z46:=Tryz.sizeOf159
 v46:=Tryz.zeroValue159
 t51:=Tryz.underlying26
 a51:=Tryz.isAgg26
 z51:=Tryz.sizeOf26
 v51:=Tryz.zeroValue26
 t53:=Tryz.underlying62
 a53:=Tryz.isAgg62
 z53:=Tryz.sizeOf62
 v53:=Tryz.zeroValue62
 t171:=Tryz.underlying276
 a171:=Tryz.isAgg276
 z171:=Tryz.sizeOf276
 v171:=Tryz.zeroValue276
 t173:=Tryz.underlying278
 a173:=Tryz.isAgg278
 z173:=Tryz.sizeOf278
 v173:=Tryz.zeroValue278
 t212:=Tryz.underlying311
 a212:=Tryz.isAgg311
 z212:=Tryz.sizeOf311
 v212:=Tryz.zeroValue311
 t213:=Tryz.underlying312
 a213:=Tryz.isAgg312
 z213:=Tryz.sizeOf312
 t232:=Tryz.underlying377
 a232:=Tryz.isAgg377
 z232:=Tryz.sizeOf377
 v232:=Tryz.zeroValue377
 t233:=Tryz.underlying378
 a233:=Tryz.isAgg378
 z233:=Tryz.sizeOf378
 v233:=Tryz.zeroValue378
 g17:=by kernel_rfl
 g18:=by kernel_rfl
 g19:=by kernel_rfl
 i0:=by kernel_rfl
 i2:=by kernel_rfl
 i3:=by kernel_rfl
 i4:=by kernel_rfl
 i5:=by kernel_rfl
 i9:=by kernel_rfl
 i20:=by kernel_rfl
 i37:=by kernel_rfl
 i46:=by kernel_rfl
 i51:=by kernel_rfl
 i53:=by kernel_rfl
 i171:=by kernel_rfl
 i173:=by kernel_rfl
 i212:=by kernel_rfl
 i232:=by kernel_rfl
 i233:=by kernel_rfl
 m17:=by kernel_rfl
 m18:=by kernel_rfl
 m19:=by kernel_rfl }
def Tryz.Ao:Go.Shelf.Ren:=⟨fun | 99=>114 | 206=>176 | n=>n,fun | 9=>9 | 4=>4 | 3=>3 | n=>n,fun | n=>n⟩
theorem Tryz.Zh:Go.Proofs.Lays.n99 prog Tryz.Ao:={
 mixed:=by kernel_rfl
 f99:=func114.trans ak
 f206:=func176.trans ak
 t3:=Tryz.underlying3
 a3:=Tryz.isAgg3
 z3:=Tryz.sizeOf3
 v3:=Tryz.zeroValue3
 t4:=Tryz.underlying4
 a4:=Tryz.isAgg4
 z4:=Tryz.sizeOf4
 v4:=Tryz.zeroValue4
 t9:=Tryz.underlying9
 a9:=Tryz.isAgg9
 z9:=Tryz.sizeOf9
 v9:=Tryz.zeroValue9 }
def Tryz.Ap:Go.Shelf.Ren:=⟨fun | 45=>226 | n=>n,fun | 22=>301 | 23=>206 | 3=>3 | 4=>4 | 0=>0 | n=>n,fun | n=>n⟩
theorem Tryz.Zi:Go.Proofs.SlLaysE.n45 prog Tryz.Ap:={
 mixed:=by kernel_rfl
 f45:=⟨Tryz.f226.name,af,func226.trans ak⟩
 t0:=Tryz.underlying0
 a0:=Tryz.isAgg0
 z0:=Tryz.sizeOf0
 v0:=Tryz.zeroValue0
 t3:=Tryz.underlying3
 a3:=Tryz.isAgg3
 z3:=Tryz.sizeOf3
 v3:=Tryz.zeroValue3
 t4:=Tryz.underlying4
 a4:=Tryz.isAgg4
 z4:=Tryz.sizeOf4
 v4:=Tryz.zeroValue4
 t22:=Tryz.underlying301
 a22:=Tryz.isAgg301
 z22:=Tryz.sizeOf301
 v22:=Tryz.zeroValue301
 a23:=Tryz.isAgg206
 z23:=Tryz.sizeOf206 }
end Go.Proofs
