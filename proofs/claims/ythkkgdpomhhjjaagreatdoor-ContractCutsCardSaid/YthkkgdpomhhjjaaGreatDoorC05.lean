/-
  Joined.
-/
import Derived.Test.YthkkgdpomhhjjaaGreatDoorC04
import Derived.Shelf.SlSortCmp.Insertion
import Derived.Sort.Grow
import Derived.Deep.AppendSrc
import Derived.Shelf.Strconv.Itoa3
import Derived.Shelf.Strings.Prefix
import Derived.Shelf.SlicesE.Delete
import Derived.Ground.NamesProg
import Derived.Ground.SlgnProg
import Derived.Shelf.LaysM
set_option maxRecDepth 100000
set_option maxHeartbeats 8000000
namespace Go.Proofs.YthkkgdpomhhjjaaGreatDoor
open Go.Proofs.Tryz
section
open Go.RowKit Go.Maps Go.MapKept
def aB(w:World)(sb pb:Nat)(name:Name)(sz:Nat):Prop:=∃t,w.heap[sb]? = some (.cells #[ptrTo pb,.string name,.int .i64 (sz:Int)] t)
section
variable {S:Nat->Prop} {w w':World} {sb pb db n sz:Nat} {name:Name} {o o':ar} {d d':Dsk} {L L':aC}
theorem aB.cells(h:aB w sb pb name sz):w.cell? ⟨sb,0,none⟩=some (ptrTo pb)/\w.cell? ⟨sb,1,none⟩=some (.string name)/\w.cell? ⟨sb,2,none⟩=some (.int .i64 (sz:Int)):=by
 obtain⟨t,h⟩:=h;refine⟨?_,?_,?_⟩<;>rw[aq h]<;>rfl
theorem aB.lt(h:aB w sb pb name sz):sb<w.heap.size:=by
 obtain⟨t,h⟩:=h;exact(Array.getElem?_eq_some_iff.1 h).1
theorem aB.kept(h:aB w sb pb name sz)(hb:w'.heap[sb]? = w.heap[sb]?):aB w' sb pb name sz:=by
 obtain⟨t,h⟩:=h;exact⟨t,hb.trans h⟩
theorem aB.below(h:aB w sb pb name sz)(hb:Below w.heap.size w w'):aB w' sb pb name sz:=h.kept (hb.block _ h.lt)
theorem aB.moved(h:aB w sb pb name sz)(hm:aw S n pb db w o d w' o' d' L')(ho:o sb=none)(hs:¬S sb):aB w' sb pb name sz:=h.kept (hm.block h.lt ho hs)
theorem aP.dG(h:aP w pb db n o d L){ps:List Pg}{fl:Bool}(hL:aA L name=some (.inl (ps,fl))):ps.length<=65536/\ij ps:=by
 obtain⟨_,_,_,_,_,_,_,g⟩:=h;obtain⟨f,dp,q⟩:=g.dG _ _ _ hL;exact⟨q.most,q.short⟩
theorem kP(h:aP w pb db n o d L){ps:List Pg}{fl:Bool}(hL:aA L name=some (.inl (ps,fl))) :
 Calls prog 92 #[ptrTo pb,.string name] w fun e w'=>e=.returned (.tuple #[.int .i64 ((ep d ps).1:Int),.int .i64 ((ep d ps).2:Int)])/\Below w.heap.size w w':=by
 obtain⟨_,_,_,_,_,hp,_,g⟩:=h;exact qx hp g hL
theorem B6(h:aP w pb db n o d L)(name:Name)(hs:name.size<=1000) :
 Calls prog 92 #[ptrTo pb,.string name] w fun e w'=>(∃k:Nat,e=.returned (.tuple #[.int .i64 (k:Int),.int .i64 (cA d name:Int)]))/\Below w.heap.size w w':=by
 obtain⟨_,_,_,_,_,hp,_,g⟩:=h;exact(C6 hp (fun p hp=>(g.vR p hp).2) name hs).mono fun e w' ⟨h1,h2⟩=>⟨⟨_,h1⟩,h2⟩
theorem gQ(h:aP w pb db n o d L){ps:List Pg}{fl:Bool}(hL:aA L name=some (.inl (ps,fl))):cA d name=if d.dead=true then 6 else 0:=by
 obtain⟨_,_,_,_,_,_,_,g⟩:=h;obtain⟨f,dp,q,lM,kA⟩:=g.zJ hL;cases hd:d.dead with
 |true=>rw[(kA hd).2];rfl
 |false=>rw[(lM hd).2];rfl
def dC(w:World)(pb:Nat)(name:Name)(sz:Nat)(c:Nat)(e:Ending)(w':World):Prop:=
 ∃v,e=.returned (.tuple #[v,.int .i64 (c:Int)])/\Below w.heap.size w w'/\(c=0->∃sb,v=ptrTo sb/\aB w' sb pb name sz/\w.heap.size<=sb)/\(c≠0->v=.pointer none)
theorem dD(h:aP w pb db n o d L)(name:Name)(hs:name.size<=1000)(h1:1<=sz)(h2:sz<=240) :
 Calls prog 67 #[ptrTo pb,.string name,.int .i64 (sz:Int)] w (dC w pb name sz (cA d name)):=by
 have aM:=aa (B6 h name hs);have g1:¬((sz:Int)<1):=by omega
 have g2:¬((sz:Int)>240):=by omega
 clear h;unfold ptrTo at *;generalize hC:cA d name=c at *;clear hC;by_cases hc:c=0
 ·subst hc;go_enter func67,ntmps67;go_wp2_with fail;refine aM.o.mono ?_;rintro e w1⟨⟨k,rfl⟩,hb⟩;have HB:=aa hb;clear hb;go_wp2;go_ret2;refine⟨_,rfl,HB.o.alloc HB.o.size _,fun _=>⟨w1.heap.size,rfl,⟨_,heap_alloc_new w1 _⟩,HB.o.size⟩,fun h=>absurd rfl h⟩
 ·have hc':¬(c:Int)=0:=by omega
  have HC:=aa hc;clear hc;go_enter func67,ntmps67;go_wp2_with fail;refine aM.o.mono ?_;rintro e w1⟨⟨k,rfl⟩,hb⟩;have HB:=aa hb;clear hb;go_wp2;go_ret2;exact⟨_,rfl,HB.o,fun h=>absurd h HC.o,fun _=>rfl⟩
theorem sf(h:aB w sb pb name sz)(h1:1<=sz)(h2:sz<=240):Calls prog 94 #[ptrTo sb] w fun e w'=>e=.returned (.int .i64 (eL sz:Int))/\w=w':=by
 obtain⟨-,-,hc2⟩:=h.cells;have e1:(240:Int).tdiv (sz:Int)=(eL sz:Int):=by
  unfold eL;rw[Int.tdiv_eq_ediv_of_nonneg ae];rfl
 clear h;have hz:¬(sz:Int)=0:=by omega
 unfold ptrTo;have acm:eL sz<=240:=Nat.div_le_self _ _;generalize hp:eL sz=p at *;clear hp;have e2:wrap64 (p:Int)=(p:Int):=by unfold wrap64;omega
 go_enter func94,ntmps94;go_wp2;go_ret;exact⟨rfl,rfl⟩
def xK(n pb db:Nat)(w:World)(o:ar)(d:Dsk)(L:aC)(R:Nat->Ending->World->ar->Prop)(e:Ending)(w':World):Prop:=
 ∃c d' o',R c e w' o'/\aw (fun _=>False) n pb db w o d w' o' d' L/\(c=0\/kJ d d' L c)
def xL(k:Nat)(c:Nat)(e:Ending)(_:World)(_:ar):Prop:=∃x:Nat,e=.returned (.tuple #[.int .i64 (x:Int),.int .i64 (c:Int)])/\(c=0->x=k)
theorem jh(hp:aP w' pb db n o' d' L')(ht:aH (o.In cz) w w')(hg:ct w.heap.size o o')(yl:bK d d'):aw S n pb db w o d w' o' d' L':=
 ⟨hp,ht.mono (fun _ _ h=>.inl h),hg,yl⟩
theorem zR{rs:List Rec}(hs:gB sz rs)(h1:1<=sz)(h2:sz<=240)(hN:0<rs.length) :
 ∃(q m:Nat)(b:Pg),(bz (eL sz) rs).length=q+1/\(bz (eL sz) rs)[q]? = some b/\b.length=sz*m/\1<=m/\m<=eL sz/\q*eL sz+m=rs.length/\b=(rs.drop (eL sz*q)).flatten:=by
 have hp:=rp h1 h2;obtain⟨g1,g2,g3⟩:=Nq hp hN;refine⟨cy (eL sz) rs.length-1,rs.length-eL sz*(cy (eL sz) rs.length-1),_,?_,by rw[iN hp,if_pos g1],?_,ae,ae,by rw[Nat.mul_comm];omega,?_⟩
 ·rw[dU];omega
 ·rw[qp hs,Nat.min_eq_right ae]
 ·rw[List.take_of_length_le (by rw[List.length_drop];omega)]
theorem ik(HW:aQ)(h:aP w pb db n o d L)(hst:aB w sb pb name sz)(ho:o sb=none)(h1:1<=sz)(h2:sz<=240){rs:List Rec}{fl:Bool}(hL:aA L name=some (.inl (bz (eL sz) rs,fl)))(hs:gB sz rs) :
 Calls prog 59 #[ptrTo sb] w (xK n pb db w o d L (xL rs.length)):=by
 obtain⟨jc,zS⟩:=h.dG hL;have aM:Hid (∀W,Below w.heap.size w W->Calls prog 92 #[ptrTo pb,.string name] W fun e w'=>e=.returned (.tuple #[.int .i64 ((ep d (bz (eL sz) rs)).1:Int),.int .i64 ((ep d (bz (eL sz) rs)).2:Int)])/\Below W.heap.size W w'):=aa (fun W hW=>kP (h.below hW) hL);have mG:Hid (∀W,Below w.heap.size w W->∀(k:Nat)(b:Pg),(bz (eL sz) rs)[k]? = some b->Calls prog 93 #[ptrTo pb,.string name,.int .i64 (k:Int)] W (gP W pb db n o d L b)):=aa (fun W hW k b hk=>pj HW (h.below hW) hL hk);have H:=aa h;have HST:=aa hst;have HO:=aa ho;have Ej:=aa (fun hN=>zR (rs:=rs) hs h1 h2 hN);have UM:=aa (fun W(hW:aB W sb pb name sz)=>sf hW h1 h2);have mn:=tO sz;have TR:=hst.lt;clear h hst ho hL hs zS;unfold ptrTo at *;unfold ep at aM;cases hd:d.dead with
 |true=>
   rw[hd,if_pos rfl]at aM;have HD:=aa hd;clear hd;dsimp only at aM;go_enter func59,ntmps59;go_wp2;refine wq w ?_;iterate 3 (refine qz ?_)
   refine qz ?_ (fun w' hw'=>by have hc:=(HST.o.below hw').cells.1;unfold ptrTo at hc;go_simp<;>rfl);iterate 3 (refine qz ?_)
   refine qz ?_ (fun w' hw'=>by have hc:=(HST.o.below hw').cells.2.1;go_simp<;>rfl);refine qw (fun w' hw'=>(aM.o w' hw').mono (fun e w'' h=>⟨h.1,hw'.trans (h.2.mono hw'.size)⟩)) ?_;iterate 5 (refine qz ?_)
   refine wpQuiet_nil ?_;intro w1 rN;have HB:=aa rN;clear rN;go_wp2;go_ret2;exact⟨6,d,o,⟨0,rfl,fun h=>absurd h af⟩,aw.aU H.o HB.o,.inr (.inr ⟨rfl,HD.o⟩)⟩
 |false=>
   rw[hd,if_neg ah]at aM;clear hd;dsimp only at aM;rcases Nat.eq_zero_or_pos rs.length with hz | hN
   ·have hP:(bz (eL sz) rs).length=0:=by
     rw[dU,hz];unfold cy;have:=rp h1 h2;rw[Nat.div_eq_of_lt ae]
    rw[hP]at aM;have HZ:=aa hz;clear hz hP jc;go_enter func59,ntmps59;go_wp2;refine wq w ?_;iterate 3 (refine qz ?_)
    refine qz ?_ (fun w' hw'=>by have hc:=(HST.o.below hw').cells.1;unfold ptrTo at hc;go_simp<;>rfl);iterate 3 (refine qz ?_)
    refine qz ?_ (fun w' hw'=>by have hc:=(HST.o.below hw').cells.2.1;go_simp<;>rfl);refine qw (fun w' hw'=>(aM.o w' hw').mono (fun e w'' h=>⟨h.1,hw'.trans (h.2.mono hw'.size)⟩)) ?_;iterate 5 (refine qz ?_)
    refine wpQuiet_nil ?_;intro w1 rN;have HB:=aa rN;clear rN;go_wp2;go_ret2;exact⟨0,d,o,⟨0,rfl,fun _=>HZ.o.symm⟩,aw.aU H.o HB.o,.inl rfl⟩
   ·obtain⟨q,m,b,f1,f2,f3,f4,f5,f6,-⟩:=Ej.o hN;have J9:Hid (∀W,Below w.heap.size w W->Calls prog 93 #[.pointer (some ⟨pb,0,none⟩),.string name,.int .i64 (q:Int)] W (gP W pb db n o d L b)):=aa (fun W hW=>mG.o W hW q b f2);have hq:q<=65536:=by omega
    have hm:sz*m<=240:=Nat.le_trans (Nat.mul_le_mul_left sz f5) mn;have rT:1<=sz*m:=Nat.mul_pos ae ae;have e1:(sz*m)/sz=m:=Nat.mul_div_cancel_left m ae;have e2:(sz*m)%sz=0:=Nat.mul_mod_right sz m;have hN':rs.length<=16777216:=by
     have:eL sz<=240:=Nat.div_le_self _ _;have:=Nat.mul_le_mul hq this;omega
    generalize hPP:(bz (eL sz) rs).length=P at *;rw[<- f3]at hm rT e1 e2;generalize WX:b.length=B at *;generalize YK:rs.length=N at *;generalize hpe:eL sz=p at *;have hT:q*p<=N:=by omega
    generalize hTT:q*p=T at *;have hwq:IntKind.i64.wrap ((P:Int)-1)=(q:Int):=by rw[ax ae ae];omega
    have hwm:IntKind.i64.wrap ((q:Int)*(p:Int))=(T:Int):=by rw[<- Int.natCast_mul,hTT];exact ax ae ae
    have hwd:(B:Int).tdiv (sz:Int)=(m:Int):=by rw[Int.tdiv_eq_ediv_of_nonneg ae,<- Int.natCast_ediv,e1]
    have hwr:(B:Int).tmod (sz:Int)=0:=by rw[Int.tmod_eq_emod_of_nonneg ae,<- Int.natCast_emod,e2];rfl
    have QV:(B:Int)%(sz:Int)=0:=by rw[<- Int.natCast_emod,e2];rfl
    have hwa:IntKind.i64.wrap ((T:Int)+(m:Int))=(N:Int):=by rw[ax ae ae];omega
    have hB0:¬(B:Int)=0:=by omega
    have hz0:¬(sz:Int)=0:=by omega
    have hP0:¬(P:Int)=0:=by omega
    have Jo:=aa WX;have acp:Hid (IntKind.i64.wrap (m:Int)=(m:Int)):=aa (ax ae ae);have NG:=aa hwq;have YL:=aa hwm;have aho:=aa hwd;have YM:=aa hwr;have QW:=aa QV;have YN:=aa hwa;clear hPP YK hpe hTT WX f1 f2 f3 f6 e1 e2 hwq hwm hwd hwr QV hwa;go_enter func59,ntmps59;go_wp2;refine wq w ?_;iterate 3 (refine qz ?_)
    refine qz ?_ (fun w' hw'=>by have hc:=(HST.o.below hw').cells.1;unfold ptrTo at hc;go_simp<;>rfl);iterate 3 (refine qz ?_)
    refine qz ?_ (fun w' hw'=>by have hc:=(HST.o.below hw').cells.2.1;go_simp<;>rfl);refine qw (fun w' hw'=>(aM.o w' hw').mono (fun e w'' h=>⟨h.1,hw'.trans (h.2.mono hw'.size)⟩)) ?_;iterate 5 (refine qz ?_)
    refine wpQuiet_nil ?_;intro w1 rN;have cS:=aa rN;have B7:=aa (HST.o.below rN);clear rN;go_wp2;refine cE (Below w1.heap.size w1) 10 rfl ag ag (aj.drew) ?_;simp only[List.take_succ_cons,List.take_zero];iterate 3 (refine qz ?_)
    refine qz ?_ (fun w' hw'=>by have hc:=(B7.o.below hw').cells.1;unfold ptrTo at hc;go_simp<;>rfl);iterate 3 (refine qz ?_)
    refine qz ?_ (fun w' hw'=>by have hc:=(B7.o.below hw').cells.2.1;go_simp<;>rfl);refine qz ?_;refine qz ?_ (fun w' hw'=>by have hx:=NG.o;go_simp<;>rfl);refine wpQuiet_nil ?_;intro w2 hw2;refine⟨_,_,rfl,(by go_simp<;>exact⟨rfl,rfl⟩),?_⟩;have cX:Hid (Below w.heap.size w w2):=aa (cS.o.trans (hw2.mono cS.o.size));refine(J9.o w2 cX.o).mono ?_;rintro e w3⟨v3,c3,d3,o3,rfl,Pv,yz,hg3,acr,Dc,ue,zT⟩;have eF:Hid (aw (fun _=>False) n pb db w o d w3 o3 d3 L):=aa ((aw.aU H.o cX.o).trans (jh (S:=fun _=>False) Pv yz hg3 acr) (fun _ _ h=>h));have B8:=aa Dc;have uf:=aa (HST.o.moved eF.o HO.o (fun h=>h));clear hw2 Pv yz hg3 acr Dc;by_cases hc3:c3=0
    ·subst hc3;obtain⟨iJ,-⟩:=ue rfl;rw[Jo.o]at iJ;obtain⟨a3,k3,rfl⟩:=az iJ;clear ue zT iJ;refine⟨_,rfl,?_⟩;go_simp;iterate 5 (refine qz ?_)
     refine wpQuiet_nil ?_;have hx:=YM.o;have hx2:=QW.o;have hc:=uf.o.cells.2.2;go_wp2;clear hx hx2;refine wq w3 ?_;refine qz ?_;refine qz ?_ (fun w' hw'=>by have hx:=NG.o;go_simp<;>rfl);refine qz ?_;refine qw (fun w' hw'=>(UM.o w' (uf.o.below hw')).mono (fun e w'' h=>⟨h.1,h.2▸hw'⟩)) ?_;refine qz ?_ (fun w' hw'=>by have hx:=YL.o;go_simp<;>rfl);iterate 5 (refine qz ?_)
     refine qz ?_ (fun w' hw'=>by have hc:=(uf.o.below hw').cells.2.2;go_simp<;>rfl);refine qz ?_ (fun w' hw'=>by have hx:=aho.o;have hx2:=acp.o;go_simp<;>rfl);refine qz ?_ (fun w' hw'=>by have hx:=YN.o;go_simp<;>rfl);iterate 2 (refine qz ?_)
     refine wpQuiet_nil ?_;intro w4 hw4;go_wp2;go_ret2;exact⟨0,d3,o3,⟨N,rfl,fun _=>rfl⟩,eF.o.below hw4,.inl rfl⟩
    ·obtain rfl:=zT hc3;have Ka:¬(c3:Int)=0:=by omega
     have Jp:=aa hc3;clear hc3 ue zT;refine⟨_,rfl,?_⟩;go_simp;iterate 5 (refine qz ?_)
     refine wpQuiet_nil ?_;go_wp2;go_ret2;exact⟨c3,d3,o3,⟨0,rfl,fun h=>absurd h Jp.o⟩,eF.o,B8.o⟩
end
end
section
open Go.RowKit Go.Maps Go.MapKept
section
variable {S:Nat->Prop} {w w':World} {sb pb db n sz:Nat} {name:Name} {o o':ar} {d d':Dsk} {L L':aC}
theorem Dd{rs:List Rec}(hs:gB sz rs)(h1:1<=sz)(h2:sz<=240){i:Nat}(hi:i<rs.length) :
 ∃b:Pg,(bz (eL sz) rs)[i/eL sz]? = some b/\b.length%sz=0/\sz*(i%eL sz)+sz<=b.length/\(b.drop (sz*(i%eL sz))).take sz=rs[i]/\b.length<=240:=by
 have hp:=rp h1 h2;obtain⟨g1,g2,g3⟩:=Qv hs hp hi;refine⟨_,by rw[iN hp,if_pos g1],?_,g3,g2,?_⟩
 ·rw[qp hs];exact Nat.mul_mod_right _ _
 ·rw[qp hs];exact Nat.le_trans (Nat.mul_le_mul_left sz (Nat.min_le_left _ _)) (tO sz)
def YO(n pb db:Nat)(w:World)(o:ar)(d:Dsk)(L:aC)(b:Pg)(k a:Nat)(e:Ending)(w':World):Prop:=
 ∃v c d' o',e=.returned (.tuple #[v,.int .i64 ((if c=0 then k else 0:Nat):Int),.int .i64 ((if c=0 then a else 0:Nat):Int),.int .i64 ((c:Nat):Int)])/\aw (fun _=>False) n pb db w o d w' o' d' L/\(c=0\/kJ d d' L c) /\
  (c=0->w'.ownsRow w.heap.size 5 1 v b.length (b.map bv)/\∀x,v.ownBlock=some x->o' x=none)
theorem B9(HW:aQ)(h:aP w pb db n o d L)(hst:aB w sb pb name sz)(ho:o sb=none)(h1:1<=sz)(h2:sz<=240){rs:List Rec}{fl:Bool}(hL:aA L name=some (.inl (bz (eL sz) rs,fl)))(hs:gB sz rs){i:Nat}(hi:i<rs.length){b:Pg}(hb:(bz (eL sz) rs)[i/eL sz]? = some b) :
 Calls prog 90 #[ptrTo sb,.int .i64 (i:Int)] w (YO n pb db w o d L b (i/eL sz) (sz*(i%eL sz))):=by
 obtain⟨jc,zS⟩:=h.dG hL;have aM:Hid (∀W,Below w.heap.size w W->Calls prog 92 #[ptrTo pb,.string name] W fun e w'=>e=.returned (.tuple #[.int .i64 ((ep d (bz (eL sz) rs)).1:Int),.int .i64 ((ep d (bz (eL sz) rs)).2:Int)])/\Below W.heap.size W w'):=aa (fun W hW=>kP (h.below hW) hL);have mG:Hid (∀W,Below w.heap.size w W->Calls prog 93 #[ptrTo pb,.string name,.int .i64 ((i/eL sz:Nat):Int)] W (gP W pb db n o d L b)):=aa (fun W hW=>pj HW (h.below hW) hL hb);have H:=aa h;have HST:=aa hst;have HO:=aa ho;obtain⟨b',hb',f1,f2,-,f4⟩:=Dd hs h1 h2 hi;obtain rfl:b'=b:=by rw[hb]at hb';exact(Option.some.inj hb').symm
 have UM:=aa (fun W(hW:aB W sb pb name sz)=>sf hW h1 h2);have mn:=tO sz;have zu:=rp h1 h2;have acm:eL sz<=240:=Nat.div_le_self _ _;have TR:=hst.lt;have hkP:=aN hb;have hN':rs.length<=16777216:=by
  have h3:rs.length<=eL sz*(bz (eL sz) rs).length:=by
   rw[dU];exact Nat.le_of_not_lt (fun h=>Nat.lt_irrefl _ ((eZ zu).2 h))
  have h4:eL sz<=240:=Nat.div_le_self _ _;have:=Nat.mul_le_mul h4 jc;omega
 have Pr:i/eL sz<=i:=Nat.div_le_self _ _;have hr1:i%eL sz<eL sz:=Nat.mod_lt _ ae;have hr2:sz*(i%eL sz)<=240:=Nat.le_trans (Nat.mul_le_mul_left sz (Nat.le_of_lt hr1)) mn;have hwk:(i:Int).tdiv (eL sz:Int)=((i/eL sz:Nat):Int):=by rw[Int.tdiv_eq_ediv_of_nonneg ae,Int.natCast_ediv]
 have hwm:(i:Int).tmod (eL sz:Int)=((i%eL sz:Nat):Int):=by rw[Int.tmod_eq_emod_of_nonneg ae,Int.natCast_emod]
 have hwa:IntKind.i64.wrap (((i%eL sz:Nat):Int)*(sz:Int))=((sz*(i%eL sz):Nat):Int):=by rw[<- Int.natCast_mul,Nat.mul_comm];exact ax ae ae
 have hwr:(b'.length:Int).tmod (sz:Int)=0:=by rw[Int.tmod_eq_emod_of_nonneg ae,<- Int.natCast_emod,f1];rfl
 have QV:(b'.length:Int)%(sz:Int)=0:=by rw[<- Int.natCast_emod,f1];rfl
 clear h hst ho hL hs zS hb hb' f1;unfold ptrTo at *;unfold ep at aM;generalize WX:b'.length=B at *;have Jo:=aa WX;clear WX;generalize (bz (eL sz) rs).length=P at *;generalize i/eL sz=k at *;generalize i%eL sz=r at *;generalize eL sz=p at *;obtain⟨a,ha⟩:∃a,a=sz*r:=⟨_,rfl⟩;rw[<- ha]at hr2 f2 hwa ⊢;have ahp:=aa hwk;have YL:=aa hwm;have YN:=aa hwa;have YM:=aa hwr;have QW:=aa QV;have anX:i<16777216:=by omega
 clear hwk hwm hwa hwr QV ha hi hN';have uV:¬((i:Int)<0):=by omega
 have anY:¬((k:Int) >= (P:Int)):=by omega
 have haB:¬((a:Int) >= (B:Int)):=by omega
 have hz0:¬(sz:Int)=0:=by omega
 have hpn:¬p=0:=by omega
 have ahq:Hid (IntKind.i64.wrap (k:Int)=(k:Int)):=aa (ax ae ae);have ahr:Hid (IntKind.i64.wrap (r:Int)=(r:Int)):=aa (ax ae ae);cases hd:d.dead with
 |true=>
   rw[hd,if_pos rfl]at aM;have HD:=aa hd;clear hd;dsimp only at aM;go_enter func90,ntmps90;go_wp2;refine wq w ?_;iterate 3 (refine qz ?_)
   refine qz ?_ (fun w' hw'=>by have hc:=(HST.o.below hw').cells.1;unfold ptrTo at hc;go_simp<;>rfl);iterate 3 (refine qz ?_)
   refine qz ?_ (fun w' hw'=>by have hc:=(HST.o.below hw').cells.2.1;go_simp<;>rfl);refine qw (fun w' hw'=>(aM.o w' hw').mono (fun e w'' h=>⟨h.1,hw'.trans (h.2.mono hw'.size)⟩)) ?_;iterate 5 (refine qz ?_)
   refine wpQuiet_nil ?_;intro w1 rN;have HB:=aa rN;clear rN;go_wp2;go_returns;exact⟨_,6,d,o,rfl,aw.aU H.o HB.o,.inr (.inr ⟨rfl,HD.o⟩),fun h=>absurd h af⟩
 |false=>
   rw[hd,if_neg ah]at aM;clear hd;dsimp only at aM;go_enter func90,ntmps90;go_wp2;refine wq w ?_;iterate 3 (refine qz ?_)
   refine qz ?_ (fun w' hw'=>by have hc:=(HST.o.below hw').cells.1;unfold ptrTo at hc;go_simp<;>rfl);iterate 3 (refine qz ?_)
   refine qz ?_ (fun w' hw'=>by have hc:=(HST.o.below hw').cells.2.1;go_simp<;>rfl);refine qw (fun w' hw'=>(aM.o w' hw').mono (fun e w'' h=>⟨h.1,hw'.trans (h.2.mono hw'.size)⟩)) ?_;iterate 5 (refine qz ?_)
   refine wpQuiet_nil ?_;intro w1 rN;have cS:=aa rN;have B7:=aa (HST.o.below rN);clear rN;go_wp2;refine wq w1 ?_;iterate 2 (refine qz ?_)
   refine qw (fun w' hw'=>(UM.o w' (B7.o.below hw')).mono (fun e w'' h=>⟨h.1,h.2▸hw'⟩)) ?_;refine qz ?_ (fun w' hw'=>by have hx:=ahp.o;have hx2:=hpn;have hx3:=ahq.o;go_simp<;>rfl);iterate 2 (refine qz ?_)
   refine qw (fun w' hw'=>(UM.o w' (B7.o.below hw')).mono (fun e w'' h=>⟨h.1,h.2▸hw'⟩)) ?_;refine qz ?_ (fun w' hw'=>by have hx:=YL.o;have hx2:=hpn;have hx3:=ahr.o;go_simp<;>rfl);iterate 3 (refine qz ?_)
   refine qz ?_ (fun w' hw'=>by have hc:=(B7.o.below hw').cells.2.2;go_simp<;>rfl);refine qz ?_ (fun w' hw'=>by have hx:=YN.o;go_simp<;>rfl);iterate 2 (refine qz ?_)
   refine wpQuiet_nil ?_;intro w2 hw2;have cX:Hid (Below w.heap.size w w2):=aa (cS.o.trans (hw2.mono cS.o.size));have nz:=aa (B7.o.below hw2);clear hw2;go_wp2;refine cE (Below w2.heap.size w2) 9 rfl ag ag (aj.drew) ?_;simp only[List.take_succ_cons,List.take_zero];iterate 3 (refine qz ?_)
   refine qz ?_ (fun w' hw'=>by have hc:=(nz.o.below hw').cells.1;unfold ptrTo at hc;go_simp<;>rfl);iterate 3 (refine qz ?_)
   refine qz ?_ (fun w' hw'=>by have hc:=(nz.o.below hw').cells.2.1;go_simp<;>rfl);refine qz ?_;refine wpQuiet_nil ?_;intro w3 hw3;refine⟨_,_,rfl,(by go_simp<;>exact⟨rfl,rfl⟩),?_⟩;have jC:Hid (Below w.heap.size w w3):=aa (cX.o.trans (hw3.mono cX.o.size));refine(mG.o w3 jC.o).mono ?_;rintro e w4⟨v4,c4,d4,o4,rfl,oO,tG,hg4,tY,u6,Ca,zU⟩;have fZ:Hid (aw (fun _=>False) n pb db w o d w4 o4 d4 L):=aa ((aw.aU H.o jC.o).trans (jh (S:=fun _=>False) oO tG hg4 tY) (fun _ _ h=>h));have B0:=aa u6;have Ek:=aa (HST.o.moved fZ.o HO.o (fun h=>h));clear hw3 oO tG hg4 tY u6;by_cases gZ:c4=0
   ·subst gZ;obtain⟨Bl,CU⟩:=Ca rfl;have HF4:=aa CU;rw[Jo.o]at Bl;obtain⟨a4,k4,rfl⟩:=az Bl;have TX:=aa Bl;clear Ca zU Bl CU;refine⟨_,rfl,?_⟩;go_simp;iterate 5 (refine qz ?_)
    refine wpQuiet_nil ?_;have hx:=YM.o;have hx2:=QW.o;have hc:=Ek.o.cells.2.2;go_wp2;go_returns;exact⟨_,0,d4,o4,rfl,fZ.o,.inl rfl,fun _=>⟨by rw[Jo.o];exact aV TX.o jC.o.size,HF4.o⟩⟩
   ·obtain rfl:=zU gZ;have tZ:¬(c4:Int)=0:=by omega
    have Bv:=aa gZ;clear gZ Ca zU;refine⟨_,rfl,?_⟩;go_simp;iterate 5 (refine qz ?_)
    refine wpQuiet_nil ?_;go_wp2;go_returns;exact⟨_,c4,d4,o4,by rw[if_neg Bv.o,if_neg Bv.o];rfl,fZ.o,B0.o,fun h=>absurd h Bv.o⟩
def ug(n pb db:Nat)(w:World)(o:ar)(d:Dsk)(L:aC)(r:Rec)(e:Ending)(w':World):Prop:=
 ∃v c d' o',e=.returned (.tuple #[v,.int .i64 ((c:Nat):Int)])/\aw (fun _=>False) n pb db w o d w' o' d' L/\(c=0\/kJ d d' L c) /\
  (c=0->w'.ownsRow w.heap.size 5 1 v r.length (r.map bv)/\∀x,v.ownBlock=some x->o' x=none)/\(c≠0->v=.slice none 0 0)
theorem Cb(w:World)(e:TypeId)(base:Nat)(hb:base<=w.heap.size):(w.alloc (.cells #[] e)).ownsRow base e 1 (.slice (some ⟨w.heap.size,0,none⟩) 0 0) 0 []:=
 ⟨rfl,.inr ⟨w.heap.size,0,#[],rfl,hb,heap_alloc_new w _,Nat.le_refl _,by unfold maxLen;omega,rfl,rfl⟩⟩
theorem ji(HW:aQ)(h:aP w pb db n o d L)(hst:aB w sb pb name sz)(ho:o sb=none)(h1:1<=sz)(h2:sz<=240){rs:List Rec}{fl:Bool}(hL:aA L name=some (.inl (bz (eL sz) rs,fl)))(hs:gB sz rs){i:Nat}(hi:i<rs.length) :
 Calls prog 57 #[ptrTo sb,.int .i64 (i:Int)] w (ug n pb db w o d L rs[i]):=by
 obtain⟨b,hb,f1,f2,f3,f4⟩:=Dd hs h1 h2 hi;have aM:=aa (B9 HW h hst ho h1 h2 hL hs hi hb);have Jk:rs[i].length=sz:=hs _ (List.getElem_mem hi);have HST:=aa hst;have HO:=aa ho;generalize rs[i]=r at *;clear h hst ho hL hs hi hb f1;unfold ptrTo at *;generalize sz*(i%eL sz)=a at *;generalize i/eL sz=k at *;have HRL:=aa Jk;have HF3:=aa f3;have hwx:IntKind.i64.wrap ((a:Int)+(sz:Int))=((a+sz:Nat):Int):=by rw[ax ae ae];omega
 clear Jk f3 hwx;go_enter func57,ntmps57;go_wp2_with fail;refine aM.o.mono ?_;rintro e w1⟨v1,c1,d1,o1,rfl,dY,tu,uh⟩;have eo:=aa dY;have Da:=aa tu;have El:=aa (HST.o.moved dY HO.o (fun h=>h));clear dY tu;by_cases hc1:c1=0
 ·subst hc1;obtain⟨k8,tK⟩:=uh rfl;rw[if_pos rfl,if_pos rfl];obtain⟨a1,k1,rfl⟩:=az k8;have De:=aa k8;have nu:=aa (fp k8);obtain⟨va,vc,Cc,WS,hvm,Py⟩:=fp k8;cases Cc;unfold maxLen at hvm;obtain Py |⟨vb,acs,rfl,-⟩:=Py
  ·omega
  have hc:=El.o.cells.2.2;have acu:=El.o.lt;have hwx:IntKind.i64.wrap ((a:Int)+(sz:Int))=(a:Int)+(sz:Int):=ax ae ae;have ahs:Hid (Rd w1 (.slice (some ⟨vb,acs+a,none⟩) (a+sz-a) (k1-a)) r):=aa (by
   rw[Nat.add_sub_cancel_left];have:=nu.o.sub (i:=a) (k:=sz) ae;rw[HF3.o]at this;simpa[bG]using this)
  have QX:=aa tK;have TY:Hid (w.heap.size<=w1.heap.size):=aa eo.o.size;generalize WX:b.length=B at *;have Jo:=aa WX;have haB:(a:Int)+(sz:Int)<=(B:Int):=by omega
  have hak:(a:Int)+(sz:Int)<=(k1:Int):=by omega
  have hka:¬k1=a:=by omega
  have an2:a<k1:=by omega
  clear uh k8 tK WX;go_wp2_with (at_builtin;refine jI rfl _ _ 39 rfl w1.heap.size 5 Tryz.underlying39 k7 _ 0 [] rfl (Cb w1 5 w1.heap.size (Nat.le_refl _)) (.slice (some ⟨vb,acs+a,none⟩) (a+sz-a) (k1-a)) r rfl (ahs.o.below ai) ?c1 ?c2 ?_);case c1=>rw[HRL.o];omega
  case c2=>simp
  intro v' w2 ko hg2 hw2;have p7:=aa ko;have eu:Hid (aw (fun _=>False) n pb db w o d w2 o1 d1 L):=aa ((eo.o.alloc _).grown hg2 (fun k hk=>by
   cases hk;exact⟨eo.o.aX.fresh (Nat.le_refl _),.inr TY.o⟩))
  have QY:Hid (∀x,v'.ownBlock=some x->o1 x=none):=aa (fun x hx=>by
   rcases hw2 with e | e
   ·rw[e]at hx;cases hx;exact eo.o.aX.fresh (Nat.le_refl _)
   ·rw[e]at hx;cases hx;exact eo.o.aX.fresh ah)
  clear ko hg2 hw2;go_wp2;go_ret2;refine⟨v',0,d1,o1,rfl,eu.o,.inl rfl,fun _=>⟨?_,QY.o⟩,fun h=>absurd rfl h⟩;have:=aV p7.o TY.o;simpa using this
 ·have zr:¬(c1:Int)=0:=by omega
  have QZ:=aa hc1;clear hc1 uh;go_wp2;go_ret2;exact⟨_,c1,d1,o1,rfl,eo.o,Da.o,fun h=>absurd h QZ.o,fun _=>rfl⟩
end
end
section
open Go.RowKit Go.Maps Go.MapKept
section
variable {S:Nat->Prop} {w w':World} {sb pb db n sz:Nat} {name:Name} {o o':ar} {d d':Dsk} {L L':aC}
def zV(w:World)(base:Nat)(v:Value)(b r:List UInt8)(e:Ending)(w':World):Prop:=
 ∃v',e=.returned v'/\w'.ownsRow base 5 1 v' (b.length+r.length) ((b++r).map bv)/\w.grownBy w' v.ownBlock/\(v'.ownBlock=v.ownBlock\/v'.ownBlock=some w.heap.size)
theorem Kb{base bx:Nat}{v rv:Value}{b r:List UInt8}(hc:w.cell? ⟨bx,0,none⟩=some rv)(hr:Rd w rv r)(hown:w.ownsRow base 5 1 v b.length (b.map bv))(hb:base<=w.heap.size)(hl:b.length+r.length<=1073741824) :
 Calls prog 106 #[v,.pointer (some ⟨bx,0,none⟩)] w (zV w base v b r):=by
 have HO:=aa hown;have HR:=aa hr;obtain⟨ra,rc,rfl,-⟩:=hr;obtain⟨va,vc,rfl⟩:=az hown;clear hown;generalize Jk:r.length=R at *;have HRL:=aa Jk;clear Jk;go_enter func106,ntmps106;go_wp2_with (at_builtin;refine jI rfl _ _ 39 rfl base 5 Tryz.underlying39 k7 _ b.length _ rfl HO.o _ r rfl HR.o ?c1 ?c2 ?_);case c1=>have:=HRL.o;omega
 case c2=>exact hb
 intro v' w1 k8 hg1 rN;have De:=aa k8;have Jm:=aa hg1;have NH:=aa rN;clear k8 hg1 rN;go_wp2;go_ret;refine⟨v',rfl,?_,Jm.o,NH.o⟩;rw[List.map_append];exact De.o
def jk(S:Nat->Prop)(n pb db:Nat)(w:World)(o:ar)(d:Dsk)(L L':aC)(e:Ending)(w':World):Prop:=
 ∃c d' o',e=.returned (.int .i64 ((c:Nat):Int))/\aw S n pb db w o d w' o' d' (if c=0 then L' else L)/\(c=0\/kJ d d' L c)
theorem GQ(HW:aQ)(h:aP w pb db n o d L)(hst:aB w sb pb name sz)(ho:o sb=none){ps:List Pg}{fl:Bool}(hL:aA L name=some (.inl (ps,fl))){k:Nat}(hk:k<=ps.length)(BK:k<65536){base bx:Nat}{v rv:Value}{b r:List UInt8}(hc:w.cell? ⟨bx,0,none⟩=some rv)(hr:Rd w rv r)(hown:w.ownsRow base 5 1 v b.length (b.map bv))(mm:∀x,v.ownBlock=some x->o x=none/\x≠sb)(hb:base<=w.heap.size)(hl:b.length+r.length<=240) :
 Calls prog 107 #[ptrTo sb,.int .i64 (k:Int),v,.func (.func 106) #[] #[.pointer (some ⟨bx,0,none⟩)]] w (jk (fun x=>v.ownBlock=some x) n pb db w o d L (aS L name (.inl (dh ps k (b++r),false)))):=by
 have H:=aa h;have vQ:=aa mm;have HHR:=aa hr;have vJ:=aa hown;have hc':=aa hc;obtain⟨hc0,hc1,-⟩:=hst.cells;unfold ptrTo at hc0;have hwr:Hid (∀W o' ,aP W pb db n o' d L->∀v',W.ownsRow base 5 1 v' (b.length+r.length) ((b++r).map bv)->(∀x,v'.ownBlock=some x->o' x=none)->Calls prog 155 #[.pointer (some ⟨pb,0,none⟩),.string name,.int .i64 (k:Int),v'] W (ny W pb db n o' d L (aS L name (.inl (dh ps k (b++r),false))))):=
  aa (fun W o' hW v' hv mm=>B5 HW hW hL hk BK (fp (by rw[List.length_append];exact hv)) (by rw[List.length_append];exact hl) mm)
 have HST:=aa hst;clear h mm hr hown hc hst hL hk;have aht:Hid (∀n',Calls prog 106 #[v,.pointer (some ⟨bx,0,none⟩)] (w.drewN n') (zV (w.drewN n') base v b r)):=aa (fun n'=>Kb (w:=w.drewN n') hc'.o (HHR.o.drewN n') vJ.o hb ae);clear hl;have xC:Hid (∀w1 v1,(w.drewN 1).grownBy w1 v.ownBlock->(v1:Value).ownBlock=v.ownBlock\/v1.ownBlock=some (w.drewN 1).heap.size->(w1.cell? ⟨sb,0,none⟩=some (.pointer (some ⟨pb,0,none⟩))/\w1.cell? ⟨sb,1,none⟩=some (.string name))/\aw (fun x=>v.ownBlock=some x) n pb db w o d w1 o d L/\∀x,v1.ownBlock=some x->o x=none):=aa (fun w1 v1 hg M9=>by
  have hm:aw (fun x=>v.ownBlock=some x) n pb db w o d w1 o d L:=((aw.refl _ H.o).drewN 1).grown hg (fun k hk=>⟨(vQ.o k hk).1,.inl hk⟩);have hs1:aB w1 sb pb name sz:=HST.o.moved hm ho (fun e=>(vQ.o sb e).2 rfl);refine⟨⟨hs1.cells.1,hs1.cells.2.1⟩,hm,fun x hx=>?_⟩;rcases M9 with e | e
  ·rw[e]at hx;exact(vQ.o x hx).1
  ·rw[e]at hx;cases hx;exact H.o.fresh (Nat.le_refl _))
 have YP:Hid (∀w1 w2 d2 o2 L2,aw (fun x=>v.ownBlock=some x) n pb db w o d w1 o d L->aP w2 pb db n o2 d2 L2->aH (o.In cz) w1 w2->ct w1.heap.size o o2->bK d d2->(w2.cell? ⟨sb,0,none⟩=some (.pointer (some ⟨pb,0,none⟩))/\w2.cell? ⟨sb,1,none⟩=some (.string name))/\aw (fun x=>v.ownBlock=some x) n pb db w o d w2 o2 d2 L2):=aa (fun w1 w2 d2 o2 L2 hm hp ht hg yl=>by
  have cP:aw (fun x=>v.ownBlock=some x) n pb db w o d w2 o2 d2 L2:=hm.trans (jh (S:=fun _=>False) hp ht hg yl) (fun _ _ h=>h.elim);have hs2:aB w2 sb pb name sz:=HST.o.moved cP ho (fun e=>(vQ.o sb e).2 rfl);exact⟨⟨hs2.cells.1,hs2.cells.2.1⟩,cP⟩)
 unfold ptrTo;go_enter func107,ntmps107;go_wp2;go_region_held3 (fun w'=>w'.cell? ⟨sb,0,none⟩=some (.pointer (some ⟨pb,0,none⟩))/\w'.cell? ⟨sb,1,none⟩=some (.string name)) (first | exact⟨hc0,hc1⟩| exact q1 | exact q2)
  (first
    | (go_at_call 106;refine(aht.o 1).mono ?_;rintro e w1⟨v1,rfl,k8,hg1,rN⟩;obtain⟨q1,dY,tK⟩:=xC.o w1 v1 hg1 rN)
    | (go_at_call 155;refine(hwr.o w1 o dY.aX v1 k8 tK).mono ?_;rintro e w2⟨c2,d2,o2,rfl,j5,oM,hg2,Q4,om⟩;obtain⟨q2,cP⟩:=YP.o w1 w2 d2 o2 _ dY j5 oM hg2 Q4))
 have eu:=aa cP;have GR:=aa om;clear cP om j5 oM hg2 Q4 dY hg1 k8 q1 q2;go_wp2;go_ret;exact⟨c2,d2,o2,rfl,eu.o,GR.o⟩
theorem GU{rs:List Rec}{r:Rec}(hs:gB sz rs)(h1:1<=sz)(h2:sz<=240) :
 (rs=[]->bz (eL sz) (rs++[r])=dh (bz (eL sz) rs) 0 ([]++r)/\(bz (eL sz) rs).length=0) /\
 ∀q m b,(bz (eL sz) rs).length=q+1->(bz (eL sz) rs)[q]? = some b->b.length=sz*m->1<=m->m<=eL sz->q*eL sz+m=rs.length->b=(rs.drop (eL sz*q)).flatten ->
  (sz*m+sz<=240->bz (eL sz) (rs++[r])=dh (bz (eL sz) rs) q (b++r))/\(¬sz*m+sz<=240->bz (eL sz) (rs++[r])=dh (bz (eL sz) rs) (q+1) ([]++r)):=by
 have hp:=rp h1 h2;have PT:=tO sz;have hpn:=Qu h1;refine⟨fun e=>?_,fun q m b g1 g2 g3 g4 g5 g6 g7=>⟨fun hr=>?_,fun hr=>?_⟩⟩
 ·subst e;have:=xF (rs:=[]) hp r (k:=0) ah;exact⟨this.1,this.2⟩
 ·have hm:m<eL sz:=by
   rcases Nat.lt_or_ge m (eL sz) with h | h
   ·exact h
   ·have:m=eL sz:=by omega
    subst this;rw[Nat.mul_succ]at hpn;omega
  rw[Ea hp r (k:=q) (by rw[Nat.mul_comm];omega) (by rw[Nat.mul_comm];omega),g7,List.take_of_length_le (by rw[List.length_drop,Nat.mul_comm];omega)]
 ·have hm:m=eL sz:=by
   rcases Nat.lt_or_ge m (eL sz) with h | h
   ·have:=Nat.mul_le_mul_left sz (show m+1<=eL sz from h);rw[Nat.mul_succ]at this;omega
   ·omega
  have:=xF (rs:=rs) hp r (k:=q+1) (by rw[Nat.mul_succ,Nat.mul_comm];omega);exact this.1
theorem j6(HW:aQ)(h:aP w pb db n o d L)(hst:aB w sb pb name sz)(ho:o sb=none)(h1:1<=sz)(h2:sz<=240){rs:List Rec}{fl:Bool}(hL:aA L name=some (.inl (bz (eL sz) rs,fl)))(hs:gB sz rs)(hN:rs.length<65535){rv:Value}{r:Rec}(hr:Rd w rv r)(Jk:r.length=sz)(hro:∀x,rv.ownBlock=some x->o x=none) :
 Calls prog 72 #[ptrTo sb,rv] w (jk (fun _=>False) n pb db w o d L (aS L name (.inl (bz (eL sz) (rs++[r]),false)))):=by
 obtain⟨jc,zS⟩:=h.dG hL;have aM:Hid (∀W,Below w.heap.size w W->Calls prog 92 #[ptrTo pb,.string name] W fun e w'=>e=.returned (.tuple #[.int .i64 ((ep d (bz (eL sz) rs)).1:Int),.int .i64 ((ep d (bz (eL sz) rs)).2:Int)])/\Below W.heap.size W w'):=aa (fun W hW=>kP (h.below hW) hL);have mG:Hid (∀W,Below w.heap.size w W->∀(k:Nat)(b:Pg),(bz (eL sz) rs)[k]? = some b->Calls prog 93 #[ptrTo pb,.string name,.int .i64 (k:Int)] W (gP W pb db n o d L b)):=aa (fun W hW k b hk=>pj HW (h.below hW) hL hk);have hturn:Hid (∀W o' d',aP W pb db n o' d' L->aB W sb pb name sz->o' sb=none->∀bx,W.cell? ⟨bx,0,none⟩=some rv->Rd W rv r->∀(k base:Nat)(v:Value)(b:Pg),k<=(bz (eL sz) rs).length->k<65536->W.ownsRow base 5 1 v b.length (b.map bv)->(∀x,v.ownBlock=some x->o' x=none/\x≠sb)->base<=W.heap.size->b.length+r.length<=240 ->
  Calls prog 107 #[ptrTo sb,.int .i64 (k:Int),v,.func (.func 106) #[] #[.pointer (some ⟨bx,0,none⟩)]] W (jk (fun x=>v.ownBlock=some x) n pb db W o' d' L (aS L name (.inl (dh (bz (eL sz) rs) k (b++r),false))))):=
  aa (fun W o' d' hW YQ kN bx hc LP k base v b h1 h2 h3 h4 h5 h6=>GQ HW hW YQ kN hL h1 h2 hc LP h3 h4 h5 h6)
 have Kc:=aa (GU (r:=r) hs h1 h2);have H:=aa h;have HST:=aa hst;have HO:=aa ho;have GV:=aa hro;have PB:=aa hr;have TR:=hst.lt;obtain⟨-,-,hc2⟩:=hst.cells;obtain⟨ra,rc,rfl,-⟩:=hr;have Ej:=aa (fun hN=>zR (rs:=rs) hs h1 h2 hN);have mn:=tO sz;rw[Jk]at *;have hPN:(bz (eL sz) rs).length<=rs.length:=by
  rcases Nat.eq_zero_or_pos rs.length with hz | hp
  ·have:=List.eq_nil_of_length_eq_zero hz;rw[((Kc.o.1 this).2),hz];exact Nat.le_refl _
  ·obtain⟨q,m,b,f1,f2,f3,f4,f5,f6,f7⟩:=Ej.o hp;have h3:=rp h1 h2;have h4:q<=q*eL sz:=Nat.le_mul_of_pos_right q h3;omega
 clear h hst ho hro hL hs zS;unfold ptrTo at *;have UN:Hid (Below w.heap.size w (w.alloc (.cells #[.slice ra sz rc] 39))):=aa ai;have my:Hid ((w.alloc (.cells #[.slice ra sz rc] 39)).cell? ⟨w.heap.size,0,none⟩=some (.slice ra sz rc)):=aa ah;have JB:w.heap.size<(w.alloc (.cells #[.slice ra sz rc] 39)).heap.size:=by simp
 unfold ep at aM;cases hd:d.dead with
 |true=>
   rw[hd,if_pos rfl]at aM;have HD:=aa hd;clear hd;dsimp only at aM;go_enter func72,ntmps72;go_wp2;go_quiet (fail)
   go_wp2;have cS:Hid (Below w.heap.size w ((w.alloc (.cells #[.slice ra sz rc] 39)).drewN nq)):=aa (below_drewN UN.o _);generalize (w.alloc (.cells #[.slice ra sz rc] 39)).drewN nq=w1 at *;refine wq w1 ?_;iterate 3 (refine qz ?_)
   refine qz ?_ (fun w' hw'=>by have hc:=((HST.o.below cS.o).below hw').cells.1;unfold ptrTo at hc;go_simp<;>rfl);iterate 3 (refine qz ?_)
   refine qz ?_ (fun w' hw'=>by have hc:=((HST.o.below cS.o).below hw').cells.2.1;go_simp<;>rfl);refine qw (fun w' hw'=>(aM.o w' (cS.o.trans (hw'.mono cS.o.size))).mono (fun e w'' h=>⟨h.1,hw'.trans (h.2.mono hw'.size)⟩)) ?_;iterate 5 (refine qz ?_)
   refine wpQuiet_nil ?_;intro w2 hw2;have cX:Hid (Below w.heap.size w w2):=aa (cS.o.trans (hw2.mono cS.o.size));clear hw2;go_wp2;go_ret;exact⟨6,d,o,rfl,aw.aU H.o cX.o,.inr (.inr ⟨rfl,HD.o⟩)⟩
 |false=>
   rw[hd,if_neg ah]at aM;clear hd;dsimp only at aM;rcases Nat.eq_zero_or_pos rs.length with hz | hNp
   ·have hnil:=List.eq_nil_of_length_eq_zero hz;obtain⟨ha1,ha2⟩:=Kc.o.1 hnil;rw[ha2]at aM;have HA1:=aa ha1;have HA2:=aa ha2;clear hz hnil ha1 ha2;go_enter func72,ntmps72;go_wp2;go_quiet (fail)
    go_wp2;have cS:Hid (Below w.heap.size w ((w.alloc (.cells #[.slice ra sz rc] 39)).drewN nq)):=aa (below_drewN UN.o _);have YR:Hid (((w.alloc (.cells #[.slice ra sz rc] 39)).drewN nq).cell? ⟨w.heap.size,0,none⟩=some (.slice ra sz rc)):=aa my.o;have Q5:w.heap.size<((w.alloc (.cells #[.slice ra sz rc] 39)).drewN nq).heap.size:=JB;generalize (w.alloc (.cells #[.slice ra sz rc] 39)).drewN nq=w1 at *;refine wq w1 ?_;iterate 3 (refine qz ?_)
    refine qz ?_ (fun w' hw'=>by have hc:=((HST.o.below cS.o).below hw').cells.1;unfold ptrTo at hc;go_simp<;>rfl);iterate 3 (refine qz ?_)
    refine qz ?_ (fun w' hw'=>by have hc:=((HST.o.below cS.o).below hw').cells.2.1;go_simp<;>rfl);refine qw (fun w' hw'=>(aM.o w' (cS.o.trans (hw'.mono cS.o.size))).mono (fun e w'' h=>⟨h.1,hw'.trans (h.2.mono hw'.size)⟩)) ?_;iterate 5 (refine qz ?_)
    refine wpQuiet_nil ?_;intro w2 hw2;have cX:Hid (Below w.heap.size w w2):=aa (cS.o.trans (hw2.mono cS.o.size));have YS:Hid (w2.cell? ⟨w.heap.size,0,none⟩=some (.slice ra sz rc)):=aa (by rw[hw2.cell (p:=⟨w.heap.size,0,none⟩) Q5];exact YR.o);clear hw2;go_wp2_with fail;refine(hturn.o w2 o d (H.o.below cX.o) (HST.o.below cX.o) HO.o w.heap.size YS.o (PB.o.below cX.o) 0 0 (.slice none 0 0) [] (Nat.zero_le _) af (ownsRow_nil _ _ _) (fun x hx=>by cases hx) (Nat.zero_le _) (by simp;omega)).mono ?_;rintro e w3⟨c3,d3,o3,rfl,eA,Dc⟩;rw[<- HA1.o]at eA;have eF:=aa ((aw.aU (S:=fun _=>False) H.o cX.o).trans eA (fun x _ e=>by cases e));have B8:=aa Dc;clear eA Dc;go_wp2;go_ret;exact⟨c3,d3,o3,rfl,eF.o,B8.o⟩
   ·obtain⟨q,m,b,f1,f2,f3,f4,f5,f6,f7⟩:=Ej.o hNp;have J9:Hid (∀W,Below w.heap.size w W->Calls prog 93 #[.pointer (some ⟨pb,0,none⟩),.string name,.int .i64 (q:Int)] W (gP W pb db n o d L b)):=aa (fun W hW=>mG.o W hW q b f2);have nw:=aa (Kc.o.2 q m b f1 f2 f3 f4 f5 f6 f7);have hq:q<65535:=by omega
    have hm:sz*m<=240:=Nat.le_trans (Nat.mul_le_mul_left sz f5) mn;have QX:=aa f1;have hwq:IntKind.i64.wrap (((q+1:Nat):Int)-1)=(q:Int):=by rw[ax ae ae];omega
    have NG:=aa hwq;rw[f1]at aM;obtain⟨P,hP⟩:∃P,P=q+1:=⟨_,rfl⟩;rw[<- hP]at aM NG;have HP:=aa hP;have hPb:P<=65535:=by omega
    have hP0:(P:Int)>0:=by omega
    have hBb:b.length<=240:=by omega
    have FH:=aa f3;clear f1 f2 f3 f4 f6 f7 hwq hP mG;go_enter func72,ntmps72;go_wp2;go_quiet (fail)
    go_wp2;have cS:Hid (Below w.heap.size w ((w.alloc (.cells #[.slice ra sz rc] 39)).drewN nq)):=aa (below_drewN UN.o _);have YR:Hid (((w.alloc (.cells #[.slice ra sz rc] 39)).drewN nq).cell? ⟨w.heap.size,0,none⟩=some (.slice ra sz rc)):=aa my.o;have Q5:w.heap.size<((w.alloc (.cells #[.slice ra sz rc] 39)).drewN nq).heap.size:=JB;generalize (w.alloc (.cells #[.slice ra sz rc] 39)).drewN nq=w1 at *;refine wq w1 ?_;iterate 3 (refine qz ?_)
    refine qz ?_ (fun w' hw'=>by have hc:=((HST.o.below cS.o).below hw').cells.1;unfold ptrTo at hc;go_simp<;>rfl);iterate 3 (refine qz ?_)
    refine qz ?_ (fun w' hw'=>by have hc:=((HST.o.below cS.o).below hw').cells.2.1;go_simp<;>rfl);refine qw (fun w' hw'=>(aM.o w' (cS.o.trans (hw'.mono cS.o.size))).mono (fun e w'' h=>⟨h.1,hw'.trans (h.2.mono hw'.size)⟩)) ?_;iterate 5 (refine qz ?_)
    refine wpQuiet_nil ?_;intro w2 hw2;have cX:Hid (Below w.heap.size w w2):=aa (cS.o.trans (hw2.mono cS.o.size));have YS:Hid (w2.cell? ⟨w.heap.size,0,none⟩=some (.slice ra sz rc)):=aa (by rw[hw2.cell (p:=⟨w.heap.size,0,none⟩) Q5];exact YR.o);have nz:=aa (HST.o.below cX.o);have UO:w.heap.size<w2.heap.size:=Nat.lt_of_lt_of_le Q5 hw2.size;clear hw2 JB Q5;go_wp2;refine cE (Below w2.heap.size w2) 10 rfl ag ag (aj.drew) ?_;simp only[List.take_succ_cons,List.take_zero];iterate 3 (refine qz ?_)
    refine qz ?_ (fun w' hw'=>by have hc:=(nz.o.below hw').cells.1;unfold ptrTo at hc;go_simp<;>rfl);iterate 3 (refine qz ?_)
    refine qz ?_ (fun w' hw'=>by have hc:=(nz.o.below hw').cells.2.1;go_simp<;>rfl);refine qz ?_;refine qz ?_ (fun w' hw'=>by have hx:=NG.o;go_simp<;>rfl);refine wpQuiet_nil ?_;intro w3 hw3;refine⟨_,_,rfl,(by go_simp<;>exact⟨rfl,rfl⟩),?_⟩;have jC:Hid (Below w.heap.size w w3):=aa (cX.o.trans (hw3.mono cX.o.size));have ahu:Hid (w3.cell? ⟨w.heap.size,0,none⟩=some (.slice ra sz rc)):=aa (by rw[hw3.cell (p:=⟨w.heap.size,0,none⟩) UO];exact YS.o);refine(J9.o w3 jC.o).mono ?_;rintro e w4⟨v4,c4,d4,o4,rfl,oO,tG,hg4,tY,u6,Ca,zU⟩;have YT:aw (fun _=>False) n pb db w3 o d w4 o4 d4 L:=jh (S:=fun _=>False) oO tG hg4 tY;have fZ:Hid (aw (fun _=>False) n pb db w o d w4 o4 d4 L):=aa ((aw.aU H.o jC.o).trans YT (fun _ _ h=>h));have B0:=aa u6;have ui:=aa (HST.o.moved fZ.o HO.o (fun h=>h));have TX:Hid (o4 sb=none):=aa (fZ.o.free TR HO.o);have GX:Hid (w4.cell? ⟨w.heap.size,0,none⟩=some (.slice ra sz rc)):=aa (YT.cell ahu.o (H.o.fresh (Nat.le_refl _)) (fun h=>h));have LZ:Hid (Rd w4 (.slice ra sz rc) r):=aa (fZ.o.rd PB.o (fun x hx=>⟨GV.o x hx,fun h=>h⟩));have oP:w.heap.size<=w3.heap.size:=jC.o.size;clear hw3 oO tG hg4 tY u6 YT;by_cases gZ:c4=0
    ·subst gZ;obtain⟨Bl,CU⟩:=Ca rfl;obtain⟨a4,k4,rfl⟩:=az Bl;have ahv:=aa (aV Bl oP);have J7:Hid (∀x,(Value.slice a4 b.length k4).ownBlock=some x->o4 x=none/\x≠sb):=aa (fun x hx=>⟨CU x hx,fun e=>by have:=aG Bl x hx;omega⟩);have ahw:Hid (∀x,(Value.slice a4 b.length k4).ownBlock=some x->w.heap.size<=x):=aa (fun x hx=>by have:=aG Bl x hx;omega);have hs5:w.heap.size<=w4.heap.size:=fZ.o.size;clear Ca zU Bl CU;refine⟨_,rfl,?_⟩;go_simp;iterate 5 (refine qz ?_)
     refine wpQuiet_nil ?_;have Bq:=ui.o.cells.2.2;have an5:=NG.o;by_cases hroom:b.length+sz<=240
     ·have YU:(b.length:Int)+(sz:Int)<=240:=by omega
      have Bp:=nw.o.1 (by have:=FH.o;omega);have HL':=aa Bp;clear Bp;go_wp2_with fail;refine(hturn.o w4 o4 d4 fZ.o.aX ui.o TX.o w.heap.size GX.o LZ.o q w.heap.size _ b (by have:=QX.o;omega) ae ahv.o J7.o hs5 hroom).mono ?_;rintro e w5⟨c5,d5,o5,rfl,j7,PA⟩;rw[<- HL'.o]at j7;have kV:=aa (fZ.o.trans j7 (fun x hx e=>by have:=ahw.o x e;omega));have QO:=aa (PA.imp id (kJ.later fZ.o.on.bD));clear j7 PA;go_wp2;go_ret;exact⟨c5,d5,o5,rfl,kV.o,QO.o⟩
     ·have YU:¬(b.length:Int)+(sz:Int)<=240:=by omega
      have Bp:=nw.o.2 (by have:=FH.o;omega);have HL':=aa Bp;clear Bp;go_wp2_with fail;refine(hturn.o w4 o4 d4 fZ.o.aX ui.o TX.o w.heap.size GX.o LZ.o P 0 (.slice none 0 0) [] (by have:=QX.o;have:=HP.o;omega) ae (ownsRow_nil _ _ _) (fun x hx=>by cases hx) (Nat.zero_le _) (by simp;omega)).mono ?_;rintro e w5⟨c5,d5,o5,rfl,j7,PA⟩;rw[HP.o,<- HL'.o]at j7;have kV:=aa (fZ.o.trans j7 (fun x hx e=>by cases e));have QO:=aa (PA.imp id (kJ.later fZ.o.on.bD));clear j7 PA;go_wp2;go_ret;exact⟨c5,d5,o5,rfl,kV.o,QO.o⟩
    ·obtain rfl:=zU gZ;have tZ:¬(c4:Int)=0:=by omega
     have Bv:=aa gZ;clear gZ Ca zU;refine⟨_,rfl,?_⟩;go_simp;iterate 5 (refine qz ?_)
     refine wpQuiet_nil ?_;go_wp2;go_ret;exact⟨c4,d4,o4,rfl,by rw[if_neg Bv.o];exact fZ.o,B0.o⟩
end
end
section
open Go.RowKit
abbrev aF.cells(e:aF):List Value:=[.int .u32 (e.t.toNat:Int),.int .u32 (e.h.toNat:Int),.int .u64 (e.x.toNat:Int),.int .u32 (e.m.toNat:Int)]
def aF.val(e:aF):Value:=.agg #[.int .u32 (e.t.toNat:Int),.int .u32 (e.h.toNat:Int),.int .u64 (e.x.toNat:Int),.int .u32 (e.m.toNat:Int)]
def aF.bytes(e:aF):Rec:=vA e.t.toNat e.h.toNat e.x.toNat e.m.toNat
theorem aF.eB(e:aF):e.bytes.length=20:=by rfl
theorem aF.sS(e:aF):eU (e.bytes.take 4)=e.t.toNat/\eU ((e.bytes.drop 4).take 4)=e.h.toNat/\eU ((e.bytes.drop 8).take 8)=e.x.toNat/\eU ((e.bytes.drop 16).take 4)=e.m.toNat:=by
 have h1:=e.t.toNat_lt;have h2:=e.h.toNat_lt;have h3:=e.x.toNat_lt;have h4:=e.m.toNat_lt;have l4:∀x,(le x 4).length=4:=fun x=>cd x 4;have l8:∀x,(le x 8).length=8:=fun x=>cd x 8;have e1:e.bytes=le e.t.toNat 4++(le e.h.toNat 4++(le e.x.toNat 8++le e.m.toNat 4)):=by rfl
 have e2:e.bytes.drop 4=le e.h.toNat 4++(le e.x.toNat 8++le e.m.toNat 4):=by rfl
 have e3:e.bytes.drop 8=le e.x.toNat 8++le e.m.toNat 4:=by rfl
 have e4:e.bytes.drop 16=le e.m.toNat 4:=by rfl
 refine⟨?_,?_,?_,?_⟩
 ·grind [iW]
 ·grind [iW]
 ·grind [iW]
 grind [iW]
theorem qy(v:Value)(e:aF)(w:World)(hv:Rd w v e.bytes) :
 Calls prog 68 #[v] w (FT (.tuple #[.agg #[.int .u32 (e.t.toNat:Int),.int .u32 (e.h.toNat:Int),.int .u64 (e.x.toNat:Int),.int .u32 (e.m.toNat:Int)],.int .i64 0]) w):=by
 have h:=DR v e.bytes w e.eB hv;grind [aF.sS]
theorem uj(e:aF)(w:World):Calls prog 208 #[.agg #[.int .u32 (e.t.toNat:Int),.int .u32 (e.h.toNat:Int),.int .u64 (e.x.toNat:Int),.int .u32 (e.m.toNat:Int)]] w (iX w e.bytes):=PX _ _ _ _ w
structure cr where
 r:UInt32
 l:UInt32
 g:UInt32
def cr.bytes(v:cr):Rec:=vz v.r.toNat v.l.toNat v.g.toNat
theorem cr.eB(v:cr):v.bytes.length=12:=by rfl
theorem cr.sS(v:cr):eU (v.bytes.take 4)=v.r.toNat/\eU ((v.bytes.drop 4).take 4)=v.l.toNat/\eU ((v.bytes.drop 8).take 4)=v.g.toNat:=by
 have h1:=v.r.toNat_lt;have h2:=v.l.toNat_lt;have h3:=v.g.toNat_lt;have l4:∀x,(le x 4).length=4:=fun x=>cd x 4;have e1:v.bytes=le v.r.toNat 4++(le v.l.toNat 4++le v.g.toNat 4):=by rfl
 have e2:v.bytes.drop 4=le v.l.toNat 4++le v.g.toNat 4:=by rfl
 have e3:v.bytes.drop 8=le v.g.toNat 4:=by rfl
 refine⟨?_,?_,?_⟩
 ·grind [iW]
 ·grind [iW]
 grind [iW]
theorem GY(v:Value)(x:cr)(w:World)(hv:Rd w v x.bytes) :
 Calls prog 58 #[v] w (FT (.tuple #[.agg #[.int .u32 (x.r.toNat:Int),.int .u32 (x.l.toNat:Int),.int .u32 (x.g.toNat:Int)],.int .i64 0]) w):=by
 have h:=DO v x.bytes w x.eB hv;grind [cr.sS]
theorem Em(x:cr)(w:World):Calls prog 78 #[.agg #[.int .u32 (x.r.toNat:Int),.int .u32 (x.l.toNat:Int),.int .u32 (x.g.toNat:Int)]] w (iX w x.bytes):=PW _ _ _ w
def aR(b:Bool)(x y:aF):Int:=if pk b x<pk b y then -1 else if pk b y<pk b x then 1 else if rk x<rk y then -1 else if rk y<rk x then 1 else 0
theorem zW(b:Bool)(x y:aF):aR b x y<0↔(pk b x<pk b y\/pk b x=pk b y/\rk x<rk y):=by
 unfold aR;omega
theorem zX(b:Bool)(x y:aF):¬aR b y x<0↔dB b x y:=by
 rw[zW];grind [dB]
theorem oq(b:Bool):Go.Sort.SWO (ltOf (aR b)):=by
 have h:∀x y,ltOf (aR b) x y=decide (pk b x<pk b y\/pk b x=pk b y/\rk x<rk y):=fun x y=>by
  grind [ltOf,zW]
 refine⟨fun x=>?_,fun x y z h1 h2=>?_,fun x y z h1 h2=>?_⟩
 ·grind
 ·grind
 grind
def dV(w w':World):Prop:=∃q os,w'=Go.Sort.grow (w.drewN q) os
theorem dV.refl(w:World):dV w w:=⟨0,#[],by rfl⟩
theorem dV.trans{a b c:World}(h:dV a b)(k:dV b c):dV a c:=by
 obtain⟨q,os,rfl⟩:=h;obtain⟨q',os',rfl⟩:=k;exact⟨q+q',os++os',by grind [Go.Sort.grow,World.drewN]⟩
theorem dV.alloc{a b:World}(h:dV a b)(ob:Obj):dV a (b.alloc ob):=h.trans ⟨0,#[ob],by rfl⟩
theorem dV.drewN{a b:World}(h:dV a b)(n:Nat):dV a (b.drewN n):=h.trans ⟨n,#[],ah⟩
theorem dV.drew{a b:World}(h:dV a b):dV a b.drew:=h.trans ⟨1,#[],(Go.Sort.grow_empty _).symm⟩
theorem dV.below{a b:World}(h:dV a b):Below a.heap.size a b:=by
 obtain⟨q,os,rfl⟩:=h;exact⟨rfl,rfl,rfl,ah,fun k hk=>Go.Sort.heap_grow_old _ _ hk⟩
theorem dV.cell{a b:World}(h:dV a b){p:Addr}{v:Value}(hc:a.cell? p=some v):b.cell? p=some v:=by
 rw[h.below.cell (World.block_lt_of_cell? _ _ hc)];exact hc
def pX(a b:Nat):Int:=if a<b then -1 else if b<a then 1 else 0
theorem gC(a b:Nat):(a<b/\pX a b=-1)\/(b<a/\pX a b=1)\/(a=b/\pX a b=0):=by
 unfold pX;split
 ·exact .inl ⟨by assumption,rfl⟩
 ·split
  ·exact .inr (.inl ⟨by assumption,rfl⟩)
  ·exact .inr (.inr ⟨ae,rfl⟩)
theorem vS(a b:Nat)(w:World):Calls prog 205 #[.int .u64 (a:Int),.int .u64 (b:Int)] w fun e w'=>e=.returned (.int .i64 (pX a b))/\w=w':=by
 rcases gC a b with⟨h1,h2⟩|⟨h1,h2⟩|⟨h1,h2⟩
 ·have H:=aa h2;clear h2;have g1:(a:Int)<(b:Int):=by omega
  go_enter func205,ntmps205;go_wp2;go_ret;exact⟨by rw[H.o];rfl,rfl⟩
 ·have H:=aa h2;clear h2;have g1:¬(a:Int)<(b:Int):=by omega
  have g2:(a:Int)>(b:Int):=by omega
  go_enter func205,ntmps205;go_wp2;go_ret;exact⟨by rw[H.o];rfl,rfl⟩
 ·subst h1;have H:=aa h2;clear h2;go_enter func205,ntmps205;go_wp2;go_ret;exact⟨by rw[H.o];rfl,rfl⟩
theorem vT(a b:Nat)(w:World):Calls prog 206 #[.int .u32 (a:Int),.int .u32 (b:Int)] w fun e w'=>e=.returned (.int .i64 (pX a b))/\w=w':=by
 rcases gC a b with⟨h1,h2⟩|⟨h1,h2⟩|⟨h1,h2⟩
 ·have H:=aa h2;clear h2;have g1:(a:Int)<(b:Int):=by omega
  go_enter func206,ntmps206;go_wp2;go_ret;exact⟨by rw[H.o];rfl,rfl⟩
 ·have H:=aa h2;clear h2;have g1:¬(a:Int)<(b:Int):=by omega
  have g2:(a:Int)>(b:Int):=by omega
  go_enter func206,ntmps206;go_wp2;go_ret;exact⟨by rw[H.o];rfl,rfl⟩
 ·subst h1;have H:=aa h2;clear h2;go_enter func206,ntmps206;go_wp2;go_ret;exact⟨by rw[H.o];rfl,rfl⟩
def nA(x y:Int):Int:=if x=0 then y else x
theorem NI(x y:Int)(b:Nat)(w:World)(hx:w.cell? ⟨b,0,none⟩=some (.int .i64 x))(hy:w.cell? ⟨b,1,none⟩=some (.int .i64 y)) :
 Calls prog 293 #[.slice (some ⟨b,0,none⟩) 2 2] w fun e w'=>e=.returned (.int .i64 (nA x y))/\w=w':=by
 by_cases h1:x=0
 ·subst h1;by_cases h2:y=0
  ·subst h2;go_enter func293,ntmps293;go_wp2;refine wp_loop_rounds 3 ?_;iterate 3 (rw[rounds_succ];go_wp2)
   go_ret;exact⟨rfl,rfl⟩
  ·go_enter func293,ntmps293;go_wp2;refine wp_loop_rounds 2 ?_;iterate 2 (rw[rounds_succ];go_wp2)
   go_ret;exact⟨rfl,rfl⟩
 ·have H:=aa h1;go_enter func293,ntmps293;go_wp2;refine wp_loop_rounds 1 ?_;iterate 1 (rw[rounds_succ];go_wp2)
  go_ret;exact⟨by unfold nA;rw[if_neg H.o];rfl,rfl⟩
def mH(x y:aF):Bool:=decide (rk x<rk y)
theorem NJ(x y:aF):decide (nA (pX x.x.toNat y.x.toNat) (pX ((x.m.toNat+1)%4294967296) ((y.m.toNat+1)%4294967296))<0)=mH x y:=by
 have h1:=x.m.toNat_lt;have h2:=y.m.toNat_lt;unfold mH rk nA;rw[decide_eq_decide];rcases gC x.x.toNat y.x.toNat with⟨g1,g2⟩|⟨g1,g2⟩|⟨g1,g2⟩
 ·rw[g2,if_neg af];omega
 ·rw[g2,if_neg af];omega
 ·rw[g2,if_pos rfl];rcases gC ((x.m.toNat+1)%4294967296) ((y.m.toNat+1)%4294967296) with⟨k1,k2⟩|⟨k1,k2⟩|⟨k1,k2⟩<;>rw[k2]<;>omega
theorem zY(x y:aF)(w:World) :
 Calls prog 262 #[.agg #[.int .u32 (x.t.toNat:Int),.int .u32 (x.h.toNat:Int),.int .u64 (x.x.toNat:Int),.int .u32 (x.m.toNat:Int)],.agg #[.int .u32 (y.t.toNat:Int),.int .u32 (y.h.toNat:Int),.int .u64 (y.x.toNat:Int),.int .u32 (y.m.toNat:Int)]] w
  fun e w'=>e=.returned (.bool (mH x y))/\dV w w':=by
 have hf:=aa (NJ x y);have rN:IntKind.u32.wrap ((x.m.toNat:Int)+1)=(((x.m.toNat+1)%4294967296:Nat):Int):=by rw[IntKind.wrap_u32];omega
 have hw2:IntKind.u32.wrap ((y.m.toNat:Int)+1)=(((y.m.toNat+1)%4294967296:Nat):Int):=by rw[IntKind.wrap_u32];omega
 generalize x.t.toNat=xt at *;generalize x.h.toNat=xh at *;generalize x.x.toNat=xx at *;generalize x.m.toNat=xm at *;generalize y.t.toNat=yt at *;generalize y.h.toNat=yh at *;generalize y.x.toNat=yx at *;generalize y.m.toNat=ym at *;generalize (xm+1)%4294967296=YV at *;generalize (ym+1)%4294967296=YW at *;go_enter func262,ntmps262;have HG:Hid (dV w ((w.alloc (.cells #[.int .u32 (xt:Int),.int .u32 (xh:Int),.int .u64 (xx:Int),.int .u32 (xm:Int)] 64)).alloc (.cells #[.int .u32 (yt:Int),.int .u32 (yh:Int),.int .u64 (yx:Int),.int .u32 (ym:Int)] 64))):=aa (((dV.refl w).alloc _).alloc _);go_wp2;have k1:((w.alloc (.cells #[.int .u32 (xt:Int),.int .u32 (xh:Int),.int .u64 (xx:Int),.int .u32 (xm:Int)] 64)).alloc (.cells #[.int .u32 (yt:Int),.int .u32 (yh:Int),.int .u64 (yx:Int),.int .u32 (ym:Int)] 64)).cell? ⟨w.heap.size,2,none⟩=some (.int .u64 (xx:Int)):=by simp
 have k2:((w.alloc (.cells #[.int .u32 (xt:Int),.int .u32 (xh:Int),.int .u64 (xx:Int),.int .u32 (xm:Int)] 64)).alloc (.cells #[.int .u32 (yt:Int),.int .u32 (yh:Int),.int .u64 (yx:Int),.int .u32 (ym:Int)] 64)).cell? ⟨w.heap.size,3,none⟩=some (.int .u32 (xm:Int)):=by simp
 have k3:((w.alloc (.cells #[.int .u32 (xt:Int),.int .u32 (xh:Int),.int .u64 (xx:Int),.int .u32 (xm:Int)] 64)).alloc (.cells #[.int .u32 (yt:Int),.int .u32 (yh:Int),.int .u64 (yx:Int),.int .u32 (ym:Int)] 64)).cell? ⟨w.heap.size+1,2,none⟩=some (.int .u64 (yx:Int)):=by simp
 have k4:((w.alloc (.cells #[.int .u32 (xt:Int),.int .u32 (xh:Int),.int .u64 (xx:Int),.int .u32 (xm:Int)] 64)).alloc (.cells #[.int .u32 (yt:Int),.int .u32 (yh:Int),.int .u64 (yx:Int),.int .u32 (ym:Int)] 64)).cell? ⟨w.heap.size+1,3,none⟩=some (.int .u32 (ym:Int)):=by simp
 have K1:=aa k1;have K2:=aa k2;have K3:=aa k3;have K4:=aa k4;clear k1 k2 k3 k4;generalize ((w.alloc (.cells #[.int .u32 (xt:Int),.int .u32 (xh:Int),.int .u64 (xx:Int),.int .u32 (xm:Int)] 64)).alloc (.cells #[.int .u32 (yt:Int),.int .u32 (yh:Int),.int .u64 (yx:Int),.int .u32 (ym:Int)] 64))=W at *;refine cn (dV W) 12 ag ag (dV.refl W).drew ?_;simp only[List.take_succ_cons,List.take_zero,List.drop_succ_cons,List.drop_zero];refine qz ?_;refine qz ?_ (fun w' hw'=>by have hc:=hw'.cell K1.o;go_simp<;>rfl);refine qz ?_;refine qz ?_ (fun w' hw'=>by have hc:=hw'.cell K3.o;go_simp<;>rfl);refine qw (fun w' hw'=>(vS xx yx w').mono (fun e w'' h=>⟨h.1,h.2▸hw'⟩)) ?_;refine qz ?_;refine qz ?_ (fun w' hw'=>by have hc:=hw'.cell K2.o;go_simp<;>rfl);refine qz ?_ (fun w' hw'=>by have hx:=rN;go_simp<;>rfl);refine qz ?_;refine qz ?_ (fun w' hw'=>by have hc:=hw'.cell K4.o;go_simp<;>rfl);refine qz ?_ (fun w' hw'=>by have hx:=hw2;go_simp<;>rfl);refine qw (fun w' hw'=>(vT YV YW w').mono (fun e w'' h=>⟨h.1,h.2▸hw'⟩)) ?_;refine wpQuiet_nil ?_;intro w3 hw3;have yT:=aa hw3;clear hw3;go_wp2_with fail;refine(NI (pX xx yx) (pX YV YW) _ _ ah ah).mono ?_;rintro e w4⟨rfl,rfl⟩;go_wp2;go_ret;exact⟨by rw[<- hf.o];rfl,(HG.o.trans yT.o).alloc _⟩
def fT(b:Bool)(e:aF):Nat:=if b then e.h.toNat else e.t.toNat
def vU(b:Bool)(e:aF):Nat:=if b then e.t.toNat else e.h.toNat
theorem En(b:Bool)(e:aF):pk b e=fT b e*4294967296+vU b e/\fT b e<4294967296/\vU b e<4294967296:=by
 have h1:=e.t.toNat_lt;have h2:=e.h.toNat_lt;unfold pk fT vU;cases b
 ·exact⟨rfl,h1,h2⟩
 ·exact⟨rfl,h2,h1⟩
def lT(b:Bool):Nat:=if b then 1 else 0
def uk(bf:Nat):Value:=.func (.func 115) #[] #[.pointer (some ⟨bf,0,none⟩)]
structure cT(w:World)(jb pb bf made:Nat)(b:Bool):Prop where
 head:∃t,w.heap[jb]? = some (.cells #[ptrTo pb,uk bf,.int .i64 (made:Int)] t)
 by':∃t,w.heap[bf]? = some (.cells #[.int .i64 (lT b:Int)] t)
theorem cT.cells{w:World}{jb pb bf made:Nat}{b:Bool}(h:cT w jb pb bf made b) :
 w.cell? ⟨jb,0,none⟩=some (ptrTo pb)/\w.cell? ⟨jb,1,none⟩=some (uk bf)/\w.cell? ⟨jb,2,none⟩=some (.int .i64 (made:Int))/\w.cell? ⟨bf,0,none⟩=some (.int .i64 (lT b:Int))/\w.frozen? ⟨jb,2,none⟩=false:=by
 obtain⟨⟨t,h1⟩,⟨t',h2⟩⟩:=h;refine⟨?_,?_,?_,?_,aO h1 _⟩
 ·rw[aq h1];rfl
 ·rw[aq h1];rfl
 ·rw[aq h1];rfl
 ·rw[aq h2];rfl
theorem cT.kept{w w':World}{jb pb bf made:Nat}{b:Bool}(h:cT w jb pb bf made b)(h1:w'.heap[jb]? = w.heap[jb]?)(h2:w'.heap[bf]? = w.heap[bf]?):cT w' jb pb bf made b:=by
 obtain⟨⟨t,g1⟩,⟨t',g2⟩⟩:=h;exact⟨⟨t,h1.trans g1⟩,⟨t',h2.trans g2⟩⟩
theorem cT.lt{w:World}{jb pb bf made:Nat}{b:Bool}(h:cT w jb pb bf made b):jb<w.heap.size/\bf<w.heap.size:=by
 obtain⟨⟨t,g1⟩,⟨t',g2⟩⟩:=h;exact⟨(Array.getElem?_eq_some_iff.1 g1).1,(Array.getElem?_eq_some_iff.1 g2).1⟩
theorem cT.below{w w':World}{jb pb bf made:Nat}{b:Bool}(h:cT w jb pb bf made b)(hb:Below w.heap.size w w'):cT w' jb pb bf made b:=h.kept (hb.block _ h.lt.1) (hb.block _ h.lt.2)
theorem GZ(b:Bool)(x:aF)(bf:Nat)(w:World)(hc:w.cell? ⟨bf,0,none⟩=some (.int .i64 (lT b:Int))) :
 Calls prog 115 #[.agg #[.int .u32 (x.t.toNat:Int),.int .u32 (x.h.toNat:Int),.int .u64 (x.x.toNat:Int),.int .u32 (x.m.toNat:Int)],.pointer (some ⟨bf,0,none⟩)] w
  fun e w'=>e=.returned (.tuple #[.int .u32 (fT b x:Int),.int .u32 (vU b x:Int)])/\dV w w':=by
 have hlt:=World.block_lt_of_cell? _ _ hc;dsimp only at hlt;unfold fT vU;cases b with
 |false=>
   have hc':w.cell? ⟨bf,0,none⟩=some (.int .i64 0):=hc;clear hc;go_enter func115,ntmps115;go_wp2;go_quiet (fail)
   go_wp2;go_ret2;exact⟨rfl,((dV.refl w).alloc _).drewN _⟩
 |true=>
   have hc':w.cell? ⟨bf,0,none⟩=some (.int .i64 1):=hc;clear hc;go_enter func115,ntmps115;go_wp2;go_quiet (fail)
   go_wp2;go_ret2;exact⟨rfl,((dV.refl w).alloc _).drewN _⟩
theorem ry(b:Bool)(w:World):Calls prog 261 #[.bool b] w fun e w'=>e=.returned (.int .i64 (if b=true then -1 else 1))/\w=w':=by
 cases b
 ·go_enter func261,ntmps261;go_wp2;go_ret;exact⟨rfl,rfl⟩
 ·go_enter func261,ntmps261;go_wp2;go_ret;exact⟨rfl,rfl⟩
theorem xM{w:World}{jb pb bf made:Nat}{b:Bool}(h:cT w jb pb bf made b)(x y:aF) :
 Calls prog 224 #[ptrTo jb,.agg #[.int .u32 (x.t.toNat:Int),.int .u32 (x.h.toNat:Int),.int .u64 (x.x.toNat:Int),.int .u32 (x.m.toNat:Int)],.agg #[.int .u32 (y.t.toNat:Int),.int .u32 (y.h.toNat:Int),.int .u64 (y.x.toNat:Int),.int .u32 (y.m.toNat:Int)]] w
  fun e w'=>e=.returned (.int .i64 (aR b x y))/\dV w w':=by
 have H:=aa h;have hx:=aa (fun W hW=>GZ b x bf W hW);have hy:=aa (fun W hW=>GZ b y bf W hW);have acv:=aa (fun W=>zY x y W);have acw:=aa (fun W=>zY y x W);obtain⟨px,px1,px2⟩:=En b x;obtain⟨py,py1,py2⟩:=En b y;have yr:Hid (aR b x y=if fT b x<fT b y then -1 else if fT b y<fT b x then 1 else if vU b x<vU b y then -1 else if vU b y<vU b x then 1 else if mH x y=true then -1 else if mH y x=true then 1 else 0):=aa (by
  unfold aR mH;rw[px,py];simp only[decide_eq_true_eq];generalize fT b x=a1 at *;generalize vU b x=a2 at *;generalize fT b y=b1 at *;generalize vU b y=b2 at *;rcases Nat.lt_trichotomy a1 b1 with g | g | g
  ·rw[if_pos (show a1*4294967296+a2<b1*4294967296+b2 by omega),if_pos g]
  ·subst g;rcases Nat.lt_trichotomy a2 b2 with g | g | g
   ·rw[if_pos (show a1*4294967296+a2<a1*4294967296+b2 by omega),if_neg (Nat.lt_irrefl a1),if_neg (Nat.lt_irrefl a1),if_pos g]
   ·subst g;simp only[Nat.lt_irrefl,if_false]
   ·rw[if_neg (show ¬a1*4294967296+a2<a1*4294967296+b2 by omega),if_pos (show a1*4294967296+b2<a1*4294967296+a2 by omega),if_neg (Nat.lt_irrefl a1),if_neg (Nat.lt_irrefl a1),if_neg (show ¬a2<b2 by omega),if_pos g]
  ·rw[if_neg (show ¬a1*4294967296+a2<b1*4294967296+b2 by omega),if_pos (show b1*4294967296+b2<a1*4294967296+a2 by omega),if_neg (show ¬a1<b1 by omega),if_pos g])
 obtain⟨hc0,hc1,hc2,hc3,-⟩:=h.cells;obtain⟨lB,hbl⟩:=h.lt;have QZ:=aa hc1;have Jp:=aa hc3;clear h px py hc0 hc1 hc2 hc3;unfold ptrTo;generalize aR b x y=R at *;generalize fT b x=a1 at *;generalize vU b x=a2 at *;generalize fT b y=b1 at *;generalize vU b y=b2 at *;generalize mH x y=q1 at *;generalize mH y x=q2 at *;generalize x.t.toNat=xt at *;generalize x.h.toNat=xh at *;generalize x.x.toNat=xx at *;generalize x.m.toNat=xm at *;generalize y.t.toNat=yt at *;generalize y.h.toNat=yh at *;generalize y.x.toNat=yx at *;generalize y.m.toNat=ym at *;go_enter func224,ntmps224;have HG:Hid (dV w ((w.alloc (.cells #[.int .u32 (xt:Int),.int .u32 (xh:Int),.int .u64 (xx:Int),.int .u32 (xm:Int)] 64)).alloc (.cells #[.int .u32 (yt:Int),.int .u32 (yh:Int),.int .u64 (yx:Int),.int .u32 (ym:Int)] 64))):=aa (((dV.refl w).alloc _).alloc _);have KX:Hid (∀j v,(#[Value.int .u32 (xt:Int),.int .u32 (xh:Int),.int .u64 (xx:Int),.int .u32 (xm:Int)]:Array Value)[j]? = some v->((w.alloc (.cells #[.int .u32 (xt:Int),.int .u32 (xh:Int),.int .u64 (xx:Int),.int .u32 (xm:Int)] 64)).alloc (.cells #[.int .u32 (yt:Int),.int .u32 (yh:Int),.int .u64 (yx:Int),.int .u32 (ym:Int)] 64)).cell? ⟨w.heap.size,j,none⟩=some v):=aa (fun j v hv=>by simpa using hv);have KY:Hid (∀j v,(#[Value.int .u32 (yt:Int),.int .u32 (yh:Int),.int .u64 (yx:Int),.int .u32 (ym:Int)]:Array Value)[j]? = some v->((w.alloc (.cells #[.int .u32 (xt:Int),.int .u32 (xh:Int),.int .u64 (xx:Int),.int .u32 (xm:Int)] 64)).alloc (.cells #[.int .u32 (yt:Int),.int .u32 (yh:Int),.int .u64 (yx:Int),.int .u32 (ym:Int)] 64)).cell? ⟨w.heap.size+1,j,none⟩=some v):=aa (fun j v hv=>by simpa using hv);go_wp2;generalize ((w.alloc (.cells #[.int .u32 (xt:Int),.int .u32 (xh:Int),.int .u64 (xx:Int),.int .u32 (xm:Int)] 64)).alloc (.cells #[.int .u32 (yt:Int),.int .u32 (yh:Int),.int .u64 (yx:Int),.int .u32 (ym:Int)] 64))=W at *;have C1:Hid (W.cell? ⟨jb,1,none⟩=some (uk bf)):=aa (HG.o.cell QZ.o);have C3:Hid (W.cell? ⟨bf,0,none⟩=some (.int .i64 (lT b:Int))):=aa (HG.o.cell Jp.o);refine cQ (dV W) ag ag (dV.refl W).drew ?_;iterate 3 (refine qz ?_)
 refine qz ?_ (fun w' hw'=>by have hc:=hw'.cell C1.o;unfold uk at hc;go_simp<;>rfl);refine qz ?_ (fun w' hw'=>by have e0:=hw'.cell (KX.o 0 _ rfl);have e1:=hw'.cell (KX.o 1 _ rfl);have e2:=hw'.cell (KX.o 2 _ rfl);have e3:=hw'.cell (KX.o 3 _ rfl);go_simp<;>rfl);refine qw (fun w' hw'=>(hx.o w' (hw'.cell C3.o)).mono (fun e w'' h=>⟨h.1,hw'.trans h.2⟩)) ?_;iterate 5 (refine qz ?_)
 refine wpQuiet_nil ?_;intro W1 hW1;have NH:=aa hW1;clear hW1;go_wp2;refine cQ (dV W1) ag ag (dV.refl W1).drew ?_;iterate 3 (refine qz ?_)
 refine qz ?_ (fun w' hw'=>by have hc:=hw'.cell (NH.o.cell C1.o);unfold uk at hc;go_simp<;>rfl);refine qz ?_ (fun w' hw'=>by have e0:=hw'.cell (NH.o.cell (KY.o 0 _ rfl));have e1:=hw'.cell (NH.o.cell (KY.o 1 _ rfl));have e2:=hw'.cell (NH.o.cell (KY.o 2 _ rfl));have e3:=hw'.cell (NH.o.cell (KY.o 3 _ rfl));go_simp<;>rfl);refine qw (fun w' hw'=>(hy.o w' (hw'.cell (NH.o.cell C3.o))).mono (fun e w'' h=>⟨h.1,hw'.trans h.2⟩)) ?_;iterate 5 (refine qz ?_)
 refine wpQuiet_nil ?_;intro W2 hW2;have QY:=aa (NH.o.trans hW2);have yv:=aa (HG.o.trans QY.o);clear hW2;have e0:=QY.o.cell (KX.o 0 _ rfl);have e1:=QY.o.cell (KX.o 1 _ rfl);have e2:=QY.o.cell (KX.o 2 _ rfl);have e3:=QY.o.cell (KX.o 3 _ rfl);have f0:=QY.o.cell (KY.o 0 _ rfl);have f1:=QY.o.cell (KY.o 1 _ rfl);have f2:=QY.o.cell (KY.o 2 _ rfl);have f3:=QY.o.cell (KY.o 3 _ rfl);rcases Nat.lt_trichotomy a1 b1 with g | g | g
 ·have g':(a1:Int)<(b1:Int):=by omega
  have gn:¬(a1:Int)=(b1:Int):=by omega
  have hr:Hid (R=-1):=aa (by rw[yr.o,if_pos g]);go_wp2_with fail;refine(ry _ _).mono ?_;rintro e w'⟨rfl,rfl⟩;go_wp2;go_ret;exact⟨by rw[hr.o];rfl,yv.o⟩
 ·subst g;rcases Nat.lt_trichotomy a2 b2 with g | g | g
  ·have g':(a2:Int)<(b2:Int):=by omega
   have gn:¬(a2:Int)=(b2:Int):=by omega
   have hr:Hid (R=-1):=aa (by rw[yr.o,if_neg ae,if_neg ae,if_pos g]);go_wp2_with fail;refine(ry _ _).mono ?_;rintro e w'⟨rfl,rfl⟩;go_wp2;go_ret;exact⟨by rw[hr.o];rfl,yv.o⟩
  ·subst g;cases q1 with
   |true=>
     have hr:Hid (R=-1):=aa (by rw[yr.o,if_neg ae,if_neg ae,if_neg ae,if_neg ae,if_pos rfl]);go_wp2_with fail;refine(acv.o _).mono ?_;rintro e w'⟨rfl,hw⟩;go_wp2;go_ret;exact⟨by rw[hr.o];rfl,yv.o.trans hw⟩
   |false=>
     go_wp2_with fail;refine(acv.o _).mono ?_;rintro e W3⟨rfl,hw⟩;have yT:=aa hw;have e0:=hw.cell e0;have e1:=hw.cell e1;have e2:=hw.cell e2;have e3:=hw.cell e3;have f0:=hw.cell f0;have f1:=hw.cell f1;have f2:=hw.cell f2;have f3:=hw.cell f3;clear hw;cases q2 with
     |true=>
       have hr:Hid (R=1):=aa (by rw[yr.o,if_neg ae,if_neg ae,if_neg ae,if_neg ae,if_neg af,if_pos rfl]);go_wp2_with fail;refine(acw.o _).mono ?_;rintro e w'⟨rfl,hw⟩;go_wp2;go_ret;exact⟨by rw[hr.o];rfl,(yv.o.trans yT.o).trans hw⟩
     |false=>
       have hr:Hid (R=0):=aa (by rw[yr.o,if_neg ae,if_neg ae,if_neg ae,if_neg ae,if_neg af,if_neg af]);go_wp2_with fail;refine(acw.o _).mono ?_;rintro e w'⟨rfl,hw⟩;go_wp2;go_ret;exact⟨by rw[hr.o];rfl,(yv.o.trans yT.o).trans hw⟩
  ·have g':¬(a2:Int)<(b2:Int):=by omega
   have gn:¬(a2:Int)=(b2:Int):=by omega
   have hr:Hid (R=1):=aa (by rw[yr.o,if_neg ae,if_neg ae,if_neg ae,if_pos g]);go_wp2_with fail;refine(ry _ _).mono ?_;rintro e w'⟨rfl,rfl⟩;go_wp2;go_ret;exact⟨by rw[hr.o];rfl,yv.o⟩
 ·have g':¬(a1:Int)<(b1:Int):=by omega
  have gn:¬(a1:Int)=(b1:Int):=by omega
  have hr:Hid (R=1):=aa (by rw[yr.o,if_neg ae,if_pos g]);go_wp2_with fail;refine(ry _ _).mono ?_;rintro e w'⟨rfl,rfl⟩;go_wp2;go_ret;exact⟨by rw[hr.o];rfl,yv.o⟩
end
section
open Go.RowKit
theorem xN:(prog.info? 9).map (fun i=>(i.zero,i.size,i.bytes))=some (some (.string ByteArray.empty),1,16):=by kernel_rfl
def bH(w:World)(v:Value)(ns:List Name):Prop:=
 ∃g off cap cur,v=.slice (some ⟨g,off,none⟩) ns.length cap/\w.heap[g]? = some (.cells cur 9 (0,0))/\off+cap<=cur.size/\cap<=maxLen/\ns.length<=cap/\∀j(h:j<ns.length),cur[off+j]? = some (.string ns[j])
section
variable {S:Nat->Prop} {w w':World} {v:Value} {ns:List Name}
theorem bH.kept(h:bH w v ns)(hb:∀b,v.ownBlock=some b->w'.heap[b]? = w.heap[b]?):bH w' v ns:=by
 obtain⟨g,off,cap,cur,rfl,hg,r⟩:=h;exact⟨g,off,cap,cur,rfl,(hb g rfl).trans hg,r⟩
theorem bH.lt(h:bH w v ns):∀b,v.ownBlock=some b->b<w.heap.size:=by
 obtain⟨g,off,cap,cur,rfl,hg,r⟩:=h;intro b hb;cases hb;grind
theorem bH.below(h:bH w v ns)(hb:Below w.heap.size w w'):bH w' v ns:=h.kept fun b hv=>hb.block b (h.lt b hv)
theorem bH.turn(h:bH w v ns)(ht:aH S w w')(hs:∀b,v.ownBlock=some b->¬S b):bH w' v ns:=h.kept fun b hv=>ht.block b (h.lt b hv) (hs b hv)
theorem bH.cells{g off cap len:Nat}(h:bH w (.slice (some ⟨g,off,none⟩) len cap) ns):len=ns.length/\len<=cap/\cap<=maxLen/\∀j(h:j<ns.length),w.cell? ⟨g,off+j,none⟩=some (.string ns[j]):=by
 obtain⟨g',off',cap',cur,he,hg,h1,h2,h3,h4⟩:=h;grind [aq]
theorem bH.shape(h:bH w v ns):∃g off cap,v=.slice (some ⟨g,off,none⟩) ns.length cap:=by
 obtain⟨g,off,cap,cur,rfl,_⟩:=h;simp
theorem bH.Df{base:Nat}(hr:w.ownsRow base 9 1 v ns.length (ns.map Value.string))(hn:ns≠[]):bH w v ns:=by
 obtain⟨hl,⟨h1,h2⟩|⟨g,cap,cur,rfl,hg,hh,hc,hm,hs,ht⟩⟩:=hr
 ·grind
 ·refine⟨g,0,cap,cur,rfl,hh,ae,hm,hc,fun j hj=>?_⟩;have h3:(cur.toList.take (ns.length*1))[j]? = (ns.map Value.string)[j]? := by rw[ht]
  grind
theorem bH.take{g off cap len:Nat}(h:bH w (.slice (some ⟨g,off,none⟩) len cap) ns){n:Nat}(hn:n<=ns.length):bH w (.slice (some ⟨g,off,none⟩) n cap) (ns.take n):=by
 obtain⟨g',off',cap',cur,he,hg,h1,h2,h3,h4⟩:=h;cases he;have hl:(ns.take n).length=n:=by grind
 refine⟨g,off,cap,cur,by rw[hl],hg,h1,h2,ae,fun j hj=>?_⟩;grind
theorem bH.drop{g off cap len:Nat}(h:bH w (.slice (some ⟨g,off,none⟩) len cap) ns){n:Nat}(hn:n<=ns.length):bH w (.slice (some ⟨g,off+n,none⟩) (len-n) (cap-n)) (ns.drop n):=by
 obtain⟨g',off',cap',cur,he,hg,h1,h2,h3,h4⟩:=h;cases he;have hl:(ns.drop n).length=ns.length-n:=List.length_drop ..;refine⟨g,off+n,cap-n,cur,by rw[hl],hg,ae,ae,ae,fun j hj=>?_⟩;grind
theorem bH.UQ{g off cap len:Nat}(h:bH w (.slice (some ⟨g,off,none⟩) len cap) ns)(hn:len=cap):bH w (.slice (some ⟨g,off,none⟩) 0 0) []:=by
 obtain⟨g',off',cap',cur,he,hg,h1,h2,h3,h4⟩:=h;cases he;exact⟨g,off,0,cur,rfl,hg,ae,ah,Nat.le_refl _,fun j hj=>absurd hj (Nat.not_lt_zero _)⟩
def lh(w:World)(v:Value)(ns:List Name)(x:Name)(v':Value)(w':World):Prop:=
 bH w' v' (ns++[x])/\aH (fun b=>v.ownBlock=some b) w w'/\(v'.ownBlock=v.ownBlock\/v'.ownBlock=some w.heap.size)
theorem yA(t ty:TypeId)(ht:prog.underlying t=some (.slice 9))(h:bH w v ns)(x:Name)(a:Addr)(c:Nat)(hx:w.cell? a=some (.string x))(hn:ns.length<=100000) :
 ∃v' w',(Builtin.append_ #[t,t] ty #[v,.slice (some a) 1 c]).run prog w=.ok v' w'/\lh w v ns x v' w':=by
 obtain⟨i0,hi,hz0,hz1,hz2⟩:=info_parts xN;obtain⟨g,off,cap,cur,rfl,hg,h1,h2,h3,h4⟩:=h;have hnews:∀j u,[Value.string x][j]? = some u->w.cell? (a.add j)=some u:=fun j u hj=>by
  grind [Addr.add]
 have pn:Src prog i0.size t (.slice (some a) 1 c) 1 [Value.string x] w:=Src.ofSlice w ht a 1 c _ (by grind) hnews (by simp[Value.oneCell']);by_cases hroom:ns.length+1<=cap
 ·have ig:off+ns.length<cur.size:=by omega
  have hr:=run_append_room_src (P:=prog) (w:=w) t t ty 9 i0 ht hi g off ns.length cap _ 1 [Value.string x] pn hroom (fun j hj=>by
   have:j=0:=by grind
   subst this;rw[hz1,aq hg,Nat.mul_one,Nat.add_zero,Array.getElem?_eq_getElem ig];rfl) (fun j hj=>aO hg _)
  refine⟨_,_,hr,⟨g,off,cap,cur.setIfInBounds (off+ns.length) (.string x),ah,?_,by grind,h2,by grind,fun j hj=>?_⟩,?_,.inl rfl⟩
  ·show(w.setCell _ _).heap[g]? = _;rw[hz1,Nat.mul_one];grind [aT]
  ·grind
  ·exact(aH.refl _ w).setCell _ _ (.inl rfl)
 ·have holds:∀j u,(ns.map Value.string)[j]? = some u->w.drew.cell? ((⟨g,off,none⟩:Addr).add j)=some u:=fun j u hj=>by
   rw[List.getElem?_map]at hj;by_cases lB:j<ns.length
   ·rw[List.getElem?_eq_getElem lB]at hj;cases hj;show w.cell? _=_;grind [bG,aq]
   grind
  have BJ:=run_firstCells_some (P:=prog) w.drew i0.size ns.length ⟨g,off,none⟩ ns.length cap (ns.map Value.string) (by grind) holds;have hr:=run_append_grow_src (P:=prog) (w:=w) t t ty 9 i0 (.string ByteArray.empty) ht hi hz0 (some ⟨g,off,none⟩) ns.length cap (ns.map Value.string) BJ _ 1 [Value.string x] pn ae ae (growslice_fits ae (by grind));have zb:=grownCap_ge w (ns.length+1) cap 9;have hle:=grownCap_le_maxLen w (ns.length+1) cap 9 (by grind [maxLen]);refine⟨_,_,hr,⟨w.heap.size,0,grownCap w (ns.length+1) cap 9,_,ah,heap_alloc_new w.drew _,?_,hle,by grind,fun j hj=>?_⟩,(aH.refl _ w).drew.alloc _,.inr rfl⟩
  ·simp only[Array.size_append,List.size_toArray,List.length_append,List.length_map,List.length_singleton,size_zeroCells];show 0+_<=_+_*1;omega
  grind
theorem iE{ops:Array Oper}{rest:List Oper}{op:Oper}{a:Act}{Q:Exit->Act->World->Prop}(hgd:op.guard=none)(s y:Operand)(t:TypeId)(ho:op.op=.call { callee:=.builtin .append,args:=#[s,y],argTypes:=#[t,t] })(ht:prog.underlying t=some (.slice 9))(hv:a.eval s=v)(h:bH w v ns)(x:Name)(ad:Addr)(c:Nat)(hy:a.eval y=.slice (some ad) 1 c)(hx:w.cell? ad=some (.string x))(hn:ns.length<=100000)(k:∀v' w',lh w v ns x v' w'->wpList prog ops Q rest (a.put op.dst v') w'):wpList prog ops Q (op::rest) a w:=by
 refine wpList_plain hgd fun K hK=>?_;obtain⟨v',w',h1,h2⟩:=yA t op.type ht h x ad c hx hn;unfold Oper.wp execOp;simp only[ho,resolve,invoke,builtin,Sem.run_bind,Sem.run_pure,Result.andThen_ok,List.map_toArray,List.map_cons,List.map_nil,hv,hy,h1];exact hK _ _ (k v' w' h2)
end
end
section
open Go.RowKit Go.Maps Go.MapKept
def au(es:List aF)(fl:Bool):gR:=.inl (bz (eL 20) (es.map aF.bytes),fl)
theorem dW(es:List aF):gB 20 (es.map aF.bytes):=fun r hr=>by
 obtain⟨e,_,rfl⟩:=List.mem_map.1 hr;exact e.eB
def bC(w:World)(cb sb at' n:Nat)(e:aF):Prop:=∃t,w.heap[cb]? = some (.cells #[ptrTo sb,.int .i64 (at':Int),.int .i64 (n:Int),.int .u32 (e.t.toNat:Int),.int .u32 (e.h.toNat:Int),.int .u64 (e.x.toNat:Int),.int .u32 (e.m.toNat:Int)] t)
def dI(w:World)(kb sb:Nat)(last:aF)(any:Bool):Prop:=∃t,w.heap[kb]? = some (.cells #[ptrTo sb,.int .u32 (last.t.toNat:Int),.int .u32 (last.h.toNat:Int),.int .u64 (last.x.toNat:Int),.int .u32 (last.m.toNat:Int),.bool any] t)
section
variable {S:Nat->Prop} {w w':World} {pb db n cb kb sb:Nat} {name:Name} {o o':ar} {d d':Dsk} {L L':aC}
theorem bC.kept{i N:Nat}{e:aF}(h:bC w cb sb i N e)(hb:w'.heap[cb]? = w.heap[cb]?):bC w' cb sb i N e:=by
 obtain⟨t,h⟩:=h;exact⟨t,hb.trans h⟩
theorem bC.lt{i N:Nat}{e:aF}(h:bC w cb sb i N e):cb<w.heap.size:=by
 obtain⟨t,h⟩:=h;exact(Array.getElem?_eq_some_iff.1 h).1
theorem bC.below{i N:Nat}{e:aF}(h:bC w cb sb i N e)(hb:Below w.heap.size w w'):bC w' cb sb i N e:=h.kept (hb.block _ h.lt)
theorem bC.cells{i N:Nat}{e:aF}(h:bC w cb sb i N e) :
 (w.cell? ⟨cb,0,none⟩=some (ptrTo sb)/\w.cell? ⟨cb,1,none⟩=some (.int .i64 (i:Int))/\w.cell? ⟨cb,2,none⟩=some (.int .i64 (N:Int))) /\
 (w.cell? ⟨cb,3,none⟩=some (.int .u32 (e.t.toNat:Int))/\w.cell? ⟨cb,4,none⟩=some (.int .u32 (e.h.toNat:Int))/\w.cell? ⟨cb,5,none⟩=some (.int .u64 (e.x.toNat:Int))/\w.cell? ⟨cb,6,none⟩=some (.int .u32 (e.m.toNat:Int))) /\
 ∀j,w.frozen? ⟨cb,j,none⟩=false:=by
 obtain⟨t,h⟩:=h;refine⟨⟨?_,?_,?_⟩,⟨?_,?_,?_,?_⟩,fun j=>aO h j⟩<;>rw[aq h]<;>rfl
theorem bC.UR{i N:Nat}{e e':aF}(h:bC w cb sb i N e) :
 bC ((((w.setCell ⟨cb,3,none⟩ (.int .u32 (e'.t.toNat:Int))).setCell ⟨cb,4,none⟩ (.int .u32 (e'.h.toNat:Int))).setCell ⟨cb,5,none⟩ (.int .u64 (e'.x.toNat:Int))).setCell ⟨cb,6,none⟩ (.int .u32 (e'.m.toNat:Int))) cb sb i N e':=by
 obtain⟨t,h⟩:=h;refine⟨t,?_⟩;have h2:=aT h 3 (.int .u32 (e'.t.toNat:Int));have h3:=aT h2 4 (.int .u32 (e'.h.toNat:Int));have h4:=aT h3 5 (.int .u64 (e'.x.toNat:Int));exact aT h4 6 (.int .u32 (e'.m.toNat:Int))
theorem bC.setAt{i N i':Nat}{e:aF}(h:bC w cb sb i N e):bC (w.setCell ⟨cb,1,none⟩ (.int .i64 (i':Int))) cb sb i' N e:=by
 obtain⟨t,h⟩:=h;exact⟨t,aT h 1 (.int .i64 (i':Int))⟩
theorem dI.kept{x:aF}{a:Bool}(h:dI w kb sb x a)(hb:w'.heap[kb]? = w.heap[kb]?):dI w' kb sb x a:=by
 obtain⟨t,h⟩:=h;exact⟨t,hb.trans h⟩
theorem dI.lt{x:aF}{a:Bool}(h:dI w kb sb x a):kb<w.heap.size:=by
 obtain⟨t,h⟩:=h;exact(Array.getElem?_eq_some_iff.1 h).1
theorem dI.below{x:aF}{a:Bool}(h:dI w kb sb x a)(hb:Below w.heap.size w w'):dI w' kb sb x a:=h.kept (hb.block _ h.lt)
theorem dI.cells{x:aF}{a:Bool}(h:dI w kb sb x a) :
 w.cell? ⟨kb,0,none⟩=some (ptrTo sb)/\w.cell? ⟨kb,1,none⟩=some (.int .u32 (x.t.toNat:Int))/\w.cell? ⟨kb,2,none⟩=some (.int .u32 (x.h.toNat:Int))/\w.cell? ⟨kb,3,none⟩=some (.int .u64 (x.x.toNat:Int))/\w.cell? ⟨kb,4,none⟩=some (.int .u32 (x.m.toNat:Int))/\w.cell? ⟨kb,5,none⟩=some (.bool a) /\
 ∀j,w.frozen? ⟨kb,j,none⟩=false:=by
 obtain⟨t,h⟩:=h;refine⟨?_,?_,?_,?_,?_,?_,fun j=>aO h j⟩<;>rw[aq h]<;>rfl
theorem dI.set{x y:aF}{a:Bool}(h:dI w kb sb x a) :
 dI (((((w.setCell ⟨kb,1,none⟩ (.int .u32 (y.t.toNat:Int))).setCell ⟨kb,2,none⟩ (.int .u32 (y.h.toNat:Int))).setCell ⟨kb,3,none⟩ (.int .u64 (y.x.toNat:Int))).setCell ⟨kb,4,none⟩ (.int .u32 (y.m.toNat:Int))).setCell ⟨kb,5,none⟩ (.bool true)) kb sb y true:=by
 obtain⟨t,h⟩:=h;refine⟨t,?_⟩;have h1:=aT h 1 (.int .u32 (y.t.toNat:Int));have h2:=aT h1 2 (.int .u32 (y.h.toNat:Int));have h3:=aT h2 3 (.int .u64 (y.x.toNat:Int));have h4:=aT h3 4 (.int .u32 (y.m.toNat:Int));exact aT h4 5 (.bool true)
def zZ(n pb db:Nat)(w:World)(o:ar)(d:Dsk)(L:aC)(cb sb i N:Nat)(x:aF)(e:Ending)(w':World):Prop:=
 ∃c d' o',e=.returned (.tuple #[.bool (c == 0),.int .i64 ((c:Nat):Int)])/\aw (·=cb) n pb db w o d w' o' d' L/\(c=0\/kJ d d' L c)/\(c=0->bC w' cb sb (i+1) N x)
theorem lU{i N:Nat}{x0:aF}(pn:bC w cb sb i N x0)(hi:N<=i) :
 Calls prog 221 #[ptrTo cb] w fun e w'=>e=.returned (.tuple #[.bool false,.int .i64 0])/\∃q,w'=w.drewN q:=by
 obtain⟨⟨hc0,hc1,hc2⟩,-,-⟩:=pn.cells;have zb:((i:Int) >= (N:Int)):=by omega
 clear pn hc0;unfold ptrTo;go_enter func221,ntmps221;go_wp2;go_quiet (fail)
 go_wp2;go_ret2;exact⟨rfl,_,rfl⟩
theorem si(HW:aQ)(h:aP w pb db n o d L)(hst:aB w sb pb name 20)(ho:o sb=none){i:Nat}{x0:aF}{es:List aF}{fl:Bool}(pn:bC w cb sb i es.length x0)(NK:o cb=none)(hL:aA L name=some (au es fl))(hi:i<es.length) :
 Calls prog 221 #[ptrTo cb] w (zZ n pb db w o d L cb sb i es.length es[i]):=by
 have jc:=(h.dG hL).1;have hN:es.length<=16777216:=by
  rw[dU,List.length_map]at jc;have h3:es.length<=eL 20*cy (eL 20) es.length:=Nat.le_of_not_lt (fun h=>Nat.lt_irrefl _ ((eZ af).2 h));have Eo:eL 20=12:=by decide
  rw[Eo]at h3 jc;omega
 have iR:Hid (∀W,Below w.heap.size w W->Calls prog 57 #[ptrTo sb,.int .i64 (i:Int)] W (ug n pb db W o d L es[i].bytes)):=aa (fun W hW=>by
  have:=ji HW (h.below hW) (hst.below hW) ho af af hL (dW es) (i:=i) (by rw[List.length_map];exact hi);rw[List.getElem_map]at this;exact this)
 have H:=aa h;have HS:=aa pn;have Q6:=aa NK;have uY:=pn.lt;generalize es[i]=x at *;generalize es.length=N at *;have hlt:¬((i:Int) >= (N:Int)):=by omega
 obtain⟨⟨hc0,hc1,hc2⟩,-,-⟩:=pn.cells;have rN:IntKind.i64.wrap ((i:Int)+1)=(i:Int)+1:=ax ae ae;clear h hst ho pn NK hL jc hi hN hc0;unfold ptrTo at *;go_enter func221,ntmps221;go_wp2;go_quiet (fail)
 have cS:Hid (Below w.heap.size w (w.drewN nq)):=aa (below_drewN aj _);have iU:Hid (bC (w.drewN nq) cb sb i N x0):=aa (HS.o.below cS.o);generalize w.drewN nq=w1 at *;clear hc1 hc2;go_wp2;refine cE (Below w1.heap.size w1) 8 rfl ag ag (aj.drew) ?_;simp only[List.take_succ_cons,List.take_zero];iterate 3 (refine qz ?_)
 refine qz ?_ (fun w' hw'=>by have hc:=(iU.o.below hw').cells.1.1;unfold ptrTo at hc;go_simp<;>rfl);iterate 3 (refine qz ?_)
 refine qz ?_ (fun w' hw'=>by have hc:=(iU.o.below hw').cells.1.2.1;go_simp<;>rfl);refine wpQuiet_nil ?_;intro w2 hw2;refine⟨_,_,rfl,(by go_simp<;>exact⟨rfl,rfl⟩),?_⟩;have cX:Hid (Below w.heap.size w w2):=aa (cS.o.trans (hw2.mono cS.o.size));refine(iR.o w2 cX.o).mono ?_;rintro e w3⟨v3,c3,d3,o3,rfl,eA,Dc,ue,zT⟩;have eF:Hid (aw (·=cb) n pb db w o d w3 o3 d3 L):=aa ((aw.aU H.o cX.o).trans eA (fun _ _ h=>h.elim));have fy:Hid (bC w3 cb sb i N x0):=aa ((HS.o.below cX.o).kept (eA.block (Nat.lt_of_lt_of_le uY cX.o.size) Q6.o (fun h=>h)));have B8:=aa Dc;clear hw2 eA Dc;by_cases hc3:c3=0
 ·subst hc3;obtain⟨iJ,hf3⟩:=ue rfl;obtain⟨a3,k3,rfl⟩:=az iJ;have Br:=aa (fp iJ);have mB:=aa iJ;have ahy:Hid (∀b,(Value.slice a3 x.bytes.length k3).ownBlock=some b->b≠cb):=aa (fun b hb e=>by
   have:=aG iJ b hb;have:=cX.o.size;omega)
  clear ue zT iJ hf3;refine⟨_,rfl,?_⟩;go_simp;iterate 5 (refine qz ?_)
  refine wpQuiet_nil ?_;obtain⟨⟨-,hc1,-⟩,-,Jq⟩:=fy.o.cells;have hz1:=Jq 1;have HRS:Hid (Rd (w3.setCell ⟨cb,1,none⟩ (.int .i64 ((i:Int)+1))) (.slice a3 x.bytes.length k3) x.bytes):=aa (((aH.refl (·=cb) w3).setCell ⟨cb,1,none⟩ _ (.inl rfl)).rd Br.o (fun b hb e=>ahy.o b hb e));have gj:Hid (bC (w3.setCell ⟨cb,1,none⟩ (.int .i64 ((i:Int)+1))) cb sb (i+1) N x0):=aa (by
   have:=fy.o.setAt (i':=i+1);rwa [show((i+1:Nat):Int)=(i:Int)+1 by omega]at this)
  have fZ:Hid (aw (·=cb) n pb db w o d (w3.setCell ⟨cb,1,none⟩ (.int .i64 ((i:Int)+1))) o3 d3 L):=aa (eF.o.setCell _ _ (eF.o.free uY Q6.o) (.inl rfl));clear Jq;go_wp2_with fail;generalize w3.setCell ⟨cb,1,none⟩ (.int .i64 ((i:Int)+1))=w4 at *;refine(qy _ x _ HRS.o).mono ?_;rintro e w5⟨rfl,nT⟩;have b8:=aa (gj.o.below nT);have kV:=aa (fZ.o.below nT);clear nT hc1 hz1;obtain⟨-,⟨k3',k4',k5',k6'⟩,Jq⟩:=b8.o.cells;have hz3:=Jq 3;have uT:=Jq 4;have TQ:=Jq 5;have WC:=Jq 6;clear Jq;go_wp2;go_ret2;have UT:=eF.o.free uY Q6.o;exact⟨0,d3,o3,rfl,(((kV.o.setCell ⟨cb,3,none⟩ _ UT (.inl rfl)).setCell ⟨cb,4,none⟩ _ UT (.inl rfl)).setCell ⟨cb,5,none⟩ _ UT (.inl rfl)).setCell ⟨cb,6,none⟩ _ UT (.inl rfl),.inl rfl,fun _=>b8.o.UR⟩
 ·obtain rfl:=zT hc3;have Ka:¬(c3:Int)=0:=by omega
  have Jp:=aa hc3;clear hc3 ue zT;refine⟨_,rfl,?_⟩;go_simp;iterate 5 (refine qz ?_)
  refine wpQuiet_nil ?_;go_wp2;go_ret2;exact⟨c3,d3,o3,by rw[beq_false_of_ne Jp.o];rfl,eF.o,B8.o,fun h=>absurd h Jp.o⟩
end
end
section
open Go.RowKit Go.Maps Go.MapKept
section
variable {S:Nat->Prop} {w w':World} {pb db n kb sb:Nat} {name:Name} {o o':ar} {d d':Dsk} {L L':aC}
def eV(w:World)(kb sb:Nat)(out:List aF):Prop:=(out=[]/\∃x,dI w kb sb x false)\/∃x,out.getLast? = some x/\dI w kb sb x true
theorem eV.kept{out:List aF}(h:eV w kb sb out)(hb:w'.heap[kb]? = w.heap[kb]?):eV w' kb sb out:=
 h.imp (fun⟨h1,x,h2⟩=>⟨h1,x,h2.kept hb⟩) (fun⟨x,h1,h2⟩=>⟨x,h1,h2.kept hb⟩)
theorem eV.lt{out:List aF}(h:eV w kb sb out):kb<w.heap.size:=by
 rcases h with⟨_,x,h⟩|⟨x,_,h⟩
 ·exact h.lt
 ·exact h.lt
theorem eV.below{out:List aF}(h:eV w kb sb out)(hb:Below w.heap.size w w'):eV w' kb sb out:=h.kept (hb.block _ h.lt)
theorem Ce{κ υ:Type}[DecidableEq κ]{m:List (κ×υ)}{k:κ}{v:υ}(h:aA m k=some v)(k':κ):aA (aS m k v) k'=aA m k':=by
 grind [ay]
theorem aw.same(h:aw S n pb db w o d w' o' d' L){f:gR}(hL:aA L name=some f):aw S n pb db w o d w' o' d' (aS L name f):=
 h.congr (cD h.aX.keys) (fun x=>Ce hL x)
def z7(n pb db:Nat)(w:World)(o:ar)(d:Dsk)(L:aC)(name:Name)(kb sb:Nat)(out:List aF)(x:aF)(e:Ending)(w':World):Prop:=
 ∃c d' o',e=.returned (.int .i64 ((c:Nat):Int))/\aw (·=kb) n pb db w o d w' o' d' (if c=0 then aS L name (au (sQ out x) false) else L)/\(c=0\/kJ d d' L c)/\(c=0->eV w' kb sb (sQ out x))
def qA(last:aF)(any:Bool)(x:aF):Bool:=decide (x.t=x.h) || (any && (decide (last.t=x.t) && decide (last.h=x.h)))
theorem z8{a b:UInt32}(h:¬a=b):¬((a.toNat:Int)=(b.toNat:Int))/\((a.toNat:Int) == (b.toNat:Int))=false/\¬a.toNat=b.toNat/\decide (a.toNat=b.toNat)=false/\decide ((a.toNat:Int)=(b.toNat:Int))=false:=by
 grind [UInt32.toNat_inj]
theorem Q7{last x:aF}{any:Bool}(hk:dI w kb sb last any)(hs:qA last any x=true) :
 Calls prog 225 #[ptrTo kb,.agg #[.int .u32 (x.t.toNat:Int),.int .u32 (x.h.toNat:Int),.int .u64 (x.x.toNat:Int),.int .u32 (x.m.toNat:Int)]] w fun e w'=>e=.returned (.int .i64 0)/\Below w.heap.size w w':=by
 obtain⟨hc0,hc1,hc2,hc3,gZ,Bq,-⟩:=hk.cells;have yo:=hk.lt;clear hk hc0 hc3 gZ;unfold qA at hs;unfold ptrTo;by_cases h1:x.t=x.h
 ·rw[h1];clear hs h1 hc1 hc2 Bq;go_enter func225,ntmps225;go_wp2;go_quiet (fail)
  go_wp2;go_ret;exact⟨rfl,below_drewN ai _⟩
 ·cases any with
  |false=>grind
  |true=>
    obtain⟨g1,g2,g3,g4,g5⟩:=z8 h1;simp only[h1,decide_false,Bool.false_or,Bool.true_and,Bool.and_eq_true,decide_eq_true_eq]at hs;obtain⟨h2,h3⟩:=hs;rw[h2]at hc1;rw[h3]at hc2;clear h1 h2 h3;go_enter func225,ntmps225;go_wp2;go_quiet (fail)
    go_wp2;go_ret;exact⟨rfl,below_drewN ai _⟩
theorem Kd{out:List aF}{last:aF}{any:Bool}{x:aF}(h:(out=[]/\any=false)\/(out.getLast? = some last/\any=true)):(qA last any x=true->sQ out x=out)/\(qA last any x=false->sQ out x=out++[x]):=by
 unfold qA;constructor
 ·intro hs;refine vL ?_;simp only[Bool.or_eq_true,Bool.and_eq_true,decide_eq_true_eq]at hs;rcases hs with hs |⟨h1,h2,h3⟩
  ·exact .inl hs
  ·rcases h with⟨_,h⟩|⟨h,_⟩
   ·grind
   ·exact .inr ⟨last,h,h2,h3⟩
 ·intro hs;refine zD (fun hk=>?_);simp only[Bool.or_eq_false_iff,Bool.and_eq_false_iff,decide_eq_false_iff_not]at hs;rcases hk with hk |⟨y,hy,hs1,hs2⟩
  ·grind
  grind
theorem UU(HW:aQ)(h:aP w pb db n o d L)(hst:aB w sb pb name 20)(ho:o sb=none)(fw:o kb=none)(hne:kb≠sb){out:List aF}(hL:aA L name=some (au out false))(hN:out.length<65535){last x:aF}{any:Bool}(hk:dI w kb sb last any)(hs:qA last any x=false) :
 Calls prog 225 #[ptrTo kb,.agg #[.int .u32 (x.t.toNat:Int),.int .u32 (x.h.toNat:Int),.int .u64 (x.x.toNat:Int),.int .u32 (x.m.toNat:Int)]] w fun e w'=>
  ∃c d' o',e=.returned (.int .i64 ((c:Nat):Int))/\aw (·=kb) n pb db w o d w' o' d' (if c=0 then aS L name (au (out++[x]) false) else L)/\(c=0\/kJ d d' L c)/\dI w' kb sb x true:=by
 have k9:Hid (∀W o' d',aP W pb db n o' d' L->aB W sb pb name 20->o' sb=none->∀rv,Rd W rv x.bytes->(∀b,rv.ownBlock=some b->o' b=none) ->
  Calls prog 72 #[ptrTo sb,rv] W (jk (fun _=>False) n pb db W o' d' L (aS L name (au (out++[x]) false)))):=aa (fun W o' d' hW YQ kN rv hr hro=>by
  have:=j6 HW hW YQ kN af af hL (dW out) (by grind) hr x.eB hro;grind [au])
 have acx:=aa (fun W=>uj x W);have H:=aa h;have HST:=aa hst;have HO:=aa ho;have Pq:=aa fw;have HK:=aa hk;have rz:=aa hne;obtain⟨-,hc1,hc2,-,-,Bq,-⟩:=hk.cells;have yo:=hk.lt;have YX:Hid (∀W,dI W kb sb last any->dI (((((W.setCell ⟨kb,1,none⟩ (.int .u32 (x.t.toNat:Int))).setCell ⟨kb,2,none⟩ (.int .u32 (x.h.toNat:Int))).setCell ⟨kb,3,none⟩ (.int .u64 (x.x.toNat:Int))).setCell ⟨kb,4,none⟩ (.int .u32 (x.m.toNat:Int))).setCell ⟨kb,5,none⟩ (.bool true)) kb sb x true):=aa (fun W h=>h.set);clear h hst ho fw hk hne hL hN;unfold qA at hs;simp only[Bool.or_eq_false_iff,Bool.and_eq_false_iff,decide_eq_false_iff_not]at hs;obtain⟨hs1,hs2⟩:=hs;obtain⟨a1,a2,a3,a4,a5⟩:=z8 hs1;clear hs1;have Q8:any=false\/(any=true/\¬last.t=x.t)\/(any=true/\last.t=x.t/\¬last.h=x.h):=by
  grind
 clear hs2;unfold ptrTo at *;rcases Q8 with rfl |⟨rfl,g⟩|⟨rfl,g,g'⟩;case' inr.inl=>
  obtain⟨b1,b2,b3,b4,b5⟩:=z8 g;clear g
 case' inr.inr=>
  obtain⟨b1,b2,b3,b4,b5⟩:=z8 g';rw[g]at hc1;clear g g'
 all_goals
  go_enter func225,ntmps225;go_wp2;go_quiet (fail)
  have cS:Hid (Below w.heap.size w ((w.alloc (.cells #[.int .u32 (x.t.toNat:Int),.int .u32 (x.h.toNat:Int),.int .u64 (x.x.toNat:Int),.int .u32 (x.m.toNat:Int)] 64)).drewN nq)):=aa (below_drewN ai _);have e0:((w.alloc (.cells #[.int .u32 (x.t.toNat:Int),.int .u32 (x.h.toNat:Int),.int .u64 (x.x.toNat:Int),.int .u32 (x.m.toNat:Int)] 64)).drewN nq).cell? ⟨w.heap.size,0,none⟩=some (.int .u32 (x.t.toNat:Int)):=by simp
  have e1:((w.alloc (.cells #[.int .u32 (x.t.toNat:Int),.int .u32 (x.h.toNat:Int),.int .u64 (x.x.toNat:Int),.int .u32 (x.m.toNat:Int)] 64)).drewN nq).cell? ⟨w.heap.size,1,none⟩=some (.int .u32 (x.h.toNat:Int)):=by simp
  have e2:((w.alloc (.cells #[.int .u32 (x.t.toNat:Int),.int .u32 (x.h.toNat:Int),.int .u64 (x.x.toNat:Int),.int .u32 (x.m.toNat:Int)] 64)).drewN nq).cell? ⟨w.heap.size,2,none⟩=some (.int .u64 (x.x.toNat:Int)):=by simp
  have e3:((w.alloc (.cells #[.int .u32 (x.t.toNat:Int),.int .u32 (x.h.toNat:Int),.int .u64 (x.x.toNat:Int),.int .u32 (x.m.toNat:Int)] 64)).drewN nq).cell? ⟨w.heap.size,3,none⟩=some (.int .u32 (x.m.toNat:Int)):=by simp
  have JB:w.heap.size<((w.alloc (.cells #[.int .u32 (x.t.toNat:Int),.int .u32 (x.h.toNat:Int),.int .u64 (x.x.toNat:Int),.int .u32 (x.m.toNat:Int)] 64)).drewN nq).heap.size:=by simp
  generalize (w.alloc (.cells #[.int .u32 (x.t.toNat:Int),.int .u32 (x.h.toNat:Int),.int .u64 (x.x.toNat:Int),.int .u32 (x.m.toNat:Int)] 64)).drewN nq=w1 at *;clear hc1 hc2 Bq;have HK1:=aa (HK.o.below cS.o);obtain⟨k0,k1,k2,k3,k4,k5,Jq⟩:=HK1.o.cells;have z1:=Jq 1;have z2:=Jq 2;have z3:=Jq 3;have z4:=Jq 4;have z5:=Jq 5;have X1:¬w.heap.size=kb:=by omega
  clear Jq;go_wp2;have Q9:=YX.o w1 HK1.o;have cP:aw (·=kb) n pb db w o d (((((w1.setCell ⟨kb,1,none⟩ (.int .u32 (x.t.toNat:Int))).setCell ⟨kb,2,none⟩ (.int .u32 (x.h.toNat:Int))).setCell ⟨kb,3,none⟩ (.int .u64 (x.x.toNat:Int))).setCell ⟨kb,4,none⟩ (.int .u32 (x.m.toNat:Int))).setCell ⟨kb,5,none⟩ (.bool true)) o d L:=
   (((((aw.aU (S:=(·=kb)) H.o cS.o).setCell ⟨kb,1,none⟩ _ Pq.o (.inl rfl)).setCell ⟨kb,2,none⟩ _ Pq.o (.inl rfl)).setCell ⟨kb,3,none⟩ _ Pq.o (.inl rfl)).setCell ⟨kb,4,none⟩ _ Pq.o (.inl rfl)).setCell ⟨kb,5,none⟩ _ Pq.o (.inl rfl)
  have UO:w.heap.size<(((((w1.setCell ⟨kb,1,none⟩ (.int .u32 (x.t.toNat:Int))).setCell ⟨kb,2,none⟩ (.int .u32 (x.h.toNat:Int))).setCell ⟨kb,3,none⟩ (.int .u64 (x.x.toNat:Int))).setCell ⟨kb,4,none⟩ (.int .u32 (x.m.toNat:Int))).setCell ⟨kb,5,none⟩ (.bool true)).heap.size:=by simp_all
  have f:∀(j:Nat)(v:Value),w1.cell? ⟨w.heap.size,j,none⟩=some v->(((((w1.setCell ⟨kb,1,none⟩ (.int .u32 (x.t.toNat:Int))).setCell ⟨kb,2,none⟩ (.int .u32 (x.h.toNat:Int))).setCell ⟨kb,3,none⟩ (.int .u64 (x.x.toNat:Int))).setCell ⟨kb,4,none⟩ (.int .u32 (x.m.toNat:Int))).setCell ⟨kb,5,none⟩ (.bool true)).cell? ⟨w.heap.size,j,none⟩=some v:=fun j v hv=>
   ((((((aH.refl (·=kb) w1).setCell ⟨kb,1,none⟩ (.int .u32 (x.t.toNat:Int)) (.inl rfl)).setCell ⟨kb,2,none⟩ (.int .u32 (x.h.toNat:Int)) (.inl rfl)).setCell ⟨kb,3,none⟩ (.int .u64 (x.x.toNat:Int)) (.inl rfl)).setCell ⟨kb,4,none⟩ (.int .u32 (x.m.toNat:Int)) (.inl rfl)).setCell ⟨kb,5,none⟩ (.bool true) (.inl rfl)).cell hv X1
  have f0:=f 0 _ e0;have f1:=f 1 _ e1;have f2:=f 2 _ e2;have f3:=f 3 _ e3;have WY:=aa Q9;have eu:=aa cP;have q0:=Q9.cells.1;unfold ptrTo at q0;clear f Q9 cP e0 e1 e2 e3 k0 k1 k2 k3 k4 k5 z1 z2 z3 z4 z5 HK1;generalize (((((w1.setCell ⟨kb,1,none⟩ (.int .u32 (x.t.toNat:Int))).setCell ⟨kb,2,none⟩ (.int .u32 (x.h.toNat:Int))).setCell ⟨kb,3,none⟩ (.int .u64 (x.x.toNat:Int))).setCell ⟨kb,4,none⟩ (.int .u32 (x.m.toNat:Int))).setCell ⟨kb,5,none⟩ (.bool true))=w2 at *;have ahz:w.heap.size<=w2.heap.size:=Nat.le_of_lt UO;have Pr:Hid (∀w3 v3,w3.ownsRow w2.drew.heap.size 5 1 v3 x.bytes.length (x.bytes.map bv)->Below w2.drew.heap.size w2.drew w3->(w3.cell? ⟨kb,0,none⟩=some (.pointer (some ⟨sb,0,none⟩))/\w3.cell? ⟨w.heap.size,0,none⟩=some (.int .u32 (x.t.toNat:Int))/\w3.cell? ⟨w.heap.size,1,none⟩=some (.int .u32 (x.h.toNat:Int))/\w3.cell? ⟨w.heap.size,2,none⟩=some (.int .u64 (x.x.toNat:Int))/\w3.cell? ⟨w.heap.size,3,none⟩=some (.int .u32 (x.m.toNat:Int))) /\
   aw (·=kb) n pb db w o d w3 o d L/\aB w3 sb pb name 20/\Rd w3 v3 x.bytes/\(∀b,v3.ownBlock=some b->o b=none)/\dI w3 kb sb x true):=aa (fun w3 v3 iJ hb3=>by
   have eA:=eu.o.drew.below hb3;have hs3:dI w3 kb sb x true:=WY.o.kept (hb3.block kb WY.o.lt);have g:=fun(j:Nat)(v:Value)(hv:w2.cell? ⟨w.heap.size,j,none⟩=some v)=>(show w3.cell? ⟨w.heap.size,j,none⟩=some v by rw[hb3.cell (p:=⟨w.heap.size,j,none⟩) UO];exact hv);refine⟨⟨hs3.cells.1,g 0 _ f0,g 1 _ f1,g 2 _ f2,g 3 _ f3⟩,eA,?_,fp iJ,fun b hb=>H.o.fresh (Nat.le_trans ahz (aG iJ b hb)),hs3⟩;exact HST.o.moved eA HO.o (fun e=>rz.o e.symm))
  have hk2:Hid (∀w3 w4 d4 o4 L4,aw (·=kb) n pb db w o d w3 o d L->dI w3 kb sb x true->w3.cell? ⟨w.heap.size,0,none⟩=some (.int .u32 (x.t.toNat:Int))/\w3.cell? ⟨w.heap.size,1,none⟩=some (.int .u32 (x.h.toNat:Int))/\w3.cell? ⟨w.heap.size,2,none⟩=some (.int .u64 (x.x.toNat:Int))/\w3.cell? ⟨w.heap.size,3,none⟩=some (.int .u32 (x.m.toNat:Int))->aw (fun _=>False) n pb db w3 o d w4 o4 d4 L4 ->
   (w4.cell? ⟨kb,0,none⟩=some (.pointer (some ⟨sb,0,none⟩))/\w4.cell? ⟨w.heap.size,0,none⟩=some (.int .u32 (x.t.toNat:Int))/\w4.cell? ⟨w.heap.size,1,none⟩=some (.int .u32 (x.h.toNat:Int))/\w4.cell? ⟨w.heap.size,2,none⟩=some (.int .u64 (x.x.toNat:Int))/\w4.cell? ⟨w.heap.size,3,none⟩=some (.int .u32 (x.m.toNat:Int))) /\
   aw (·=kb) n pb db w o d w4 o4 d4 L4/\dI w4 kb sb x true):=aa (fun w3 w4 d4 o4 L4 eA hs3 ⟨g0,g1,g2,g3⟩ eC=>by
   have oP:dI w4 kb sb x true:=hs3.kept (eC.block hs3.lt Pq.o (fun h=>h));have hx:o w.heap.size=none:=H.o.fresh (Nat.le_refl _);exact⟨⟨oP.cells.1,eC.cell g0 hx (fun h=>h),eC.cell g1 hx (fun h=>h),eC.cell g2 hx (fun h=>h),eC.cell g3 hx (fun h=>h)⟩,eA.trans eC (fun _ _ h=>h.elim),oP⟩)
  go_region_held3 (fun w'=>w'.cell? ⟨kb,0,none⟩=some (.pointer (some ⟨sb,0,none⟩))/\w'.cell? ⟨w.heap.size,0,none⟩=some (.int .u32 (x.t.toNat:Int))/\w'.cell? ⟨w.heap.size,1,none⟩=some (.int .u32 (x.h.toNat:Int))/\w'.cell? ⟨w.heap.size,2,none⟩=some (.int .u64 (x.x.toNat:Int))/\w'.cell? ⟨w.heap.size,3,none⟩=some (.int .u32 (x.m.toNat:Int))) (first | exact⟨q0,f0,f1,f2,f3⟩| exact q1 | exact q2)
   (first
     | (go_at_call 208;refine(acx.o _).mono ?_;rintro e w3⟨v3,rfl,iJ,hb3⟩;obtain⟨q1,eA,uf,hr3,hf3,hs3⟩:=Pr.o w3 v3 iJ hb3)
     | (go_at_call 72;refine(k9.o w3 o d eA.aX uf HO.o v3 hr3 hf3).mono ?_;rintro e w4⟨c4,d4,o4,rfl,eC,u6⟩;obtain⟨q2,j7,hs5⟩:=hk2.o w3 w4 d4 o4 _ eA hs3 q1.2 eC))
  have kV:=aa j7;have b8:=aa hs5;have B0:=aa u6;clear j7 hs5 u6 eC eA uf hr3 hf3 hs3 iJ hb3 q1 q2 q0 f0 f1 f2 f3;go_wp2;go_ret;exact⟨c4,d4,o4,rfl,kV.o,B0.o,b8.o⟩
theorem xO(HW:aQ)(h:aP w pb db n o d L)(hst:aB w sb pb name 20)(ho:o sb=none)(fw:o kb=none)(hne:kb≠sb){out:List aF}(hL:aA L name=some (au out false))(hN:out.length<65535)(hk:eV w kb sb out)(x:aF) :
 Calls prog 225 #[ptrTo kb,.agg #[.int .u32 (x.t.toNat:Int),.int .u32 (x.h.toNat:Int),.int .u64 (x.x.toNat:Int),.int .u32 (x.m.toNat:Int)]] w (z7 n pb db w o d L name kb sb out x):=by
 obtain⟨last,any,hsk,Q8⟩:∃last any,dI w kb sb last any/\((out=[]/\any=false)\/(out.getLast? = some last/\any=true)):=by
  rcases hk with⟨h1,y,h2⟩|⟨y,h1,h2⟩
  ·grind
  grind
 obtain⟨p1,p2⟩:=Kd (x:=x) Q8;cases hs:qA last any x with
 |true=>
   refine(Q7 hsk hs).mono ?_;rintro e w'⟨rfl,hb⟩;refine⟨0,d,o,rfl,?_,.inl rfl,fun _=>?_⟩
   ·rw[if_pos rfl,p1 hs];exact(aw.aU h hb).same hL
   grind [eV.below]
 |false=>
   refine(UU HW h hst ho fw hne hL hN hsk hs).mono ?_;rintro e w'⟨c,d',o',rfl,hm,he,hs'⟩;refine⟨c,d',o',rfl,by grind,he,fun _=>?_⟩;rw[p2 hs];exact .inr ⟨x,ah,hs'⟩
end
end
end Go.Proofs.YthkkgdpomhhjjaaGreatDoor
namespace Go.Proofs
open Go.Shelf
def Tryz.um:Go.Shelf.Ren:=⟨fun | 171=>51 | 243=>85 | 246=>126 | 283=>187 | 284=>188 | 285=>189 | 286=>190 | 129=>136 | 317=>232 | 318=>233 | 319=>234 | 320=>235 | 337=>276 | 338=>277 | n=>n,fun | 3=>3 | 9=>9 | 2=>2 | 4=>4 | 171=>276 | 0=>0 | 53=>62 | 37=>39 | 5=>5 | 173=>278 | 212=>311 | 51=>26 | 20=>20 | 213=>312 | 46=>159 | 232=>377 | 233=>378 | n=>n,fun | 17=>0 | 18=>1 | 19=>2 | n=>n⟩
theorem Tryz.itoa:Go.Proofs.LaysM.n171 prog Tryz.um:={
 mixed:=by kernel_rfl
 f129:=func136.trans ak
 f171:=func51.trans ak
 f243:=func85.trans ak
 f246:=func126.trans ak
 f283:=func187.trans ak
 f284:=func188.trans ak
 f285:=func189.trans ak
 f286:=func190.trans ak
 f317:=func232.trans ak
 f318:=func233.trans ak
 f319:=func234.trans ak
 f320:=func235.trans ak
 f337:=func276.trans ak
 f338:=func277.trans ak
 t0:=Tryz.underlying0
 a0:=Tryz.isAgg0
 z0:=Tryz.sizeOf0
 v0:=Tryz.zeroValue0
 t2:=Tryz.underlying2
 a2:=Tryz.isAgg2
 z2:=Tryz.sizeOf2
 v2:=Tryz.zeroValue2
 t3:=Tryz.underlying3
 a3:=Tryz.isAgg3
 z3:=Tryz.sizeOf3
 v3:=Tryz.zeroValue3
 t4:=Tryz.underlying4
 a4:=Tryz.isAgg4
 z4:=Tryz.sizeOf4
 v4:=Tryz.zeroValue4
 t5:=Tryz.underlying5
 a5:=Tryz.isAgg5
 z5:=Tryz.sizeOf5
 v5:=Tryz.zeroValue5
 t9:=Tryz.underlying9
 a9:=Tryz.isAgg9
 z9:=Tryz.sizeOf9
 v9:=Tryz.zeroValue9
 t20:=Tryz.underlying20
 a20:=Tryz.isAgg20
 z20:=Tryz.sizeOf20
 v20:=Tryz.zeroValue20
 t37:=Tryz.underlying39
 a37:=Tryz.isAgg39
 z37:=Tryz.sizeOf39
 v37:=Tryz.zeroValue39
 t46:=Tryz.underlying159
 a46:=Tryz.isAgg159
 z46:=Tryz.sizeOf159
 v46:=Tryz.zeroValue159
 t51:=Tryz.underlying26
 a51:=Tryz.isAgg26
 z51:=Tryz.sizeOf26
 v51:=Tryz.zeroValue26
 t53:=Tryz.underlying62
 a53:=Tryz.isAgg62
 z53:=Tryz.sizeOf62
 v53:=Tryz.zeroValue62
 t171:=Tryz.underlying276
 a171:=Tryz.isAgg276
 z171:=Tryz.sizeOf276
 v171:=Tryz.zeroValue276
 t173:=Tryz.underlying278
 a173:=Tryz.isAgg278
 z173:=Tryz.sizeOf278
 v173:=Tryz.zeroValue278
 t212:=Tryz.underlying311
 a212:=Tryz.isAgg311
 z212:=Tryz.sizeOf311
 v212:=Tryz.zeroValue311
 t213:=Tryz.underlying312
 a213:=Tryz.isAgg312
 z213:=Tryz.sizeOf312
 t232:=Tryz.underlying377
 a232:=Tryz.isAgg377
 z232:=Tryz.sizeOf377
 v232:=Tryz.zeroValue377
 t233:=Tryz.underlying378
 a233:=Tryz.isAgg378
 z233:=Tryz.sizeOf378
 v233:=Tryz.zeroValue378
 g17:=by kernel_rfl
 g18:=by kernel_rfl
 g19:=by kernel_rfl
 i0:=by kernel_rfl
 i2:=by kernel_rfl
 i3:=by kernel_rfl
 i4:=by kernel_rfl
 i5:=by kernel_rfl
 i9:=by kernel_rfl
 i20:=by kernel_rfl
 i37:=by kernel_rfl
 i46:=by kernel_rfl
 i51:=by kernel_rfl
 i53:=by kernel_rfl
 i171:=by kernel_rfl
 i173:=by kernel_rfl
 i212:=by kernel_rfl
 i232:=by kernel_rfl
 i233:=by kernel_rfl
 m17:=by kernel_rfl
 m18:=by kernel_rfl
 m19:=by kernel_rfl }
def Tryz.Aa:Go.Shelf.Ren:=⟨fun | 99=>114 | 206=>176 | n=>n,fun | 9=>9 | 4=>4 | 3=>3 | n=>n,fun | n=>n⟩
theorem Tryz.YY:Go.Proofs.Lays.n99 prog Tryz.Aa:={
 mixed:=by kernel_rfl
 f99:=func114.trans ak
 f206:=func176.trans ak
 t3:=Tryz.underlying3
 a3:=Tryz.isAgg3
 z3:=Tryz.sizeOf3
 v3:=Tryz.zeroValue3
 t4:=Tryz.underlying4
 a4:=Tryz.isAgg4
 z4:=Tryz.sizeOf4
 v4:=Tryz.zeroValue4
 t9:=Tryz.underlying9
 a9:=Tryz.isAgg9
 z9:=Tryz.sizeOf9
 v9:=Tryz.zeroValue9 }
def Tryz.Ab:Go.Shelf.Ren:=⟨fun | 45=>226 | n=>n,fun | 22=>301 | 23=>206 | 3=>3 | 4=>4 | 0=>0 | n=>n,fun | n=>n⟩
theorem Tryz.YZ:Go.Proofs.SlLaysE.n45 prog Tryz.Ab:={
 mixed:=by kernel_rfl
 f45:=⟨Tryz.f226.name,af,func226.trans ak⟩
 t0:=Tryz.underlying0
 a0:=Tryz.isAgg0
 z0:=Tryz.sizeOf0
 v0:=Tryz.zeroValue0
 t3:=Tryz.underlying3
 a3:=Tryz.isAgg3
 z3:=Tryz.sizeOf3
 v3:=Tryz.zeroValue3
 t4:=Tryz.underlying4
 a4:=Tryz.isAgg4
 z4:=Tryz.sizeOf4
 v4:=Tryz.zeroValue4
 t22:=Tryz.underlying301
 a22:=Tryz.isAgg301
 z22:=Tryz.sizeOf301
 v22:=Tryz.zeroValue301
 a23:=Tryz.isAgg206
 z23:=Tryz.sizeOf206 }
end Go.Proofs
