/-
  Joined.
-/
import Derived.Test.YthkkgdpomhhjjaaGreatDoorX04
import Derived.Shelf.SlSortCmp.Insertion
import Derived.Sort.Grow
import Derived.Deep.AppendSrc
import Derived.Shelf.Strconv.Itoa3
import Derived.Shelf.Strings.Prefix
import Derived.Shelf.SlicesE.Delete
import Derived.Ground.NamesProg
import Derived.Ground.SlgnProg
import Derived.Shelf.LaysM
set_option maxRecDepth 100000
set_option maxHeartbeats 8000000
namespace Go.Proofs.YthkkgdpomhhjjaaGreatDoor
open Go.Proofs.Tryz
section
open Go.RowKit Go.Maps Go.MapKept
def aD(w:World)(sb pb:Nat)(name:Name)(sz:Nat):Prop:=∃t,w.heap[sb]? = some (.cells #[ptrTo pb,.string name,.int .i64 (sz:Int)] t)
section
variable {S:Nat->Prop} {w w':World} {sb pb db n sz:Nat} {name:Name} {o o':ar} {d d':Dsk} {L L':aC}
theorem aD.cells(h:aD w sb pb name sz):w.cell? ⟨sb,0,none⟩=some (ptrTo pb)/\w.cell? ⟨sb,1,none⟩=some (.string name)/\w.cell? ⟨sb,2,none⟩=some (.int .i64 (sz:Int)):=by
 obtain⟨t,h⟩:=h;refine⟨?_,?_,?_⟩<;>rw[aq h]<;>rfl
theorem aD.lt(h:aD w sb pb name sz):sb<w.heap.size:=by
 obtain⟨t,h⟩:=h;exact(Array.getElem?_eq_some_iff.1 h).1
theorem aD.kept(h:aD w sb pb name sz)(hb:w'.heap[sb]? = w.heap[sb]?):aD w' sb pb name sz:=by
 obtain⟨t,h⟩:=h;exact⟨t,hb.trans h⟩
theorem aD.below(h:aD w sb pb name sz)(hb:Below w.heap.size w w'):aD w' sb pb name sz:=h.kept (hb.block _ h.lt)
theorem aD.moved(h:aD w sb pb name sz)(hm:au S n pb db w o d w' o' d' L')(ho:o sb=none)(hs:¬S sb):aD w' sb pb name sz:=h.kept (hm.block h.lt ho hs)
theorem aQ.dF(h:aQ w pb db n o d L){ps:List Pg}{fl:Bool}(hL:aA L name=some (.inl (ps,fl))):ps.length<=65536/\il ps:=by
 obtain⟨_,_,_,_,_,_,_,g⟩:=h;obtain⟨f,dp,q⟩:=g.dF _ _ _ hL;exact⟨q.most,q.short⟩
theorem kK(h:aQ w pb db n o d L){ps:List Pg}{fl:Bool}(hL:aA L name=some (.inl (ps,fl))) :
 Calls prog 92 #[ptrTo pb,.string name] w fun e w'=>e=.returned (.tuple #[.int .i64 ((er d ps).1:Int),.int .i64 ((er d ps).2:Int)])/\Below w.heap.size w w':=by
 obtain⟨_,_,_,_,_,hp,_,g⟩:=h;exact qx hp g hL
theorem BO(h:aQ w pb db n o d L)(name:Name)(hs:name.size<=1000) :
 Calls prog 92 #[ptrTo pb,.string name] w fun e w'=>(∃k:Nat,e=.returned (.tuple #[.int .i64 (k:Int),.int .i64 (cN d name:Int)]))/\Below w.heap.size w w':=by
 obtain⟨_,_,_,_,_,hp,_,g⟩:=h;exact(CQ hp (fun p hp=>(g.vJ p hp).2) name hs).mono fun e w' ⟨h1,h2⟩=>⟨⟨_,h1⟩,h2⟩
theorem gQ(h:aQ w pb db n o d L){ps:List Pg}{fl:Bool}(hL:aA L name=some (.inl (ps,fl))):cN d name=if d.dead=true then 6 else 0:=by
 obtain⟨_,_,_,_,_,_,_,g⟩:=h;obtain⟨f,dp,q,lL,kr⟩:=g.zE hL;cases hd:d.dead with
 |true=>rw[(kr hd).2];rfl
 |false=>rw[(lL hd).2];rfl
def dU(w:World)(pb:Nat)(name:Name)(sz:Nat)(c:Nat)(e:Ending)(w':World):Prop:=
 ∃v,e=.returned (.tuple #[v,.int .i64 (c:Int)])/\Below w.heap.size w w'/\(c=0->∃sb,v=ptrTo sb/\aD w' sb pb name sz/\w.heap.size<=sb)/\(c≠0->v=.pointer none)
theorem dV(h:aQ w pb db n o d L)(name:Name)(hs:name.size<=1000)(h1:1<=sz)(h2:sz<=240) :
 Calls prog 67 #[ptrTo pb,.string name,.int .i64 (sz:Int)] w (dU w pb name sz (cN d name)):=by
 have aM:=aa (BO h name hs);have g1:¬((sz:Int)<1):=by omega
 have g2:¬((sz:Int)>240):=by omega
 clear h;unfold ptrTo at *;generalize hC:cN d name=c at *;clear hC;by_cases hc:c=0
 ·subst hc;go_enter func67,ntmps67;go_wp2_with fail;refine aM.o.mono ?_;rintro e w1⟨⟨k,rfl⟩,hb⟩;have HB:=aa hb;clear hb;go_wp2;go_ret2;refine⟨_,rfl,HB.o.alloc HB.o.size _,fun _=>⟨w1.heap.size,rfl,⟨_,heap_alloc_new w1 _⟩,HB.o.size⟩,fun h=>absurd rfl h⟩
 ·have hc':¬(c:Int)=0:=by omega
  have HC:=aa hc;clear hc;go_enter func67,ntmps67;go_wp2_with fail;refine aM.o.mono ?_;rintro e w1⟨⟨k,rfl⟩,hb⟩;have HB:=aa hb;clear hb;go_wp2;go_ret2;exact⟨_,rfl,HB.o,fun h=>absurd h HC.o,fun _=>rfl⟩
theorem rZ(h:aD w sb pb name sz)(h1:1<=sz)(h2:sz<=240):Calls prog 94 #[ptrTo sb] w fun e w'=>e=.returned (.int .i64 (eJ sz:Int))/\w=w':=by
 obtain⟨-,-,hc2⟩:=h.cells;have e1:(240:Int).tdiv (sz:Int)=(eJ sz:Int):=by
  unfold eJ;rw[Int.tdiv_eq_ediv_of_nonneg ae];rfl
 clear h;have hz:¬(sz:Int)=0:=by omega
 unfold ptrTo;have acD:eJ sz<=240:=Nat.div_le_self _ _;generalize hp:eJ sz=p at *;clear hp;have e2:wrap64 (p:Int)=(p:Int):=by unfold wrap64;omega
 go_enter func94,ntmps94;go_wp2;go_ret;exact⟨rfl,rfl⟩
def CW(n pb db:Nat)(w:World)(o:ar)(d:Dsk)(L:aC)(R:Nat->Ending->World->ar->Prop)(e:Ending)(w':World):Prop:=
 ∃c d' o',R c e w' o'/\au (fun _=>False) n pb db w o d w' o' d' L/\(c=0\/kJ d d' L c)
def CX(k:Nat)(c:Nat)(e:Ending)(_:World)(_:ar):Prop:=∃x:Nat,e=.returned (.tuple #[.int .i64 (x:Int),.int .i64 (c:Int)])/\(c=0->x=k)
theorem ji(hp:aQ w' pb db n o' d' L')(ht:aF (o.In cz) w w')(hg:ct w.heap.size o o')(x7:bJ d d'):au S n pb db w o d w' o' d' L':=
 ⟨hp,ht.mono (fun _ _ h=>.inl h),hg,x7⟩
theorem zN{rs:List Rec}(hs:gC sz rs)(h1:1<=sz)(h2:sz<=240)(hN:0<rs.length) :
 ∃(q m:Nat)(b:Pg),(bw (eJ sz) rs).length=q+1/\(bw (eJ sz) rs)[q]? = some b/\b.length=sz*m/\1<=m/\m<=eJ sz/\q*eJ sz+m=rs.length/\b=(rs.drop (eJ sz*q)).flatten:=by
 have hp:=q8 h1 h2;obtain⟨g1,g2,g3⟩:=Nj hp hN;refine⟨cy (eJ sz) rs.length-1,rs.length-eJ sz*(cy (eJ sz) rs.length-1),_,?_,by rw[iP hp,if_pos g1],?_,ae,ae,by rw[Nat.mul_comm];omega,?_⟩
 ·rw[dS];omega
 ·rw[qp hs,Nat.min_eq_right ae]
 ·rw[List.take_of_length_le (by rw[List.length_drop];omega)]
theorem jX(HW:aP)(h:aQ w pb db n o d L)(hst:aD w sb pb name sz)(ho:o sb=none)(h1:1<=sz)(h2:sz<=240){rs:List Rec}{fl:Bool}(hL:aA L name=some (.inl (bw (eJ sz) rs,fl)))(hs:gC sz rs) :
 Calls prog 59 #[ptrTo sb] w (CW n pb db w o d L (CX rs.length)):=by
 obtain⟨jd,zO⟩:=h.dF hL;have aM:Hid (∀W,Below w.heap.size w W->Calls prog 92 #[ptrTo pb,.string name] W fun e w'=>e=.returned (.tuple #[.int .i64 ((er d (bw (eJ sz) rs)).1:Int),.int .i64 ((er d (bw (eJ sz) rs)).2:Int)])/\Below W.heap.size W w'):=aa (fun W hW=>kK (h.below hW) hL);have mH:Hid (∀W,Below w.heap.size w W->∀(k:Nat)(b:Pg),(bw (eJ sz) rs)[k]? = some b->Calls prog 93 #[ptrTo pb,.string name,.int .i64 (k:Int)] W (gP W pb db n o d L b)):=aa (fun W hW k b hk=>pj HW (h.below hW) hL hk);have H:=aa h;have HST:=aa hst;have HO:=aa ho;have Ee:=aa (fun hN=>zN (rs:=rs) hs h1 h2 hN);have UO:=aa (fun W(hW:aD W sb pb name sz)=>rZ hW h1 h2);have mm:=tJ sz;have TU:=hst.lt;clear h hst ho hL hs zO;unfold ptrTo at *;unfold er at aM;cases hd:d.dead with
 |true=>
   rw[hd,if_pos rfl]at aM;have HD:=aa hd;clear hd;dsimp only at aM;go_enter func59,ntmps59;go_wp2;refine wq w ?_;iterate 3 (refine qz ?_)
   refine qz ?_ (fun w' hw'=>by have hc:=(HST.o.below hw').cells.1;unfold ptrTo at hc;go_simp<;>rfl);iterate 3 (refine qz ?_)
   refine qz ?_ (fun w' hw'=>by have hc:=(HST.o.below hw').cells.2.1;go_simp<;>rfl);refine qw (fun w' hw'=>(aM.o w' hw').mono (fun e w'' h=>⟨h.1,hw'.trans (h.2.mono hw'.size)⟩)) ?_;iterate 5 (refine qz ?_)
   refine wpQuiet_nil ?_;intro w1 rH;have HB:=aa rH;clear rH;go_wp2;go_ret2;exact⟨6,d,o,⟨0,rfl,fun h=>absurd h af⟩,au.aW H.o HB.o,.inr (.inr ⟨rfl,HD.o⟩)⟩
 |false=>
   rw[hd,if_neg ah]at aM;clear hd;dsimp only at aM;rcases Nat.eq_zero_or_pos rs.length with hz | hN
   ·have hP:(bw (eJ sz) rs).length=0:=by
     rw[dS,hz];unfold cy;have:=q8 h1 h2;rw[Nat.div_eq_of_lt ae]
    rw[hP]at aM;have HZ:=aa hz;clear hz hP jd;go_enter func59,ntmps59;go_wp2;refine wq w ?_;iterate 3 (refine qz ?_)
    refine qz ?_ (fun w' hw'=>by have hc:=(HST.o.below hw').cells.1;unfold ptrTo at hc;go_simp<;>rfl);iterate 3 (refine qz ?_)
    refine qz ?_ (fun w' hw'=>by have hc:=(HST.o.below hw').cells.2.1;go_simp<;>rfl);refine qw (fun w' hw'=>(aM.o w' hw').mono (fun e w'' h=>⟨h.1,hw'.trans (h.2.mono hw'.size)⟩)) ?_;iterate 5 (refine qz ?_)
    refine wpQuiet_nil ?_;intro w1 rH;have HB:=aa rH;clear rH;go_wp2;go_ret2;exact⟨0,d,o,⟨0,rfl,fun _=>HZ.o.symm⟩,au.aW H.o HB.o,.inl rfl⟩
   ·obtain⟨q,m,b,f1,f2,f3,f4,f5,f6,-⟩:=Ee.o hN;have JX:Hid (∀W,Below w.heap.size w W->Calls prog 93 #[.pointer (some ⟨pb,0,none⟩),.string name,.int .i64 (q:Int)] W (gP W pb db n o d L b)):=aa (fun W hW=>mH.o W hW q b f2);have hq:q<=65536:=by omega
    have hm:sz*m<=240:=Nat.le_trans (Nat.mul_le_mul_left sz f5) mm;have rO:1<=sz*m:=Nat.mul_pos ae ae;have e1:(sz*m)/sz=m:=Nat.mul_div_cancel_left m ae;have e2:(sz*m)%sz=0:=Nat.mul_mod_right sz m;have hN':rs.length<=16777216:=by
     have:eJ sz<=240:=Nat.div_le_self _ _;have:=Nat.mul_le_mul hq this;omega
    generalize hPP:(bw (eJ sz) rs).length=P at *;rw[<- f3]at hm rO e1 e2;generalize Xc:b.length=B at *;generalize Px:rs.length=N at *;generalize hpe:eJ sz=p at *;have hT:q*p<=N:=by omega
    generalize hTT:q*p=T at *;have hwq:IntKind.i64.wrap ((P:Int)-1)=(q:Int):=by rw[ax ae ae];omega
    have hwm:IntKind.i64.wrap ((q:Int)*(p:Int))=(T:Int):=by rw[<- Int.natCast_mul,hTT];exact ax ae ae
    have hwd:(B:Int).tdiv (sz:Int)=(m:Int):=by rw[Int.tdiv_eq_ediv_of_nonneg ae,<- Int.natCast_ediv,e1]
    have hwr:(B:Int).tmod (sz:Int)=0:=by rw[Int.tmod_eq_emod_of_nonneg ae,<- Int.natCast_emod,e2];rfl
    have QT:(B:Int)%(sz:Int)=0:=by rw[<- Int.natCast_emod,e2];rfl
    have hwa:IntKind.i64.wrap ((T:Int)+(m:Int))=(N:Int):=by rw[ax ae ae];omega
    have hB0:¬(B:Int)=0:=by omega
    have hz0:¬(sz:Int)=0:=by omega
    have hP0:¬(P:Int)=0:=by omega
    have Jg:=aa Xc;have acG:Hid (IntKind.i64.wrap (m:Int)=(m:Int)):=aa (ax ae ae);have NA:=aa hwq;have YP:=aa hwm;have ahA:=aa hwd;have YQ:=aa hwr;have QU:=aa QT;have YR:=aa hwa;clear hPP Px hpe hTT Xc f1 f2 f3 f6 e1 e2 hwq hwm hwd hwr QT hwa;go_enter func59,ntmps59;go_wp2;refine wq w ?_;iterate 3 (refine qz ?_)
    refine qz ?_ (fun w' hw'=>by have hc:=(HST.o.below hw').cells.1;unfold ptrTo at hc;go_simp<;>rfl);iterate 3 (refine qz ?_)
    refine qz ?_ (fun w' hw'=>by have hc:=(HST.o.below hw').cells.2.1;go_simp<;>rfl);refine qw (fun w' hw'=>(aM.o w' hw').mono (fun e w'' h=>⟨h.1,hw'.trans (h.2.mono hw'.size)⟩)) ?_;iterate 5 (refine qz ?_)
    refine wpQuiet_nil ?_;intro w1 rH;have cQ:=aa rH;have BP:=aa (HST.o.below rH);clear rH;go_wp2;refine cD (Below w1.heap.size w1) 10 rfl ag ag (aj.drew) ?_;simp only[List.take_succ_cons,List.take_zero];iterate 3 (refine qz ?_)
    refine qz ?_ (fun w' hw'=>by have hc:=(BP.o.below hw').cells.1;unfold ptrTo at hc;go_simp<;>rfl);iterate 3 (refine qz ?_)
    refine qz ?_ (fun w' hw'=>by have hc:=(BP.o.below hw').cells.2.1;go_simp<;>rfl);refine qz ?_;refine qz ?_ (fun w' hw'=>by have hx:=NA.o;go_simp<;>rfl);refine wpQuiet_nil ?_;intro w2 hw2;refine⟨_,_,rfl,(by go_simp<;>exact⟨rfl,rfl⟩),?_⟩;have cX:Hid (Below w.heap.size w w2):=aa (cQ.o.trans (hw2.mono cQ.o.size));refine(JX.o w2 cX.o).mono ?_;rintro e w3⟨v3,c3,d3,o3,rfl,Ps,yq,hg3,acH,CY,tW,zP⟩;have eD:Hid (au (fun _=>False) n pb db w o d w3 o3 d3 L):=aa ((au.aW H.o cX.o).trans (ji (S:=fun _=>False) Ps yq hg3 acH) (fun _ _ h=>h));have BQ:=aa CY;have tX:=aa (HST.o.moved eD.o HO.o (fun h=>h));clear hw2 Ps yq hg3 acH CY;by_cases hc3:c3=0
    ·subst hc3;obtain⟨iL,-⟩:=tW rfl;rw[Jg.o]at iL;obtain⟨a3,k3,rfl⟩:=az iL;clear tW zP iL;refine⟨_,rfl,?_⟩;go_simp;iterate 5 (refine qz ?_)
     refine wpQuiet_nil ?_;have hx:=YQ.o;have hx2:=QU.o;have hc:=tX.o.cells.2.2;go_wp2;clear hx hx2;refine wq w3 ?_;refine qz ?_;refine qz ?_ (fun w' hw'=>by have hx:=NA.o;go_simp<;>rfl);refine qz ?_;refine qw (fun w' hw'=>(UO.o w' (tX.o.below hw')).mono (fun e w'' h=>⟨h.1,h.2▸hw'⟩)) ?_;refine qz ?_ (fun w' hw'=>by have hx:=YP.o;go_simp<;>rfl);iterate 5 (refine qz ?_)
     refine qz ?_ (fun w' hw'=>by have hc:=(tX.o.below hw').cells.2.2;go_simp<;>rfl);refine qz ?_ (fun w' hw'=>by have hx:=ahA.o;have hx2:=acG.o;go_simp<;>rfl);refine qz ?_ (fun w' hw'=>by have hx:=YR.o;go_simp<;>rfl);iterate 2 (refine qz ?_)
     refine wpQuiet_nil ?_;intro w4 hw4;go_wp2;go_ret2;exact⟨0,d3,o3,⟨N,rfl,fun _=>rfl⟩,eD.o.below hw4,.inl rfl⟩
    ·obtain rfl:=zP hc3;have JY:¬(c3:Int)=0:=by omega
     have Jh:=aa hc3;clear hc3 tW zP;refine⟨_,rfl,?_⟩;go_simp;iterate 5 (refine qz ?_)
     refine wpQuiet_nil ?_;go_wp2;go_ret2;exact⟨c3,d3,o3,⟨0,rfl,fun h=>absurd h Jh.o⟩,eD.o,BQ.o⟩
end
end
section
open Go.RowKit Go.Maps Go.MapKept
section
variable {S:Nat->Prop} {w w':World} {sb pb db n sz:Nat} {name:Name} {o o':ar} {d d':Dsk} {L L':aC}
theorem CZ{rs:List Rec}(hs:gC sz rs)(h1:1<=sz)(h2:sz<=240){i:Nat}(hi:i<rs.length) :
 ∃b:Pg,(bw (eJ sz) rs)[i/eJ sz]? = some b/\b.length%sz=0/\sz*(i%eJ sz)+sz<=b.length/\(b.drop (sz*(i%eJ sz))).take sz=rs[i]/\b.length<=240:=by
 have hp:=q8 h1 h2;obtain⟨g1,g2,g3⟩:=Qs hs hp hi;refine⟨_,by rw[iP hp,if_pos g1],?_,g3,g2,?_⟩
 ·rw[qp hs];exact Nat.mul_mod_right _ _
 ·rw[qp hs];exact Nat.le_trans (Nat.mul_le_mul_left sz (Nat.min_le_left _ _)) (tJ sz)
def YS(n pb db:Nat)(w:World)(o:ar)(d:Dsk)(L:aC)(b:Pg)(k a:Nat)(e:Ending)(w':World):Prop:=
 ∃v c d' o',e=.returned (.tuple #[v,.int .i64 ((if c=0 then k else 0:Nat):Int),.int .i64 ((if c=0 then a else 0:Nat):Int),.int .i64 ((c:Nat):Int)])/\au (fun _=>False) n pb db w o d w' o' d' L/\(c=0\/kJ d d' L c) /\
  (c=0->w'.ownsRow w.heap.size 5 1 v b.length (b.map bv)/\∀x,v.ownBlock=some x->o' x=none)
theorem BR(HW:aP)(h:aQ w pb db n o d L)(hst:aD w sb pb name sz)(ho:o sb=none)(h1:1<=sz)(h2:sz<=240){rs:List Rec}{fl:Bool}(hL:aA L name=some (.inl (bw (eJ sz) rs,fl)))(hs:gC sz rs){i:Nat}(hi:i<rs.length){b:Pg}(hb:(bw (eJ sz) rs)[i/eJ sz]? = some b) :
 Calls prog 90 #[ptrTo sb,.int .i64 (i:Int)] w (YS n pb db w o d L b (i/eJ sz) (sz*(i%eJ sz))):=by
 obtain⟨jd,zO⟩:=h.dF hL;have aM:Hid (∀W,Below w.heap.size w W->Calls prog 92 #[ptrTo pb,.string name] W fun e w'=>e=.returned (.tuple #[.int .i64 ((er d (bw (eJ sz) rs)).1:Int),.int .i64 ((er d (bw (eJ sz) rs)).2:Int)])/\Below W.heap.size W w'):=aa (fun W hW=>kK (h.below hW) hL);have mH:Hid (∀W,Below w.heap.size w W->Calls prog 93 #[ptrTo pb,.string name,.int .i64 ((i/eJ sz:Nat):Int)] W (gP W pb db n o d L b)):=aa (fun W hW=>pj HW (h.below hW) hL hb);have H:=aa h;have HST:=aa hst;have HO:=aa ho;obtain⟨b',hb',f1,f2,-,f4⟩:=CZ hs h1 h2 hi;obtain rfl:b'=b:=by rw[hb]at hb';exact(Option.some.inj hb').symm
 have UO:=aa (fun W(hW:aD W sb pb name sz)=>rZ hW h1 h2);have mm:=tJ sz;have zn:=q8 h1 h2;have acD:eJ sz<=240:=Nat.div_le_self _ _;have TU:=hst.lt;have hkP:=aN hb;have hN':rs.length<=16777216:=by
  have h3:rs.length<=eJ sz*(bw (eJ sz) rs).length:=by
   rw[dS];exact Nat.le_of_not_lt (fun h=>Nat.lt_irrefl _ ((fe zn).2 h))
  have h4:eJ sz<=240:=Nat.div_le_self _ _;have:=Nat.mul_le_mul h4 jd;omega
 have Pc:i/eJ sz<=i:=Nat.div_le_self _ _;have hr1:i%eJ sz<eJ sz:=Nat.mod_lt _ ae;have hr2:sz*(i%eJ sz)<=240:=Nat.le_trans (Nat.mul_le_mul_left sz (Nat.le_of_lt hr1)) mm;have hwk:(i:Int).tdiv (eJ sz:Int)=((i/eJ sz:Nat):Int):=by rw[Int.tdiv_eq_ediv_of_nonneg ae,Int.natCast_ediv]
 have hwm:(i:Int).tmod (eJ sz:Int)=((i%eJ sz:Nat):Int):=by rw[Int.tmod_eq_emod_of_nonneg ae,Int.natCast_emod]
 have hwa:IntKind.i64.wrap (((i%eJ sz:Nat):Int)*(sz:Int))=((sz*(i%eJ sz):Nat):Int):=by rw[<- Int.natCast_mul,Nat.mul_comm];exact ax ae ae
 have hwr:(b'.length:Int).tmod (sz:Int)=0:=by rw[Int.tmod_eq_emod_of_nonneg ae,<- Int.natCast_emod,f1];rfl
 have QT:(b'.length:Int)%(sz:Int)=0:=by rw[<- Int.natCast_emod,f1];rfl
 clear h hst ho hL hs zO hb hb' f1;unfold ptrTo at *;unfold er at aM;generalize Xc:b'.length=B at *;have Jg:=aa Xc;clear Xc;generalize (bw (eJ sz) rs).length=P at *;generalize i/eJ sz=k at *;generalize i%eJ sz=r at *;generalize eJ sz=p at *;obtain⟨a,ha⟩:∃a,a=sz*r:=⟨_,rfl⟩;rw[<- ha]at hr2 f2 hwa ⊢;have ahB:=aa hwk;have YP:=aa hwm;have YR:=aa hwa;have YQ:=aa hwr;have QU:=aa QT;have an7:i<16777216:=by omega
 clear hwk hwm hwa hwr QT ha hi hN';have uQ:¬((i:Int)<0):=by omega
 have an8:¬((k:Int) >= (P:Int)):=by omega
 have haB:¬((a:Int) >= (B:Int)):=by omega
 have hz0:¬(sz:Int)=0:=by omega
 have hpn:¬p=0:=by omega
 have ahC:Hid (IntKind.i64.wrap (k:Int)=(k:Int)):=aa (ax ae ae);have ahD:Hid (IntKind.i64.wrap (r:Int)=(r:Int)):=aa (ax ae ae);cases hd:d.dead with
 |true=>
   rw[hd,if_pos rfl]at aM;have HD:=aa hd;clear hd;dsimp only at aM;go_enter func90,ntmps90;go_wp2;refine wq w ?_;iterate 3 (refine qz ?_)
   refine qz ?_ (fun w' hw'=>by have hc:=(HST.o.below hw').cells.1;unfold ptrTo at hc;go_simp<;>rfl);iterate 3 (refine qz ?_)
   refine qz ?_ (fun w' hw'=>by have hc:=(HST.o.below hw').cells.2.1;go_simp<;>rfl);refine qw (fun w' hw'=>(aM.o w' hw').mono (fun e w'' h=>⟨h.1,hw'.trans (h.2.mono hw'.size)⟩)) ?_;iterate 5 (refine qz ?_)
   refine wpQuiet_nil ?_;intro w1 rH;have HB:=aa rH;clear rH;go_wp2;go_returns;exact⟨_,6,d,o,rfl,au.aW H.o HB.o,.inr (.inr ⟨rfl,HD.o⟩),fun h=>absurd h af⟩
 |false=>
   rw[hd,if_neg ah]at aM;clear hd;dsimp only at aM;go_enter func90,ntmps90;go_wp2;refine wq w ?_;iterate 3 (refine qz ?_)
   refine qz ?_ (fun w' hw'=>by have hc:=(HST.o.below hw').cells.1;unfold ptrTo at hc;go_simp<;>rfl);iterate 3 (refine qz ?_)
   refine qz ?_ (fun w' hw'=>by have hc:=(HST.o.below hw').cells.2.1;go_simp<;>rfl);refine qw (fun w' hw'=>(aM.o w' hw').mono (fun e w'' h=>⟨h.1,hw'.trans (h.2.mono hw'.size)⟩)) ?_;iterate 5 (refine qz ?_)
   refine wpQuiet_nil ?_;intro w1 rH;have cQ:=aa rH;have BP:=aa (HST.o.below rH);clear rH;go_wp2;refine wq w1 ?_;iterate 2 (refine qz ?_)
   refine qw (fun w' hw'=>(UO.o w' (BP.o.below hw')).mono (fun e w'' h=>⟨h.1,h.2▸hw'⟩)) ?_;refine qz ?_ (fun w' hw'=>by have hx:=ahB.o;have hx2:=hpn;have hx3:=ahC.o;go_simp<;>rfl);iterate 2 (refine qz ?_)
   refine qw (fun w' hw'=>(UO.o w' (BP.o.below hw')).mono (fun e w'' h=>⟨h.1,h.2▸hw'⟩)) ?_;refine qz ?_ (fun w' hw'=>by have hx:=YP.o;have hx2:=hpn;have hx3:=ahD.o;go_simp<;>rfl);iterate 3 (refine qz ?_)
   refine qz ?_ (fun w' hw'=>by have hc:=(BP.o.below hw').cells.2.2;go_simp<;>rfl);refine qz ?_ (fun w' hw'=>by have hx:=YR.o;go_simp<;>rfl);iterate 2 (refine qz ?_)
   refine wpQuiet_nil ?_;intro w2 hw2;have cX:Hid (Below w.heap.size w w2):=aa (cQ.o.trans (hw2.mono cQ.o.size));have nB:=aa (BP.o.below hw2);clear hw2;go_wp2;refine cD (Below w2.heap.size w2) 9 rfl ag ag (aj.drew) ?_;simp only[List.take_succ_cons,List.take_zero];iterate 3 (refine qz ?_)
   refine qz ?_ (fun w' hw'=>by have hc:=(nB.o.below hw').cells.1;unfold ptrTo at hc;go_simp<;>rfl);iterate 3 (refine qz ?_)
   refine qz ?_ (fun w' hw'=>by have hc:=(nB.o.below hw').cells.2.1;go_simp<;>rfl);refine qz ?_;refine wpQuiet_nil ?_;intro w3 hw3;refine⟨_,_,rfl,(by go_simp<;>exact⟨rfl,rfl⟩),?_⟩;have jB:Hid (Below w.heap.size w w3):=aa (cX.o.trans (hw3.mono cX.o.size));refine(mH.o w3 jB.o).mono ?_;rintro e w4⟨v4,c4,d4,o4,rfl,oQ,tB,hg4,tT,yo,JZ,zQ⟩;have gl:Hid (au (fun _=>False) n pb db w o d w4 o4 d4 L):=aa ((au.aW H.o jB.o).trans (ji (S:=fun _=>False) oQ tB hg4 tT) (fun _ _ h=>h));have BL:=aa yo;have Ef:=aa (HST.o.moved gl.o HO.o (fun h=>h));clear hw3 oQ tB hg4 tT yo;by_cases ij:c4=0
   ·subst ij;obtain⟨DG,Fv⟩:=JZ rfl;have HF4:=aa Fv;rw[Jg.o]at DG;obtain⟨a4,k4,rfl⟩:=az DG;have TZ:=aa DG;clear JZ zQ DG Fv;refine⟨_,rfl,?_⟩;go_simp;iterate 5 (refine qz ?_)
    refine wpQuiet_nil ?_;have hx:=YQ.o;have hx2:=QU.o;have hc:=Ef.o.cells.2.2;go_wp2;go_returns;exact⟨_,0,d4,o4,rfl,gl.o,.inl rfl,fun _=>⟨by rw[Jg.o];exact aU TZ.o jB.o.size,HF4.o⟩⟩
   ·obtain rfl:=zQ ij;have tU:¬(c4:Int)=0:=by omega
    have Bh:=aa ij;clear ij JZ zQ;refine⟨_,rfl,?_⟩;go_simp;iterate 5 (refine qz ?_)
    refine wpQuiet_nil ?_;go_wp2;go_returns;exact⟨_,c4,d4,o4,by rw[if_neg Bh.o,if_neg Bh.o];rfl,gl.o,BL.o,fun h=>absurd h Bh.o⟩
def Eg(n pb db:Nat)(w:World)(o:ar)(d:Dsk)(L:aC)(r:Rec)(e:Ending)(w':World):Prop:=
 ∃v c d' o',e=.returned (.tuple #[v,.int .i64 ((c:Nat):Int)])/\au (fun _=>False) n pb db w o d w' o' d' L/\(c=0\/kJ d d' L c) /\
  (c=0->w'.ownsRow w.heap.size 5 1 v r.length (r.map bv)/\∀x,v.ownBlock=some x->o' x=none)/\(c≠0->v=.slice none 0 0)
theorem BS(w:World)(e:TypeId)(base:Nat)(hb:base<=w.heap.size):(w.alloc (.cells #[] e)).ownsRow base e 1 (.slice (some ⟨w.heap.size,0,none⟩) 0 0) 0 []:=
 ⟨rfl,.inr ⟨w.heap.size,0,#[],rfl,hb,heap_alloc_new w _,Nat.le_refl _,by unfold maxLen;omega,rfl,rfl⟩⟩
theorem k9(HW:aP)(h:aQ w pb db n o d L)(hst:aD w sb pb name sz)(ho:o sb=none)(h1:1<=sz)(h2:sz<=240){rs:List Rec}{fl:Bool}(hL:aA L name=some (.inl (bw (eJ sz) rs,fl)))(hs:gC sz rs){i:Nat}(hi:i<rs.length) :
 Calls prog 57 #[ptrTo sb,.int .i64 (i:Int)] w (Eg n pb db w o d L rs[i]):=by
 obtain⟨b,hb,f1,f2,f3,f4⟩:=CZ hs h1 h2 hi;have aM:=aa (BR HW h hst ho h1 h2 hL hs hi hb);have Jd:rs[i].length=sz:=hs _ (List.getElem_mem hi);have HST:=aa hst;have HO:=aa ho;generalize rs[i]=r at *;clear h hst ho hL hs hi hb f1;unfold ptrTo at *;generalize sz*(i%eJ sz)=a at *;generalize i/eJ sz=k at *;have HRL:=aa Jd;have HF3:=aa f3;have hwx:IntKind.i64.wrap ((a:Int)+(sz:Int))=((a+sz:Nat):Int):=by rw[ax ae ae];omega
 clear Jd f3 hwx;go_enter func57,ntmps57;go_wp2_with fail;refine aM.o.mono ?_;rintro e w1⟨v1,c1,d1,o1,rfl,dZ,td,tY⟩;have eY:=aa dZ;have CU:=aa td;have NB:=aa (HST.o.moved dZ HO.o (fun h=>h));clear dZ td;by_cases hc1:c1=0
 ·subst hc1;obtain⟨kY,tF⟩:=tY rfl;rw[if_pos rfl,if_pos rfl];obtain⟨a1,k1,rfl⟩:=az kY;have C0:=aa kY;have nx:=aa (fD kY);obtain⟨va,vc,BU,YL,hvm,Ec⟩:=fD kY;cases BU;unfold maxLen at hvm;obtain Ec |⟨vb,acI,rfl,-⟩:=Ec
  ·omega
  have hc:=NB.o.cells.2.2;have acJ:=NB.o.lt;have hwx:IntKind.i64.wrap ((a:Int)+(sz:Int))=(a:Int)+(sz:Int):=ax ae ae;have ahE:Hid (Rd w1 (.slice (some ⟨vb,acI+a,none⟩) (a+sz-a) (k1-a)) r):=aa (by
   rw[Nat.add_sub_cancel_left];have:=nx.o.sub (i:=a) (k:=sz) ae;rw[HF3.o]at this;simpa[bF]using this)
  have QV:=aa tF;have Mn:Hid (w.heap.size<=w1.heap.size):=aa eY.o.size;generalize Xc:b.length=B at *;have Jg:=aa Xc;have haB:(a:Int)+(sz:Int)<=(B:Int):=by omega
  have hak:(a:Int)+(sz:Int)<=(k1:Int):=by omega
  have hka:¬k1=a:=by omega
  have aoc:a<k1:=by omega
  clear tY kY tF Xc;go_wp2_with (at_builtin;refine jH rfl _ _ 39 rfl w1.heap.size 5 Tryz.underlying39 kX _ 0 [] rfl (BS w1 5 w1.heap.size (Nat.le_refl _)) (.slice (some ⟨vb,acI+a,none⟩) (a+sz-a) (k1-a)) r rfl (ahE.o.below ai) ?c1 ?c2 ?_);case c1=>rw[HRL.o];omega
  case c2=>simp
  intro v' w2 kf hg2 hw2;have pZ:=aa kf;have eT:Hid (au (fun _=>False) n pb db w o d w2 o1 d1 L):=aa ((eY.o.alloc _).grown hg2 (fun k hk=>by
   cases hk;exact⟨eY.o.aY.fresh (Nat.le_refl _),.inr Mn.o⟩))
  have QW:Hid (∀x,v'.ownBlock=some x->o1 x=none):=aa (fun x hx=>by
   rcases hw2 with e | e
   ·rw[e]at hx;cases hx;exact eY.o.aY.fresh (Nat.le_refl _)
   ·rw[e]at hx;cases hx;exact eY.o.aY.fresh ah)
  clear kf hg2 hw2;go_wp2;go_ret2;refine⟨v',0,d1,o1,rfl,eT.o,.inl rfl,fun _=>⟨?_,QW.o⟩,fun h=>absurd rfl h⟩;have:=aU pZ.o Mn.o;simpa using this
 ·have zk:¬(c1:Int)=0:=by omega
  have QX:=aa hc1;clear hc1 tY;go_wp2;go_ret2;exact⟨_,c1,d1,o1,rfl,eY.o,CU.o,fun h=>absurd h QX.o,fun _=>rfl⟩
end
end
section
open Go.RowKit Go.Maps Go.MapKept
section
variable {S:Nat->Prop} {w w':World} {sb pb db n sz:Nat} {name:Name} {o o':ar} {d d':Dsk} {L L':aC}
def zR(w:World)(base:Nat)(v:Value)(b r:List UInt8)(e:Ending)(w':World):Prop:=
 ∃v',e=.returned v'/\w'.ownsRow base 5 1 v' (b.length+r.length) ((b++r).map bv)/\w.grownBy w' v.ownBlock/\(v'.ownBlock=v.ownBlock\/v'.ownBlock=some w.heap.size)
theorem J1{base bx:Nat}{v rv:Value}{b r:List UInt8}(hc:w.cell? ⟨bx,0,none⟩=some rv)(hr:Rd w rv r)(hown:w.ownsRow base 5 1 v b.length (b.map bv))(hb:base<=w.heap.size)(hl:b.length+r.length<=1073741824) :
 Calls prog 106 #[v,.pointer (some ⟨bx,0,none⟩)] w (zR w base v b r):=by
 have HO:=aa hown;have HR:=aa hr;obtain⟨ra,rc,rfl,-⟩:=hr;obtain⟨va,vc,rfl⟩:=az hown;clear hown;generalize Jd:r.length=R at *;have HRL:=aa Jd;clear Jd;go_enter func106,ntmps106;go_wp2_with (at_builtin;refine jH rfl _ _ 39 rfl base 5 Tryz.underlying39 kX _ b.length _ rfl HO.o _ r rfl HR.o ?c1 ?c2 ?_);case c1=>have:=HRL.o;omega
 case c2=>exact hb
 intro v' w1 kY hg1 rH;have C0:=aa kY;have Je:=aa hg1;have NC:=aa rH;clear kY hg1 rH;go_wp2;go_ret;refine⟨v',rfl,?_,Je.o,NC.o⟩;rw[List.map_append];exact C0.o
def jk(S:Nat->Prop)(n pb db:Nat)(w:World)(o:ar)(d:Dsk)(L L':aC)(e:Ending)(w':World):Prop:=
 ∃c d' o',e=.returned (.int .i64 ((c:Nat):Int))/\au S n pb db w o d w' o' d' (if c=0 then L' else L)/\(c=0\/kJ d d' L c)
theorem GL(HW:aP)(h:aQ w pb db n o d L)(hst:aD w sb pb name sz)(ho:o sb=none){ps:List Pg}{fl:Bool}(hL:aA L name=some (.inl (ps,fl))){k:Nat}(hk:k<=ps.length)(Bw:k<65536){base bx:Nat}{v rv:Value}{b r:List UInt8}(hc:w.cell? ⟨bx,0,none⟩=some rv)(hr:Rd w rv r)(hown:w.ownsRow base 5 1 v b.length (b.map bv))(mj:∀x,v.ownBlock=some x->o x=none/\x≠sb)(hb:base<=w.heap.size)(hl:b.length+r.length<=240) :
 Calls prog 107 #[ptrTo sb,.int .i64 (k:Int),v,.func (.func 106) #[] #[.pointer (some ⟨bx,0,none⟩)]] w (jk (fun x=>v.ownBlock=some x) n pb db w o d L (aS L name (.inl (di ps k (b++r),false)))):=by
 have H:=aa h;have vI:=aa mj;have HHR:=aa hr;have vC:=aa hown;have hc':=aa hc;obtain⟨hc0,hc1,-⟩:=hst.cells;unfold ptrTo at hc0;have hwr:Hid (∀W o' ,aQ W pb db n o' d L->∀v',W.ownsRow base 5 1 v' (b.length+r.length) ((b++r).map bv)->(∀x,v'.ownBlock=some x->o' x=none)->Calls prog 155 #[.pointer (some ⟨pb,0,none⟩),.string name,.int .i64 (k:Int),v'] W (nA W pb db n o' d L (aS L name (.inl (di ps k (b++r),false))))):=
  aa (fun W o' hW v' hv mj=>BM HW hW hL hk Bw (fD (by rw[List.length_append];exact hv)) (by rw[List.length_append];exact hl) mj)
 have HST:=aa hst;clear h mj hr hown hc hst hL hk;have ahF:Hid (∀n',Calls prog 106 #[v,.pointer (some ⟨bx,0,none⟩)] (w.drewN n') (zR (w.drewN n') base v b r)):=aa (fun n'=>J1 (w:=w.drewN n') hc'.o (HHR.o.drewN n') vC.o hb ae);clear hl;have xv:Hid (∀w1 v1,(w.drewN 1).grownBy w1 v.ownBlock->(v1:Value).ownBlock=v.ownBlock\/v1.ownBlock=some (w.drewN 1).heap.size->(w1.cell? ⟨sb,0,none⟩=some (.pointer (some ⟨pb,0,none⟩))/\w1.cell? ⟨sb,1,none⟩=some (.string name))/\au (fun x=>v.ownBlock=some x) n pb db w o d w1 o d L/\∀x,v1.ownBlock=some x->o x=none):=aa (fun w1 v1 hg M0=>by
  have hm:au (fun x=>v.ownBlock=some x) n pb db w o d w1 o d L:=((au.refl _ H.o).drewN 1).grown hg (fun k hk=>⟨(vI.o k hk).1,.inl hk⟩);have hs1:aD w1 sb pb name sz:=HST.o.moved hm ho (fun e=>(vI.o sb e).2 rfl);refine⟨⟨hs1.cells.1,hs1.cells.2.1⟩,hm,fun x hx=>?_⟩;rcases M0 with e | e
  ·rw[e]at hx;exact(vI.o x hx).1
  ·rw[e]at hx;cases hx;exact H.o.fresh (Nat.le_refl _))
 have YT:Hid (∀w1 w2 d2 o2 L2,au (fun x=>v.ownBlock=some x) n pb db w o d w1 o d L->aQ w2 pb db n o2 d2 L2->aF (o.In cz) w1 w2->ct w1.heap.size o o2->bJ d d2->(w2.cell? ⟨sb,0,none⟩=some (.pointer (some ⟨pb,0,none⟩))/\w2.cell? ⟨sb,1,none⟩=some (.string name))/\au (fun x=>v.ownBlock=some x) n pb db w o d w2 o2 d2 L2):=aa (fun w1 w2 d2 o2 L2 hm hp ht hg x7=>by
  have cR:au (fun x=>v.ownBlock=some x) n pb db w o d w2 o2 d2 L2:=hm.trans (ji (S:=fun _=>False) hp ht hg x7) (fun _ _ h=>h.elim);have hs2:aD w2 sb pb name sz:=HST.o.moved cR ho (fun e=>(vI.o sb e).2 rfl);exact⟨⟨hs2.cells.1,hs2.cells.2.1⟩,cR⟩)
 unfold ptrTo;go_enter func107,ntmps107;go_wp2;go_region_held3 (fun w'=>w'.cell? ⟨sb,0,none⟩=some (.pointer (some ⟨pb,0,none⟩))/\w'.cell? ⟨sb,1,none⟩=some (.string name)) (first | exact⟨hc0,hc1⟩| exact q1 | exact q2)
  (first
    | (go_at_call 106;refine(ahF.o 1).mono ?_;rintro e w1⟨v1,rfl,kY,hg1,rH⟩;obtain⟨q1,dZ,tF⟩:=xv.o w1 v1 hg1 rH)
    | (go_at_call 155;refine(hwr.o w1 o dZ.aY v1 kY tF).mono ?_;rintro e w2⟨c2,d2,o2,rfl,jW,oO,hg2,QY,p7⟩;obtain⟨q2,cR⟩:=YT.o w1 w2 d2 o2 _ dZ jW oO hg2 QY))
 have eT:=aa cR;have GM:=aa p7;clear cR p7 jW oO hg2 QY dZ hg1 kY q1 q2;go_wp2;go_ret;exact⟨c2,d2,o2,rfl,eT.o,GM.o⟩
theorem GN{rs:List Rec}{r:Rec}(hs:gC sz rs)(h1:1<=sz)(h2:sz<=240) :
 (rs=[]->bw (eJ sz) (rs++[r])=di (bw (eJ sz) rs) 0 ([]++r)/\(bw (eJ sz) rs).length=0) /\
 ∀q m b,(bw (eJ sz) rs).length=q+1->(bw (eJ sz) rs)[q]? = some b->b.length=sz*m->1<=m->m<=eJ sz->q*eJ sz+m=rs.length->b=(rs.drop (eJ sz*q)).flatten ->
  (sz*m+sz<=240->bw (eJ sz) (rs++[r])=di (bw (eJ sz) rs) q (b++r))/\(¬sz*m+sz<=240->bw (eJ sz) (rs++[r])=di (bw (eJ sz) rs) (q+1) ([]++r)):=by
 have hp:=q8 h1 h2;have PS:=tJ sz;have hpn:=Qr h1;refine⟨fun e=>?_,fun q m b g1 g2 g3 g4 g5 g6 g7=>⟨fun hr=>?_,fun hr=>?_⟩⟩
 ·subst e;have:=xz (rs:=[]) hp r (k:=0) ah;exact⟨this.1,this.2⟩
 ·have hm:m<eJ sz:=by
   rcases Nat.lt_or_ge m (eJ sz) with h | h
   ·exact h
   ·have:m=eJ sz:=by omega
    subst this;rw[Nat.mul_succ]at hpn;omega
  rw[D3 hp r (k:=q) (by rw[Nat.mul_comm];omega) (by rw[Nat.mul_comm];omega),g7,List.take_of_length_le (by rw[List.length_drop,Nat.mul_comm];omega)]
 ·have hm:m=eJ sz:=by
   rcases Nat.lt_or_ge m (eJ sz) with h | h
   ·have:=Nat.mul_le_mul_left sz (show m+1<=eJ sz from h);rw[Nat.mul_succ]at this;omega
   ·omega
  have:=xz (rs:=rs) hp r (k:=q+1) (by rw[Nat.mul_succ,Nat.mul_comm];omega);exact this.1
theorem jY(HW:aP)(h:aQ w pb db n o d L)(hst:aD w sb pb name sz)(ho:o sb=none)(h1:1<=sz)(h2:sz<=240){rs:List Rec}{fl:Bool}(hL:aA L name=some (.inl (bw (eJ sz) rs,fl)))(hs:gC sz rs)(hN:rs.length<65535){rv:Value}{r:Rec}(hr:Rd w rv r)(Jd:r.length=sz)(hro:∀x,rv.ownBlock=some x->o x=none) :
 Calls prog 72 #[ptrTo sb,rv] w (jk (fun _=>False) n pb db w o d L (aS L name (.inl (bw (eJ sz) (rs++[r]),false)))):=by
 obtain⟨jd,zO⟩:=h.dF hL;have aM:Hid (∀W,Below w.heap.size w W->Calls prog 92 #[ptrTo pb,.string name] W fun e w'=>e=.returned (.tuple #[.int .i64 ((er d (bw (eJ sz) rs)).1:Int),.int .i64 ((er d (bw (eJ sz) rs)).2:Int)])/\Below W.heap.size W w'):=aa (fun W hW=>kK (h.below hW) hL);have mH:Hid (∀W,Below w.heap.size w W->∀(k:Nat)(b:Pg),(bw (eJ sz) rs)[k]? = some b->Calls prog 93 #[ptrTo pb,.string name,.int .i64 (k:Int)] W (gP W pb db n o d L b)):=aa (fun W hW k b hk=>pj HW (h.below hW) hL hk);have hturn:Hid (∀W o' d',aQ W pb db n o' d' L->aD W sb pb name sz->o' sb=none->∀bx,W.cell? ⟨bx,0,none⟩=some rv->Rd W rv r->∀(k base:Nat)(v:Value)(b:Pg),k<=(bw (eJ sz) rs).length->k<65536->W.ownsRow base 5 1 v b.length (b.map bv)->(∀x,v.ownBlock=some x->o' x=none/\x≠sb)->base<=W.heap.size->b.length+r.length<=240 ->
  Calls prog 107 #[ptrTo sb,.int .i64 (k:Int),v,.func (.func 106) #[] #[.pointer (some ⟨bx,0,none⟩)]] W (jk (fun x=>v.ownBlock=some x) n pb db W o' d' L (aS L name (.inl (di (bw (eJ sz) rs) k (b++r),false))))):=
  aa (fun W o' d' hW YU kH bx hc LL k base v b h1 h2 h3 h4 h5 h6=>GL HW hW YU kH hL h1 h2 hc LL h3 h4 h5 h6)
 have J3:=aa (GN (r:=r) hs h1 h2);have H:=aa h;have HST:=aa hst;have HO:=aa ho;have GQ:=aa hro;have Py:=aa hr;have TU:=hst.lt;obtain⟨-,-,hc2⟩:=hst.cells;obtain⟨ra,rc,rfl,-⟩:=hr;have Ee:=aa (fun hN=>zN (rs:=rs) hs h1 h2 hN);have mm:=tJ sz;rw[Jd]at *;have hPN:(bw (eJ sz) rs).length<=rs.length:=by
  rcases Nat.eq_zero_or_pos rs.length with hz | hp
  ·have:=List.eq_nil_of_length_eq_zero hz;rw[((J3.o.1 this).2),hz];exact Nat.le_refl _
  ·obtain⟨q,m,b,f1,f2,f3,f4,f5,f6,f7⟩:=Ee.o hp;have h3:=q8 h1 h2;have h4:q<=q*eJ sz:=Nat.le_mul_of_pos_right q h3;omega
 clear h hst ho hro hL hs zO;unfold ptrTo at *;have UQ:Hid (Below w.heap.size w (w.alloc (.cells #[.slice ra sz rc] 39))):=aa ai;have mr:Hid ((w.alloc (.cells #[.slice ra sz rc] 39)).cell? ⟨w.heap.size,0,none⟩=some (.slice ra sz rc)):=aa ah;have Jw:w.heap.size<(w.alloc (.cells #[.slice ra sz rc] 39)).heap.size:=by simp
 unfold er at aM;cases hd:d.dead with
 |true=>
   rw[hd,if_pos rfl]at aM;have HD:=aa hd;clear hd;dsimp only at aM;go_enter func72,ntmps72;go_wp2;go_quiet (fail)
   go_wp2;have cQ:Hid (Below w.heap.size w ((w.alloc (.cells #[.slice ra sz rc] 39)).drewN nq)):=aa (below_drewN UQ.o _);generalize (w.alloc (.cells #[.slice ra sz rc] 39)).drewN nq=w1 at *;refine wq w1 ?_;iterate 3 (refine qz ?_)
   refine qz ?_ (fun w' hw'=>by have hc:=((HST.o.below cQ.o).below hw').cells.1;unfold ptrTo at hc;go_simp<;>rfl);iterate 3 (refine qz ?_)
   refine qz ?_ (fun w' hw'=>by have hc:=((HST.o.below cQ.o).below hw').cells.2.1;go_simp<;>rfl);refine qw (fun w' hw'=>(aM.o w' (cQ.o.trans (hw'.mono cQ.o.size))).mono (fun e w'' h=>⟨h.1,hw'.trans (h.2.mono hw'.size)⟩)) ?_;iterate 5 (refine qz ?_)
   refine wpQuiet_nil ?_;intro w2 hw2;have cX:Hid (Below w.heap.size w w2):=aa (cQ.o.trans (hw2.mono cQ.o.size));clear hw2;go_wp2;go_ret;exact⟨6,d,o,rfl,au.aW H.o cX.o,.inr (.inr ⟨rfl,HD.o⟩)⟩
 |false=>
   rw[hd,if_neg ah]at aM;clear hd;dsimp only at aM;rcases Nat.eq_zero_or_pos rs.length with hz | hNp
   ·have hnil:=List.eq_nil_of_length_eq_zero hz;obtain⟨ha1,ha2⟩:=J3.o.1 hnil;rw[ha2]at aM;have HA1:=aa ha1;have HA2:=aa ha2;clear hz hnil ha1 ha2;go_enter func72,ntmps72;go_wp2;go_quiet (fail)
    go_wp2;have cQ:Hid (Below w.heap.size w ((w.alloc (.cells #[.slice ra sz rc] 39)).drewN nq)):=aa (below_drewN UQ.o _);have YV:Hid (((w.alloc (.cells #[.slice ra sz rc] 39)).drewN nq).cell? ⟨w.heap.size,0,none⟩=some (.slice ra sz rc)):=aa mr.o;have QZ:w.heap.size<((w.alloc (.cells #[.slice ra sz rc] 39)).drewN nq).heap.size:=Jw;generalize (w.alloc (.cells #[.slice ra sz rc] 39)).drewN nq=w1 at *;refine wq w1 ?_;iterate 3 (refine qz ?_)
    refine qz ?_ (fun w' hw'=>by have hc:=((HST.o.below cQ.o).below hw').cells.1;unfold ptrTo at hc;go_simp<;>rfl);iterate 3 (refine qz ?_)
    refine qz ?_ (fun w' hw'=>by have hc:=((HST.o.below cQ.o).below hw').cells.2.1;go_simp<;>rfl);refine qw (fun w' hw'=>(aM.o w' (cQ.o.trans (hw'.mono cQ.o.size))).mono (fun e w'' h=>⟨h.1,hw'.trans (h.2.mono hw'.size)⟩)) ?_;iterate 5 (refine qz ?_)
    refine wpQuiet_nil ?_;intro w2 hw2;have cX:Hid (Below w.heap.size w w2):=aa (cQ.o.trans (hw2.mono cQ.o.size));have YW:Hid (w2.cell? ⟨w.heap.size,0,none⟩=some (.slice ra sz rc)):=aa (by rw[hw2.cell (p:=⟨w.heap.size,0,none⟩) QZ];exact YV.o);clear hw2;go_wp2_with fail;refine(hturn.o w2 o d (H.o.below cX.o) (HST.o.below cX.o) HO.o w.heap.size YW.o (Py.o.below cX.o) 0 0 (.slice none 0 0) [] (Nat.zero_le _) af (ownsRow_nil _ _ _) (fun x hx=>by cases hx) (Nat.zero_le _) (by simp;omega)).mono ?_;rintro e w3⟨c3,d3,o3,rfl,ep,CY⟩;rw[<- HA1.o]at ep;have eD:=aa ((au.aW (S:=fun _=>False) H.o cX.o).trans ep (fun x _ e=>by cases e));have BQ:=aa CY;clear ep CY;go_wp2;go_ret;exact⟨c3,d3,o3,rfl,eD.o,BQ.o⟩
   ·obtain⟨q,m,b,f1,f2,f3,f4,f5,f6,f7⟩:=Ee.o hNp;have JX:Hid (∀W,Below w.heap.size w W->Calls prog 93 #[.pointer (some ⟨pb,0,none⟩),.string name,.int .i64 (q:Int)] W (gP W pb db n o d L b)):=aa (fun W hW=>mH.o W hW q b f2);have ny:=aa (J3.o.2 q m b f1 f2 f3 f4 f5 f6 f7);have hq:q<65535:=by omega
    have hm:sz*m<=240:=Nat.le_trans (Nat.mul_le_mul_left sz f5) mm;have QV:=aa f1;have hwq:IntKind.i64.wrap (((q+1:Nat):Int)-1)=(q:Int):=by rw[ax ae ae];omega
    have NA:=aa hwq;rw[f1]at aM;obtain⟨P,hP⟩:∃P,P=q+1:=⟨_,rfl⟩;rw[<- hP]at aM NA;have HP:=aa hP;have hPb:P<=65535:=by omega
    have hP0:(P:Int)>0:=by omega
    have hBb:b.length<=240:=by omega
    have Fz:=aa f3;clear f1 f2 f3 f4 f6 f7 hwq hP mH;go_enter func72,ntmps72;go_wp2;go_quiet (fail)
    go_wp2;have cQ:Hid (Below w.heap.size w ((w.alloc (.cells #[.slice ra sz rc] 39)).drewN nq)):=aa (below_drewN UQ.o _);have YV:Hid (((w.alloc (.cells #[.slice ra sz rc] 39)).drewN nq).cell? ⟨w.heap.size,0,none⟩=some (.slice ra sz rc)):=aa mr.o;have QZ:w.heap.size<((w.alloc (.cells #[.slice ra sz rc] 39)).drewN nq).heap.size:=Jw;generalize (w.alloc (.cells #[.slice ra sz rc] 39)).drewN nq=w1 at *;refine wq w1 ?_;iterate 3 (refine qz ?_)
    refine qz ?_ (fun w' hw'=>by have hc:=((HST.o.below cQ.o).below hw').cells.1;unfold ptrTo at hc;go_simp<;>rfl);iterate 3 (refine qz ?_)
    refine qz ?_ (fun w' hw'=>by have hc:=((HST.o.below cQ.o).below hw').cells.2.1;go_simp<;>rfl);refine qw (fun w' hw'=>(aM.o w' (cQ.o.trans (hw'.mono cQ.o.size))).mono (fun e w'' h=>⟨h.1,hw'.trans (h.2.mono hw'.size)⟩)) ?_;iterate 5 (refine qz ?_)
    refine wpQuiet_nil ?_;intro w2 hw2;have cX:Hid (Below w.heap.size w w2):=aa (cQ.o.trans (hw2.mono cQ.o.size));have YW:Hid (w2.cell? ⟨w.heap.size,0,none⟩=some (.slice ra sz rc)):=aa (by rw[hw2.cell (p:=⟨w.heap.size,0,none⟩) QZ];exact YV.o);have nB:=aa (HST.o.below cX.o);have UR:w.heap.size<w2.heap.size:=Nat.lt_of_lt_of_le QZ hw2.size;clear hw2 Jw QZ;go_wp2;refine cD (Below w2.heap.size w2) 10 rfl ag ag (aj.drew) ?_;simp only[List.take_succ_cons,List.take_zero];iterate 3 (refine qz ?_)
    refine qz ?_ (fun w' hw'=>by have hc:=(nB.o.below hw').cells.1;unfold ptrTo at hc;go_simp<;>rfl);iterate 3 (refine qz ?_)
    refine qz ?_ (fun w' hw'=>by have hc:=(nB.o.below hw').cells.2.1;go_simp<;>rfl);refine qz ?_;refine qz ?_ (fun w' hw'=>by have hx:=NA.o;go_simp<;>rfl);refine wpQuiet_nil ?_;intro w3 hw3;refine⟨_,_,rfl,(by go_simp<;>exact⟨rfl,rfl⟩),?_⟩;have jB:Hid (Below w.heap.size w w3):=aa (cX.o.trans (hw3.mono cX.o.size));have ahG:Hid (w3.cell? ⟨w.heap.size,0,none⟩=some (.slice ra sz rc)):=aa (by rw[hw3.cell (p:=⟨w.heap.size,0,none⟩) UR];exact YW.o);refine(JX.o w3 jB.o).mono ?_;rintro e w4⟨v4,c4,d4,o4,rfl,oQ,tB,hg4,tT,yo,JZ,zQ⟩;have YX:au (fun _=>False) n pb db w3 o d w4 o4 d4 L:=ji (S:=fun _=>False) oQ tB hg4 tT;have gl:Hid (au (fun _=>False) n pb db w o d w4 o4 d4 L):=aa ((au.aW H.o jB.o).trans YX (fun _ _ h=>h));have BL:=aa yo;have tZ:=aa (HST.o.moved gl.o HO.o (fun h=>h));have TZ:Hid (o4 sb=none):=aa (gl.o.free TU HO.o);have GR:Hid (w4.cell? ⟨w.heap.size,0,none⟩=some (.slice ra sz rc)):=aa (YX.cell ahG.o (H.o.fresh (Nat.le_refl _)) (fun h=>h));have LW:Hid (Rd w4 (.slice ra sz rc) r):=aa (gl.o.rd Py.o (fun x hx=>⟨GQ.o x hx,fun h=>h⟩));have oT:w.heap.size<=w3.heap.size:=jB.o.size;clear hw3 oQ tB hg4 tT yo YX;by_cases ij:c4=0
    ·subst ij;obtain⟨DG,Fv⟩:=JZ rfl;obtain⟨a4,k4,rfl⟩:=az DG;have ahH:=aa (aU DG oT);have JV:Hid (∀x,(Value.slice a4 b.length k4).ownBlock=some x->o4 x=none/\x≠sb):=aa (fun x hx=>⟨Fv x hx,fun e=>by have:=aG DG x hx;omega⟩);have ahI:Hid (∀x,(Value.slice a4 b.length k4).ownBlock=some x->w.heap.size<=x):=aa (fun x hx=>by have:=aG DG x hx;omega);have hs5:w.heap.size<=w4.heap.size:=gl.o.size;clear JZ zQ DG Fv;refine⟨_,rfl,?_⟩;go_simp;iterate 5 (refine qz ?_)
     refine wpQuiet_nil ?_;have Be:=tZ.o.cells.2.2;have aof:=NA.o;by_cases hroom:b.length+sz<=240
     ·have YY:(b.length:Int)+(sz:Int)<=240:=by omega
      have Bd:=ny.o.1 (by have:=Fz.o;omega);have HL':=aa Bd;clear Bd;go_wp2_with fail;refine(hturn.o w4 o4 d4 gl.o.aY tZ.o TZ.o w.heap.size GR.o LW.o q w.heap.size _ b (by have:=QV.o;omega) ae ahH.o JV.o hs5 hroom).mono ?_;rintro e w5⟨c5,d5,o5,rfl,kC,Pw⟩;rw[<- HL'.o]at kC;have lx:=aa (gl.o.trans kC (fun x hx e=>by have:=ahI.o x e;omega));have QM:=aa (Pw.imp id (kJ.later gl.o.on.bC));clear kC Pw;go_wp2;go_ret;exact⟨c5,d5,o5,rfl,lx.o,QM.o⟩
     ·have YY:¬(b.length:Int)+(sz:Int)<=240:=by omega
      have Bd:=ny.o.2 (by have:=Fz.o;omega);have HL':=aa Bd;clear Bd;go_wp2_with fail;refine(hturn.o w4 o4 d4 gl.o.aY tZ.o TZ.o w.heap.size GR.o LW.o P 0 (.slice none 0 0) [] (by have:=QV.o;have:=HP.o;omega) ae (ownsRow_nil _ _ _) (fun x hx=>by cases hx) (Nat.zero_le _) (by simp;omega)).mono ?_;rintro e w5⟨c5,d5,o5,rfl,kC,Pw⟩;rw[HP.o,<- HL'.o]at kC;have lx:=aa (gl.o.trans kC (fun x hx e=>by cases e));have QM:=aa (Pw.imp id (kJ.later gl.o.on.bC));clear kC Pw;go_wp2;go_ret;exact⟨c5,d5,o5,rfl,lx.o,QM.o⟩
    ·obtain rfl:=zQ ij;have tU:¬(c4:Int)=0:=by omega
     have Bh:=aa ij;clear ij JZ zQ;refine⟨_,rfl,?_⟩;go_simp;iterate 5 (refine qz ?_)
     refine wpQuiet_nil ?_;go_wp2;go_ret;exact⟨c4,d4,o4,rfl,by rw[if_neg Bh.o];exact gl.o,BL.o⟩
end
end
section
open Go.RowKit
abbrev aH.cells(e:aH):List Value:=[.int .u32 (e.t.toNat:Int),.int .u32 (e.h.toNat:Int),.int .u64 (e.x.toNat:Int),.int .u32 (e.m.toNat:Int)]
def aH.val(e:aH):Value:=.agg #[.int .u32 (e.t.toNat:Int),.int .u32 (e.h.toNat:Int),.int .u64 (e.x.toNat:Int),.int .u32 (e.m.toNat:Int)]
def aH.bytes(e:aH):Rec:=vh e.t.toNat e.h.toNat e.x.toNat e.m.toNat
theorem aH.eA(e:aH):e.bytes.length=20:=by rfl
theorem aH.sN(e:aH):eX (e.bytes.take 4)=e.t.toNat/\eX ((e.bytes.drop 4).take 4)=e.h.toNat/\eX ((e.bytes.drop 8).take 8)=e.x.toNat/\eX ((e.bytes.drop 16).take 4)=e.m.toNat:=by
 have h1:=e.t.toNat_lt;have h2:=e.h.toNat_lt;have h3:=e.x.toNat_lt;have h4:=e.m.toNat_lt;have l4:∀x,(le x 4).length=4:=fun x=>b7 x 4;have l8:∀x,(le x 8).length=8:=fun x=>b7 x 8;have e1:e.bytes=le e.t.toNat 4++(le e.h.toNat 4++(le e.x.toNat 8++le e.m.toNat 4)):=by rfl
 have e2:e.bytes.drop 4=le e.h.toNat 4++(le e.x.toNat 8++le e.m.toNat 4):=by rfl
 have e3:e.bytes.drop 8=le e.x.toNat 8++le e.m.toNat 4:=by rfl
 have e4:e.bytes.drop 16=le e.m.toNat 4:=by rfl
 refine⟨?_,?_,?_,?_⟩
 ·grind [iX]
 ·grind [iX]
 ·grind [iX]
 grind [iX]
theorem xE(v:Value)(e:aH)(w:World)(hv:Rd w v e.bytes) :
 Calls prog 68 #[v] w (LP (.tuple #[.agg #[.int .u32 (e.t.toNat:Int),.int .u32 (e.h.toNat:Int),.int .u64 (e.x.toNat:Int),.int .u32 (e.m.toNat:Int)],.int .i64 0]) w):=by
 have h:=DJ v e.bytes w e.eA hv;grind [aH.sN]
theorem ua(e:aH)(w:World):Calls prog 208 #[.agg #[.int .u32 (e.t.toNat:Int),.int .u32 (e.h.toNat:Int),.int .u64 (e.x.toNat:Int),.int .u32 (e.m.toNat:Int)]] w (iY w e.bytes):=PW _ _ _ _ w
structure ck where
 r:UInt32
 l:UInt32
 g:UInt32
def ck.bytes(v:ck):Rec:=ve v.r.toNat v.l.toNat v.g.toNat
theorem ck.eA(v:ck):v.bytes.length=12:=by rfl
theorem ck.sN(v:ck):eX (v.bytes.take 4)=v.r.toNat/\eX ((v.bytes.drop 4).take 4)=v.l.toNat/\eX ((v.bytes.drop 8).take 4)=v.g.toNat:=by
 have h1:=v.r.toNat_lt;have h2:=v.l.toNat_lt;have h3:=v.g.toNat_lt;have l4:∀x,(le x 4).length=4:=fun x=>b7 x 4;have e1:v.bytes=le v.r.toNat 4++(le v.l.toNat 4++le v.g.toNat 4):=by rfl
 have e2:v.bytes.drop 4=le v.l.toNat 4++le v.g.toNat 4:=by rfl
 have e3:v.bytes.drop 8=le v.g.toNat 4:=by rfl
 refine⟨?_,?_,?_⟩
 ·grind [iX]
 ·grind [iX]
 grind [iX]
theorem GU(v:Value)(x:ck)(w:World)(hv:Rd w v x.bytes) :
 Calls prog 58 #[v] w (LP (.tuple #[.agg #[.int .u32 (x.r.toNat:Int),.int .u32 (x.l.toNat:Int),.int .u32 (x.g.toNat:Int)],.int .i64 0]) w):=by
 have h:=DI v x.bytes w x.eA hv;grind [ck.sN]
theorem Eh(x:ck)(w:World):Calls prog 78 #[.agg #[.int .u32 (x.r.toNat:Int),.int .u32 (x.l.toNat:Int),.int .u32 (x.g.toNat:Int)]] w (iY w x.bytes):=PV _ _ _ w
def aR(b:Bool)(x y:aH):Int:=if pk b x<pk b y then -1 else if pk b y<pk b x then 1 else if rk x<rk y then -1 else if rk y<rk x then 1 else 0
theorem zS(b:Bool)(x y:aH):aR b x y<0↔(pk b x<pk b y\/pk b x=pk b y/\rk x<rk y):=by
 unfold aR;omega
theorem zT(b:Bool)(x y:aH):¬aR b y x<0↔dC b x y:=by
 rw[zS];grind [dC]
theorem om(b:Bool):Go.Sort.SWO (ltOf (aR b)):=by
 have h:∀x y,ltOf (aR b) x y=decide (pk b x<pk b y\/pk b x=pk b y/\rk x<rk y):=fun x y=>by
  grind [ltOf,zS]
 refine⟨fun x=>?_,fun x y z h1 h2=>?_,fun x y z h1 h2=>?_⟩
 ·grind
 ·grind
 grind
def dW(w w':World):Prop:=∃q os,w'=Go.Sort.grow (w.drewN q) os
theorem dW.refl(w:World):dW w w:=⟨0,#[],by rfl⟩
theorem dW.trans{a b c:World}(h:dW a b)(k:dW b c):dW a c:=by
 obtain⟨q,os,rfl⟩:=h;obtain⟨q',os',rfl⟩:=k;exact⟨q+q',os++os',by grind [Go.Sort.grow,World.drewN]⟩
theorem dW.alloc{a b:World}(h:dW a b)(ob:Obj):dW a (b.alloc ob):=h.trans ⟨0,#[ob],by rfl⟩
theorem dW.drewN{a b:World}(h:dW a b)(n:Nat):dW a (b.drewN n):=h.trans ⟨n,#[],ah⟩
theorem dW.drew{a b:World}(h:dW a b):dW a b.drew:=h.trans ⟨1,#[],(Go.Sort.grow_empty _).symm⟩
theorem dW.below{a b:World}(h:dW a b):Below a.heap.size a b:=by
 obtain⟨q,os,rfl⟩:=h;exact⟨rfl,rfl,rfl,ah,fun k hk=>Go.Sort.heap_grow_old _ _ hk⟩
theorem dW.cell{a b:World}(h:dW a b){p:Addr}{v:Value}(hc:a.cell? p=some v):b.cell? p=some v:=by
 rw[h.below.cell (World.block_lt_of_cell? _ _ hc)];exact hc
def pV(a b:Nat):Int:=if a<b then -1 else if b<a then 1 else 0
theorem gD(a b:Nat):(a<b/\pV a b=-1)\/(b<a/\pV a b=1)\/(a=b/\pV a b=0):=by
 unfold pV;split
 ·exact .inl ⟨by assumption,rfl⟩
 ·split
  ·exact .inr (.inl ⟨by assumption,rfl⟩)
  ·exact .inr (.inr ⟨ae,rfl⟩)
theorem vK(a b:Nat)(w:World):Calls prog 205 #[.int .u64 (a:Int),.int .u64 (b:Int)] w fun e w'=>e=.returned (.int .i64 (pV a b))/\w=w':=by
 rcases gD a b with⟨h1,h2⟩|⟨h1,h2⟩|⟨h1,h2⟩
 ·have H:=aa h2;clear h2;have g1:(a:Int)<(b:Int):=by omega
  go_enter func205,ntmps205;go_wp2;go_ret;exact⟨by rw[H.o];rfl,rfl⟩
 ·have H:=aa h2;clear h2;have g1:¬(a:Int)<(b:Int):=by omega
  have g2:(a:Int)>(b:Int):=by omega
  go_enter func205,ntmps205;go_wp2;go_ret;exact⟨by rw[H.o];rfl,rfl⟩
 ·subst h1;have H:=aa h2;clear h2;go_enter func205,ntmps205;go_wp2;go_ret;exact⟨by rw[H.o];rfl,rfl⟩
theorem vL(a b:Nat)(w:World):Calls prog 206 #[.int .u32 (a:Int),.int .u32 (b:Int)] w fun e w'=>e=.returned (.int .i64 (pV a b))/\w=w':=by
 rcases gD a b with⟨h1,h2⟩|⟨h1,h2⟩|⟨h1,h2⟩
 ·have H:=aa h2;clear h2;have g1:(a:Int)<(b:Int):=by omega
  go_enter func206,ntmps206;go_wp2;go_ret;exact⟨by rw[H.o];rfl,rfl⟩
 ·have H:=aa h2;clear h2;have g1:¬(a:Int)<(b:Int):=by omega
  have g2:(a:Int)>(b:Int):=by omega
  go_enter func206,ntmps206;go_wp2;go_ret;exact⟨by rw[H.o];rfl,rfl⟩
 ·subst h1;have H:=aa h2;clear h2;go_enter func206,ntmps206;go_wp2;go_ret;exact⟨by rw[H.o];rfl,rfl⟩
def nC(x y:Int):Int:=if x=0 then y else x
theorem ND(x y:Int)(b:Nat)(w:World)(hx:w.cell? ⟨b,0,none⟩=some (.int .i64 x))(hy:w.cell? ⟨b,1,none⟩=some (.int .i64 y)) :
 Calls prog 293 #[.slice (some ⟨b,0,none⟩) 2 2] w fun e w'=>e=.returned (.int .i64 (nC x y))/\w=w':=by
 by_cases h1:x=0
 ·subst h1;by_cases h2:y=0
  ·subst h2;go_enter func293,ntmps293;go_wp2;refine wp_loop_rounds 3 ?_;iterate 3 (rw[rounds_succ];go_wp2)
   go_ret;exact⟨rfl,rfl⟩
  ·go_enter func293,ntmps293;go_wp2;refine wp_loop_rounds 2 ?_;iterate 2 (rw[rounds_succ];go_wp2)
   go_ret;exact⟨rfl,rfl⟩
 ·have H:=aa h1;go_enter func293,ntmps293;go_wp2;refine wp_loop_rounds 1 ?_;iterate 1 (rw[rounds_succ];go_wp2)
  go_ret;exact⟨by unfold nC;rw[if_neg H.o];rfl,rfl⟩
def mI(x y:aH):Bool:=decide (rk x<rk y)
theorem NF(x y:aH):decide (nC (pV x.x.toNat y.x.toNat) (pV ((x.m.toNat+1)%4294967296) ((y.m.toNat+1)%4294967296))<0)=mI x y:=by
 have h1:=x.m.toNat_lt;have h2:=y.m.toNat_lt;unfold mI rk nC;rw[decide_eq_decide];rcases gD x.x.toNat y.x.toNat with⟨g1,g2⟩|⟨g1,g2⟩|⟨g1,g2⟩
 ·rw[g2,if_neg af];omega
 ·rw[g2,if_neg af];omega
 ·rw[g2,if_pos rfl];rcases gD ((x.m.toNat+1)%4294967296) ((y.m.toNat+1)%4294967296) with⟨k1,k2⟩|⟨k1,k2⟩|⟨k1,k2⟩<;>rw[k2]<;>omega
theorem zU(x y:aH)(w:World) :
 Calls prog 262 #[.agg #[.int .u32 (x.t.toNat:Int),.int .u32 (x.h.toNat:Int),.int .u64 (x.x.toNat:Int),.int .u32 (x.m.toNat:Int)],.agg #[.int .u32 (y.t.toNat:Int),.int .u32 (y.h.toNat:Int),.int .u64 (y.x.toNat:Int),.int .u32 (y.m.toNat:Int)]] w
  fun e w'=>e=.returned (.bool (mI x y))/\dW w w':=by
 have hf:=aa (NF x y);have rH:IntKind.u32.wrap ((x.m.toNat:Int)+1)=(((x.m.toNat+1)%4294967296:Nat):Int):=by rw[IntKind.wrap_u32];omega
 have hw2:IntKind.u32.wrap ((y.m.toNat:Int)+1)=(((y.m.toNat+1)%4294967296:Nat):Int):=by rw[IntKind.wrap_u32];omega
 generalize x.t.toNat=xt at *;generalize x.h.toNat=xh at *;generalize x.x.toNat=xx at *;generalize x.m.toNat=xm at *;generalize y.t.toNat=yt at *;generalize y.h.toNat=yh at *;generalize y.x.toNat=yx at *;generalize y.m.toNat=ym at *;generalize (xm+1)%4294967296=YZ at *;generalize (ym+1)%4294967296=Y0 at *;go_enter func262,ntmps262;have HG:Hid (dW w ((w.alloc (.cells #[.int .u32 (xt:Int),.int .u32 (xh:Int),.int .u64 (xx:Int),.int .u32 (xm:Int)] 64)).alloc (.cells #[.int .u32 (yt:Int),.int .u32 (yh:Int),.int .u64 (yx:Int),.int .u32 (ym:Int)] 64))):=aa (((dW.refl w).alloc _).alloc _);go_wp2;have k1:((w.alloc (.cells #[.int .u32 (xt:Int),.int .u32 (xh:Int),.int .u64 (xx:Int),.int .u32 (xm:Int)] 64)).alloc (.cells #[.int .u32 (yt:Int),.int .u32 (yh:Int),.int .u64 (yx:Int),.int .u32 (ym:Int)] 64)).cell? ⟨w.heap.size,2,none⟩=some (.int .u64 (xx:Int)):=by simp
 have k2:((w.alloc (.cells #[.int .u32 (xt:Int),.int .u32 (xh:Int),.int .u64 (xx:Int),.int .u32 (xm:Int)] 64)).alloc (.cells #[.int .u32 (yt:Int),.int .u32 (yh:Int),.int .u64 (yx:Int),.int .u32 (ym:Int)] 64)).cell? ⟨w.heap.size,3,none⟩=some (.int .u32 (xm:Int)):=by simp
 have k3:((w.alloc (.cells #[.int .u32 (xt:Int),.int .u32 (xh:Int),.int .u64 (xx:Int),.int .u32 (xm:Int)] 64)).alloc (.cells #[.int .u32 (yt:Int),.int .u32 (yh:Int),.int .u64 (yx:Int),.int .u32 (ym:Int)] 64)).cell? ⟨w.heap.size+1,2,none⟩=some (.int .u64 (yx:Int)):=by simp
 have k4:((w.alloc (.cells #[.int .u32 (xt:Int),.int .u32 (xh:Int),.int .u64 (xx:Int),.int .u32 (xm:Int)] 64)).alloc (.cells #[.int .u32 (yt:Int),.int .u32 (yh:Int),.int .u64 (yx:Int),.int .u32 (ym:Int)] 64)).cell? ⟨w.heap.size+1,3,none⟩=some (.int .u32 (ym:Int)):=by simp
 have K1:=aa k1;have K2:=aa k2;have K3:=aa k3;have K4:=aa k4;clear k1 k2 k3 k4;generalize ((w.alloc (.cells #[.int .u32 (xt:Int),.int .u32 (xh:Int),.int .u64 (xx:Int),.int .u32 (xm:Int)] 64)).alloc (.cells #[.int .u32 (yt:Int),.int .u32 (yh:Int),.int .u64 (yx:Int),.int .u32 (ym:Int)] 64))=W at *;refine cn (dW W) 12 ag ag (dW.refl W).drew ?_;simp only[List.take_succ_cons,List.take_zero,List.drop_succ_cons,List.drop_zero];refine qz ?_;refine qz ?_ (fun w' hw'=>by have hc:=hw'.cell K1.o;go_simp<;>rfl);refine qz ?_;refine qz ?_ (fun w' hw'=>by have hc:=hw'.cell K3.o;go_simp<;>rfl);refine qw (fun w' hw'=>(vK xx yx w').mono (fun e w'' h=>⟨h.1,h.2▸hw'⟩)) ?_;refine qz ?_;refine qz ?_ (fun w' hw'=>by have hc:=hw'.cell K2.o;go_simp<;>rfl);refine qz ?_ (fun w' hw'=>by have hx:=rH;go_simp<;>rfl);refine qz ?_;refine qz ?_ (fun w' hw'=>by have hc:=hw'.cell K4.o;go_simp<;>rfl);refine qz ?_ (fun w' hw'=>by have hx:=hw2;go_simp<;>rfl);refine qw (fun w' hw'=>(vL YZ Y0 w').mono (fun e w'' h=>⟨h.1,h.2▸hw'⟩)) ?_;refine wpQuiet_nil ?_;intro w3 hw3;have yQ:=aa hw3;clear hw3;go_wp2_with fail;refine(ND (pV xx yx) (pV YZ Y0) _ _ ah ah).mono ?_;rintro e w4⟨rfl,rfl⟩;go_wp2;go_ret;exact⟨by rw[<- hf.o];rfl,(HG.o.trans yQ.o).alloc _⟩
def fV(b:Bool)(e:aH):Nat:=if b then e.h.toNat else e.t.toNat
def vM(b:Bool)(e:aH):Nat:=if b then e.t.toNat else e.h.toNat
theorem Ei(b:Bool)(e:aH):pk b e=fV b e*4294967296+vM b e/\fV b e<4294967296/\vM b e<4294967296:=by
 have h1:=e.t.toNat_lt;have h2:=e.h.toNat_lt;unfold pk fV vM;cases b
 ·exact⟨rfl,h1,h2⟩
 ·exact⟨rfl,h2,h1⟩
def lS(b:Bool):Nat:=if b then 1 else 0
def ue(bg:Nat):Value:=.func (.func 115) #[] #[.pointer (some ⟨bg,0,none⟩)]
structure cS(w:World)(jb pb bg made:Nat)(b:Bool):Prop where
 head:∃t,w.heap[jb]? = some (.cells #[ptrTo pb,ue bg,.int .i64 (made:Int)] t)
 by':∃t,w.heap[bg]? = some (.cells #[.int .i64 (lS b:Int)] t)
theorem cS.cells{w:World}{jb pb bg made:Nat}{b:Bool}(h:cS w jb pb bg made b) :
 w.cell? ⟨jb,0,none⟩=some (ptrTo pb)/\w.cell? ⟨jb,1,none⟩=some (ue bg)/\w.cell? ⟨jb,2,none⟩=some (.int .i64 (made:Int))/\w.cell? ⟨bg,0,none⟩=some (.int .i64 (lS b:Int))/\w.frozen? ⟨jb,2,none⟩=false:=by
 obtain⟨⟨t,h1⟩,⟨t',h2⟩⟩:=h;refine⟨?_,?_,?_,?_,aO h1 _⟩
 ·rw[aq h1];rfl
 ·rw[aq h1];rfl
 ·rw[aq h1];rfl
 ·rw[aq h2];rfl
theorem cS.kept{w w':World}{jb pb bg made:Nat}{b:Bool}(h:cS w jb pb bg made b)(h1:w'.heap[jb]? = w.heap[jb]?)(h2:w'.heap[bg]? = w.heap[bg]?):cS w' jb pb bg made b:=by
 obtain⟨⟨t,g1⟩,⟨t',g2⟩⟩:=h;exact⟨⟨t,h1.trans g1⟩,⟨t',h2.trans g2⟩⟩
theorem cS.lt{w:World}{jb pb bg made:Nat}{b:Bool}(h:cS w jb pb bg made b):jb<w.heap.size/\bg<w.heap.size:=by
 obtain⟨⟨t,g1⟩,⟨t',g2⟩⟩:=h;exact⟨(Array.getElem?_eq_some_iff.1 g1).1,(Array.getElem?_eq_some_iff.1 g2).1⟩
theorem cS.below{w w':World}{jb pb bg made:Nat}{b:Bool}(h:cS w jb pb bg made b)(hb:Below w.heap.size w w'):cS w' jb pb bg made b:=h.kept (hb.block _ h.lt.1) (hb.block _ h.lt.2)
theorem GV(b:Bool)(x:aH)(bg:Nat)(w:World)(hc:w.cell? ⟨bg,0,none⟩=some (.int .i64 (lS b:Int))) :
 Calls prog 115 #[.agg #[.int .u32 (x.t.toNat:Int),.int .u32 (x.h.toNat:Int),.int .u64 (x.x.toNat:Int),.int .u32 (x.m.toNat:Int)],.pointer (some ⟨bg,0,none⟩)] w
  fun e w'=>e=.returned (.tuple #[.int .u32 (fV b x:Int),.int .u32 (vM b x:Int)])/\dW w w':=by
 have hlt:=World.block_lt_of_cell? _ _ hc;dsimp only at hlt;unfold fV vM;cases b with
 |false=>
   have hc':w.cell? ⟨bg,0,none⟩=some (.int .i64 0):=hc;clear hc;go_enter func115,ntmps115;go_wp2;go_quiet (fail)
   go_wp2;go_ret2;exact⟨rfl,((dW.refl w).alloc _).drewN _⟩
 |true=>
   have hc':w.cell? ⟨bg,0,none⟩=some (.int .i64 1):=hc;clear hc;go_enter func115,ntmps115;go_wp2;go_quiet (fail)
   go_wp2;go_ret2;exact⟨rfl,((dW.refl w).alloc _).drewN _⟩
theorem rp(b:Bool)(w:World):Calls prog 261 #[.bool b] w fun e w'=>e=.returned (.int .i64 (if b=true then -1 else 1))/\w=w':=by
 cases b
 ·go_enter func261,ntmps261;go_wp2;go_ret;exact⟨rfl,rfl⟩
 ·go_enter func261,ntmps261;go_wp2;go_ret;exact⟨rfl,rfl⟩
theorem xF{w:World}{jb pb bg made:Nat}{b:Bool}(h:cS w jb pb bg made b)(x y:aH) :
 Calls prog 224 #[ptrTo jb,.agg #[.int .u32 (x.t.toNat:Int),.int .u32 (x.h.toNat:Int),.int .u64 (x.x.toNat:Int),.int .u32 (x.m.toNat:Int)],.agg #[.int .u32 (y.t.toNat:Int),.int .u32 (y.h.toNat:Int),.int .u64 (y.x.toNat:Int),.int .u32 (y.m.toNat:Int)]] w
  fun e w'=>e=.returned (.int .i64 (aR b x y))/\dW w w':=by
 have H:=aa h;have hx:=aa (fun W hW=>GV b x bg W hW);have hy:=aa (fun W hW=>GV b y bg W hW);have acK:=aa (fun W=>zU x y W);have acL:=aa (fun W=>zU y x W);obtain⟨px,px1,px2⟩:=Ei b x;obtain⟨py,py1,py2⟩:=Ei b y;have yg:Hid (aR b x y=if fV b x<fV b y then -1 else if fV b y<fV b x then 1 else if vM b x<vM b y then -1 else if vM b y<vM b x then 1 else if mI x y=true then -1 else if mI y x=true then 1 else 0):=aa (by
  unfold aR mI;rw[px,py];simp only[decide_eq_true_eq];generalize fV b x=a1 at *;generalize vM b x=a2 at *;generalize fV b y=b1 at *;generalize vM b y=b2 at *;rcases Nat.lt_trichotomy a1 b1 with g | g | g
  ·rw[if_pos (show a1*4294967296+a2<b1*4294967296+b2 by omega),if_pos g]
  ·subst g;rcases Nat.lt_trichotomy a2 b2 with g | g | g
   ·rw[if_pos (show a1*4294967296+a2<a1*4294967296+b2 by omega),if_neg (Nat.lt_irrefl a1),if_neg (Nat.lt_irrefl a1),if_pos g]
   ·subst g;simp only[Nat.lt_irrefl,if_false]
   ·rw[if_neg (show ¬a1*4294967296+a2<a1*4294967296+b2 by omega),if_pos (show a1*4294967296+b2<a1*4294967296+a2 by omega),if_neg (Nat.lt_irrefl a1),if_neg (Nat.lt_irrefl a1),if_neg (show ¬a2<b2 by omega),if_pos g]
  ·rw[if_neg (show ¬a1*4294967296+a2<b1*4294967296+b2 by omega),if_pos (show b1*4294967296+b2<a1*4294967296+a2 by omega),if_neg (show ¬a1<b1 by omega),if_pos g])
 obtain⟨hc0,hc1,hc2,hc3,-⟩:=h.cells;obtain⟨lA,hbl⟩:=h.lt;have QX:=aa hc1;have Jh:=aa hc3;clear h px py hc0 hc1 hc2 hc3;unfold ptrTo;generalize aR b x y=R at *;generalize fV b x=a1 at *;generalize vM b x=a2 at *;generalize fV b y=b1 at *;generalize vM b y=b2 at *;generalize mI x y=q1 at *;generalize mI y x=q2 at *;generalize x.t.toNat=xt at *;generalize x.h.toNat=xh at *;generalize x.x.toNat=xx at *;generalize x.m.toNat=xm at *;generalize y.t.toNat=yt at *;generalize y.h.toNat=yh at *;generalize y.x.toNat=yx at *;generalize y.m.toNat=ym at *;go_enter func224,ntmps224;have HG:Hid (dW w ((w.alloc (.cells #[.int .u32 (xt:Int),.int .u32 (xh:Int),.int .u64 (xx:Int),.int .u32 (xm:Int)] 64)).alloc (.cells #[.int .u32 (yt:Int),.int .u32 (yh:Int),.int .u64 (yx:Int),.int .u32 (ym:Int)] 64))):=aa (((dW.refl w).alloc _).alloc _);have KX:Hid (∀j v,(#[Value.int .u32 (xt:Int),.int .u32 (xh:Int),.int .u64 (xx:Int),.int .u32 (xm:Int)]:Array Value)[j]? = some v->((w.alloc (.cells #[.int .u32 (xt:Int),.int .u32 (xh:Int),.int .u64 (xx:Int),.int .u32 (xm:Int)] 64)).alloc (.cells #[.int .u32 (yt:Int),.int .u32 (yh:Int),.int .u64 (yx:Int),.int .u32 (ym:Int)] 64)).cell? ⟨w.heap.size,j,none⟩=some v):=aa (fun j v hv=>by simpa using hv);have KY:Hid (∀j v,(#[Value.int .u32 (yt:Int),.int .u32 (yh:Int),.int .u64 (yx:Int),.int .u32 (ym:Int)]:Array Value)[j]? = some v->((w.alloc (.cells #[.int .u32 (xt:Int),.int .u32 (xh:Int),.int .u64 (xx:Int),.int .u32 (xm:Int)] 64)).alloc (.cells #[.int .u32 (yt:Int),.int .u32 (yh:Int),.int .u64 (yx:Int),.int .u32 (ym:Int)] 64)).cell? ⟨w.heap.size+1,j,none⟩=some v):=aa (fun j v hv=>by simpa using hv);go_wp2;generalize ((w.alloc (.cells #[.int .u32 (xt:Int),.int .u32 (xh:Int),.int .u64 (xx:Int),.int .u32 (xm:Int)] 64)).alloc (.cells #[.int .u32 (yt:Int),.int .u32 (yh:Int),.int .u64 (yx:Int),.int .u32 (ym:Int)] 64))=W at *;have C1:Hid (W.cell? ⟨jb,1,none⟩=some (ue bg)):=aa (HG.o.cell QX.o);have C3:Hid (W.cell? ⟨bg,0,none⟩=some (.int .i64 (lS b:Int))):=aa (HG.o.cell Jh.o);refine cP (dW W) ag ag (dW.refl W).drew ?_;iterate 3 (refine qz ?_)
 refine qz ?_ (fun w' hw'=>by have hc:=hw'.cell C1.o;unfold ue at hc;go_simp<;>rfl);refine qz ?_ (fun w' hw'=>by have e0:=hw'.cell (KX.o 0 _ rfl);have e1:=hw'.cell (KX.o 1 _ rfl);have e2:=hw'.cell (KX.o 2 _ rfl);have e3:=hw'.cell (KX.o 3 _ rfl);go_simp<;>rfl);refine qw (fun w' hw'=>(hx.o w' (hw'.cell C3.o)).mono (fun e w'' h=>⟨h.1,hw'.trans h.2⟩)) ?_;iterate 5 (refine qz ?_)
 refine wpQuiet_nil ?_;intro W1 hW1;have NC:=aa hW1;clear hW1;go_wp2;refine cP (dW W1) ag ag (dW.refl W1).drew ?_;iterate 3 (refine qz ?_)
 refine qz ?_ (fun w' hw'=>by have hc:=hw'.cell (NC.o.cell C1.o);unfold ue at hc;go_simp<;>rfl);refine qz ?_ (fun w' hw'=>by have e0:=hw'.cell (NC.o.cell (KY.o 0 _ rfl));have e1:=hw'.cell (NC.o.cell (KY.o 1 _ rfl));have e2:=hw'.cell (NC.o.cell (KY.o 2 _ rfl));have e3:=hw'.cell (NC.o.cell (KY.o 3 _ rfl));go_simp<;>rfl);refine qw (fun w' hw'=>(hy.o w' (hw'.cell (NC.o.cell C3.o))).mono (fun e w'' h=>⟨h.1,hw'.trans h.2⟩)) ?_;iterate 5 (refine qz ?_)
 refine wpQuiet_nil ?_;intro W2 hW2;have QW:=aa (NC.o.trans hW2);have yl:=aa (HG.o.trans QW.o);clear hW2;have e0:=QW.o.cell (KX.o 0 _ rfl);have e1:=QW.o.cell (KX.o 1 _ rfl);have e2:=QW.o.cell (KX.o 2 _ rfl);have e3:=QW.o.cell (KX.o 3 _ rfl);have f0:=QW.o.cell (KY.o 0 _ rfl);have f1:=QW.o.cell (KY.o 1 _ rfl);have f2:=QW.o.cell (KY.o 2 _ rfl);have f3:=QW.o.cell (KY.o 3 _ rfl);rcases Nat.lt_trichotomy a1 b1 with g | g | g
 ·have g':(a1:Int)<(b1:Int):=by omega
  have gn:¬(a1:Int)=(b1:Int):=by omega
  have hr:Hid (R=-1):=aa (by rw[yg.o,if_pos g]);go_wp2_with fail;refine(rp _ _).mono ?_;rintro e w'⟨rfl,rfl⟩;go_wp2;go_ret;exact⟨by rw[hr.o];rfl,yl.o⟩
 ·subst g;rcases Nat.lt_trichotomy a2 b2 with g | g | g
  ·have g':(a2:Int)<(b2:Int):=by omega
   have gn:¬(a2:Int)=(b2:Int):=by omega
   have hr:Hid (R=-1):=aa (by rw[yg.o,if_neg ae,if_neg ae,if_pos g]);go_wp2_with fail;refine(rp _ _).mono ?_;rintro e w'⟨rfl,rfl⟩;go_wp2;go_ret;exact⟨by rw[hr.o];rfl,yl.o⟩
  ·subst g;cases q1 with
   |true=>
     have hr:Hid (R=-1):=aa (by rw[yg.o,if_neg ae,if_neg ae,if_neg ae,if_neg ae,if_pos rfl]);go_wp2_with fail;refine(acK.o _).mono ?_;rintro e w'⟨rfl,hw⟩;go_wp2;go_ret;exact⟨by rw[hr.o];rfl,yl.o.trans hw⟩
   |false=>
     go_wp2_with fail;refine(acK.o _).mono ?_;rintro e W3⟨rfl,hw⟩;have yQ:=aa hw;have e0:=hw.cell e0;have e1:=hw.cell e1;have e2:=hw.cell e2;have e3:=hw.cell e3;have f0:=hw.cell f0;have f1:=hw.cell f1;have f2:=hw.cell f2;have f3:=hw.cell f3;clear hw;cases q2 with
     |true=>
       have hr:Hid (R=1):=aa (by rw[yg.o,if_neg ae,if_neg ae,if_neg ae,if_neg ae,if_neg af,if_pos rfl]);go_wp2_with fail;refine(acL.o _).mono ?_;rintro e w'⟨rfl,hw⟩;go_wp2;go_ret;exact⟨by rw[hr.o];rfl,(yl.o.trans yQ.o).trans hw⟩
     |false=>
       have hr:Hid (R=0):=aa (by rw[yg.o,if_neg ae,if_neg ae,if_neg ae,if_neg ae,if_neg af,if_neg af]);go_wp2_with fail;refine(acL.o _).mono ?_;rintro e w'⟨rfl,hw⟩;go_wp2;go_ret;exact⟨by rw[hr.o];rfl,(yl.o.trans yQ.o).trans hw⟩
  ·have g':¬(a2:Int)<(b2:Int):=by omega
   have gn:¬(a2:Int)=(b2:Int):=by omega
   have hr:Hid (R=1):=aa (by rw[yg.o,if_neg ae,if_neg ae,if_neg ae,if_pos g]);go_wp2_with fail;refine(rp _ _).mono ?_;rintro e w'⟨rfl,rfl⟩;go_wp2;go_ret;exact⟨by rw[hr.o];rfl,yl.o⟩
 ·have g':¬(a1:Int)<(b1:Int):=by omega
  have gn:¬(a1:Int)=(b1:Int):=by omega
  have hr:Hid (R=1):=aa (by rw[yg.o,if_neg ae,if_pos g]);go_wp2_with fail;refine(rp _ _).mono ?_;rintro e w'⟨rfl,rfl⟩;go_wp2;go_ret;exact⟨by rw[hr.o];rfl,yl.o⟩
end
section
open Go.RowKit
theorem xG:(prog.info? 9).map (fun i=>(i.zero,i.size,i.bytes))=some (some (.string ByteArray.empty),1,16):=by kernel_rfl
def bG(w:World)(v:Value)(ns:List Name):Prop:=
 ∃g off cap cur,v=.slice (some ⟨g,off,none⟩) ns.length cap/\w.heap[g]? = some (.cells cur 9 (0,0))/\off+cap<=cur.size/\cap<=maxLen/\ns.length<=cap/\∀j(h:j<ns.length),cur[off+j]? = some (.string ns[j])
section
variable {S:Nat->Prop} {w w':World} {v:Value} {ns:List Name}
theorem bG.kept(h:bG w v ns)(hb:∀b,v.ownBlock=some b->w'.heap[b]? = w.heap[b]?):bG w' v ns:=by
 obtain⟨g,off,cap,cur,rfl,hg,r⟩:=h;exact⟨g,off,cap,cur,rfl,(hb g rfl).trans hg,r⟩
theorem bG.lt(h:bG w v ns):∀b,v.ownBlock=some b->b<w.heap.size:=by
 obtain⟨g,off,cap,cur,rfl,hg,r⟩:=h;intro b hb;cases hb;grind
theorem bG.below(h:bG w v ns)(hb:Below w.heap.size w w'):bG w' v ns:=h.kept fun b hv=>hb.block b (h.lt b hv)
theorem bG.turn(h:bG w v ns)(ht:aF S w w')(hs:∀b,v.ownBlock=some b->¬S b):bG w' v ns:=h.kept fun b hv=>ht.block b (h.lt b hv) (hs b hv)
theorem bG.cells{g off cap len:Nat}(h:bG w (.slice (some ⟨g,off,none⟩) len cap) ns):len=ns.length/\len<=cap/\cap<=maxLen/\∀j(h:j<ns.length),w.cell? ⟨g,off+j,none⟩=some (.string ns[j]):=by
 obtain⟨g',off',cap',cur,he,hg,h1,h2,h3,h4⟩:=h;grind [aq]
theorem bG.shape(h:bG w v ns):∃g off cap,v=.slice (some ⟨g,off,none⟩) ns.length cap:=by
 obtain⟨g,off,cap,cur,rfl,_⟩:=h;simp
theorem bG.C5{base:Nat}(hr:w.ownsRow base 9 1 v ns.length (ns.map Value.string))(hn:ns≠[]):bG w v ns:=by
 obtain⟨hl,⟨h1,h2⟩|⟨g,cap,cur,rfl,hg,hh,hc,hm,hs,ht⟩⟩:=hr
 ·grind
 ·refine⟨g,0,cap,cur,rfl,hh,ae,hm,hc,fun j hj=>?_⟩;have h3:(cur.toList.take (ns.length*1))[j]? = (ns.map Value.string)[j]? := by rw[ht]
  grind
theorem bG.take{g off cap len:Nat}(h:bG w (.slice (some ⟨g,off,none⟩) len cap) ns){n:Nat}(hn:n<=ns.length):bG w (.slice (some ⟨g,off,none⟩) n cap) (ns.take n):=by
 obtain⟨g',off',cap',cur,he,hg,h1,h2,h3,h4⟩:=h;cases he;have hl:(ns.take n).length=n:=by grind
 refine⟨g,off,cap,cur,by rw[hl],hg,h1,h2,ae,fun j hj=>?_⟩;grind
theorem bG.drop{g off cap len:Nat}(h:bG w (.slice (some ⟨g,off,none⟩) len cap) ns){n:Nat}(hn:n<=ns.length):bG w (.slice (some ⟨g,off+n,none⟩) (len-n) (cap-n)) (ns.drop n):=by
 obtain⟨g',off',cap',cur,he,hg,h1,h2,h3,h4⟩:=h;cases he;have hl:(ns.drop n).length=ns.length-n:=List.length_drop ..;refine⟨g,off+n,cap-n,cur,by rw[hl],hg,ae,ae,ae,fun j hj=>?_⟩;grind
theorem bG.UT{g off cap len:Nat}(h:bG w (.slice (some ⟨g,off,none⟩) len cap) ns)(hn:len=cap):bG w (.slice (some ⟨g,off,none⟩) 0 0) []:=by
 obtain⟨g',off',cap',cur,he,hg,h1,h2,h3,h4⟩:=h;cases he;exact⟨g,off,0,cur,rfl,hg,ae,ah,Nat.le_refl _,fun j hj=>absurd hj (Nat.not_lt_zero _)⟩
def lf(w:World)(v:Value)(ns:List Name)(x:Name)(v':Value)(w':World):Prop:=
 bG w' v' (ns++[x])/\aF (fun b=>v.ownBlock=some b) w w'/\(v'.ownBlock=v.ownBlock\/v'.ownBlock=some w.heap.size)
theorem yr(t ty:TypeId)(ht:prog.underlying t=some (.slice 9))(h:bG w v ns)(x:Name)(a:Addr)(c:Nat)(hx:w.cell? a=some (.string x))(hn:ns.length<=100000) :
 ∃v' w',(Builtin.append_ #[t,t] ty #[v,.slice (some a) 1 c]).run prog w=.ok v' w'/\lf w v ns x v' w':=by
 obtain⟨i0,hi,hz0,hz1,hz2⟩:=info_parts xG;obtain⟨g,off,cap,cur,rfl,hg,h1,h2,h3,h4⟩:=h;have hnews:∀j u,[Value.string x][j]? = some u->w.cell? (a.add j)=some u:=fun j u hj=>by
  grind [Addr.add]
 have pn:Src prog i0.size t (.slice (some a) 1 c) 1 [Value.string x] w:=Src.ofSlice w ht a 1 c _ (by grind) hnews (by simp[Value.oneCell']);by_cases hroom:ns.length+1<=cap
 ·have ik:off+ns.length<cur.size:=by omega
  have hr:=run_append_room_src (P:=prog) (w:=w) t t ty 9 i0 ht hi g off ns.length cap _ 1 [Value.string x] pn hroom (fun j hj=>by
   have:j=0:=by grind
   subst this;rw[hz1,aq hg,Nat.mul_one,Nat.add_zero,Array.getElem?_eq_getElem ik];rfl) (fun j hj=>aO hg _)
  refine⟨_,_,hr,⟨g,off,cap,cur.setIfInBounds (off+ns.length) (.string x),ah,?_,by grind,h2,by grind,fun j hj=>?_⟩,?_,.inl rfl⟩
  ·show(w.setCell _ _).heap[g]? = _;rw[hz1,Nat.mul_one];grind [aT]
  ·grind
  ·exact(aF.refl _ w).setCell _ _ (.inl rfl)
 ·have holds:∀j u,(ns.map Value.string)[j]? = some u->w.drew.cell? ((⟨g,off,none⟩:Addr).add j)=some u:=fun j u hj=>by
   rw[List.getElem?_map]at hj;by_cases lA:j<ns.length
   ·rw[List.getElem?_eq_getElem lA]at hj;cases hj;show w.cell? _=_;grind [bF,aq]
   grind
  have Bv:=run_firstCells_some (P:=prog) w.drew i0.size ns.length ⟨g,off,none⟩ ns.length cap (ns.map Value.string) (by grind) holds;have hr:=run_append_grow_src (P:=prog) (w:=w) t t ty 9 i0 (.string ByteArray.empty) ht hi hz0 (some ⟨g,off,none⟩) ns.length cap (ns.map Value.string) Bv _ 1 [Value.string x] pn ae ae (growslice_fits ae (by grind));have y7:=grownCap_ge w (ns.length+1) cap 9;have hle:=grownCap_le_maxLen w (ns.length+1) cap 9 (by grind [maxLen]);refine⟨_,_,hr,⟨w.heap.size,0,grownCap w (ns.length+1) cap 9,_,ah,heap_alloc_new w.drew _,?_,hle,by grind,fun j hj=>?_⟩,(aF.refl _ w).drew.alloc _,.inr rfl⟩
  ·simp only[Array.size_append,List.size_toArray,List.length_append,List.length_map,List.length_singleton,size_zeroCells];show 0+_<=_+_*1;omega
  grind
theorem iE{ops:Array Oper}{rest:List Oper}{op:Oper}{a:Act}{Q:Exit->Act->World->Prop}(hgd:op.guard=none)(s y:Operand)(t:TypeId)(ho:op.op=.call { callee:=.builtin .append,args:=#[s,y],argTypes:=#[t,t] })(ht:prog.underlying t=some (.slice 9))(hv:a.eval s=v)(h:bG w v ns)(x:Name)(ad:Addr)(c:Nat)(hy:a.eval y=.slice (some ad) 1 c)(hx:w.cell? ad=some (.string x))(hn:ns.length<=100000)(k:∀v' w',lf w v ns x v' w'->wpList prog ops Q rest (a.put op.dst v') w'):wpList prog ops Q (op::rest) a w:=by
 refine wpList_plain hgd fun K hK=>?_;obtain⟨v',w',h1,h2⟩:=yr t op.type ht h x ad c hx hn;unfold Oper.wp execOp;simp only[ho,resolve,invoke,builtin,Sem.run_bind,Sem.run_pure,Result.andThen_ok,List.map_toArray,List.map_cons,List.map_nil,hv,hy,h1];exact hK _ _ (k v' w' h2)
end
end
section
open Go.RowKit Go.Maps Go.MapKept
def aw(es:List aH)(fl:Bool):gS:=.inl (bw (eJ 20) (es.map aH.bytes),fl)
theorem fp(es:List aH):gC 20 (es.map aH.bytes):=fun r hr=>by
 obtain⟨e,_,rfl⟩:=List.mem_map.1 hr;exact e.eA
def bz(w:World)(cb sb at' n:Nat)(e:aH):Prop:=∃t,w.heap[cb]? = some (.cells #[ptrTo sb,.int .i64 (at':Int),.int .i64 (n:Int),.int .u32 (e.t.toNat:Int),.int .u32 (e.h.toNat:Int),.int .u64 (e.x.toNat:Int),.int .u32 (e.m.toNat:Int)] t)
def dH(w:World)(kb sb:Nat)(last:aH)(any:Bool):Prop:=∃t,w.heap[kb]? = some (.cells #[ptrTo sb,.int .u32 (last.t.toNat:Int),.int .u32 (last.h.toNat:Int),.int .u64 (last.x.toNat:Int),.int .u32 (last.m.toNat:Int),.bool any] t)
section
variable {S:Nat->Prop} {w w':World} {pb db n cb kb sb:Nat} {name:Name} {o o':ar} {d d':Dsk} {L L':aC}
theorem bz.kept{i N:Nat}{e:aH}(h:bz w cb sb i N e)(hb:w'.heap[cb]? = w.heap[cb]?):bz w' cb sb i N e:=by
 obtain⟨t,h⟩:=h;exact⟨t,hb.trans h⟩
theorem bz.lt{i N:Nat}{e:aH}(h:bz w cb sb i N e):cb<w.heap.size:=by
 obtain⟨t,h⟩:=h;exact(Array.getElem?_eq_some_iff.1 h).1
theorem bz.below{i N:Nat}{e:aH}(h:bz w cb sb i N e)(hb:Below w.heap.size w w'):bz w' cb sb i N e:=h.kept (hb.block _ h.lt)
theorem bz.cells{i N:Nat}{e:aH}(h:bz w cb sb i N e) :
 (w.cell? ⟨cb,0,none⟩=some (ptrTo sb)/\w.cell? ⟨cb,1,none⟩=some (.int .i64 (i:Int))/\w.cell? ⟨cb,2,none⟩=some (.int .i64 (N:Int))) /\
 (w.cell? ⟨cb,3,none⟩=some (.int .u32 (e.t.toNat:Int))/\w.cell? ⟨cb,4,none⟩=some (.int .u32 (e.h.toNat:Int))/\w.cell? ⟨cb,5,none⟩=some (.int .u64 (e.x.toNat:Int))/\w.cell? ⟨cb,6,none⟩=some (.int .u32 (e.m.toNat:Int))) /\
 ∀j,w.frozen? ⟨cb,j,none⟩=false:=by
 obtain⟨t,h⟩:=h;refine⟨⟨?_,?_,?_⟩,⟨?_,?_,?_,?_⟩,fun j=>aO h j⟩<;>rw[aq h]<;>rfl
theorem bz.UU{i N:Nat}{e e':aH}(h:bz w cb sb i N e) :
 bz ((((w.setCell ⟨cb,3,none⟩ (.int .u32 (e'.t.toNat:Int))).setCell ⟨cb,4,none⟩ (.int .u32 (e'.h.toNat:Int))).setCell ⟨cb,5,none⟩ (.int .u64 (e'.x.toNat:Int))).setCell ⟨cb,6,none⟩ (.int .u32 (e'.m.toNat:Int))) cb sb i N e':=by
 obtain⟨t,h⟩:=h;refine⟨t,?_⟩;have h2:=aT h 3 (.int .u32 (e'.t.toNat:Int));have h3:=aT h2 4 (.int .u32 (e'.h.toNat:Int));have h4:=aT h3 5 (.int .u64 (e'.x.toNat:Int));exact aT h4 6 (.int .u32 (e'.m.toNat:Int))
theorem bz.setAt{i N i':Nat}{e:aH}(h:bz w cb sb i N e):bz (w.setCell ⟨cb,1,none⟩ (.int .i64 (i':Int))) cb sb i' N e:=by
 obtain⟨t,h⟩:=h;exact⟨t,aT h 1 (.int .i64 (i':Int))⟩
theorem dH.kept{x:aH}{a:Bool}(h:dH w kb sb x a)(hb:w'.heap[kb]? = w.heap[kb]?):dH w' kb sb x a:=by
 obtain⟨t,h⟩:=h;exact⟨t,hb.trans h⟩
theorem dH.lt{x:aH}{a:Bool}(h:dH w kb sb x a):kb<w.heap.size:=by
 obtain⟨t,h⟩:=h;exact(Array.getElem?_eq_some_iff.1 h).1
theorem dH.below{x:aH}{a:Bool}(h:dH w kb sb x a)(hb:Below w.heap.size w w'):dH w' kb sb x a:=h.kept (hb.block _ h.lt)
theorem dH.cells{x:aH}{a:Bool}(h:dH w kb sb x a) :
 w.cell? ⟨kb,0,none⟩=some (ptrTo sb)/\w.cell? ⟨kb,1,none⟩=some (.int .u32 (x.t.toNat:Int))/\w.cell? ⟨kb,2,none⟩=some (.int .u32 (x.h.toNat:Int))/\w.cell? ⟨kb,3,none⟩=some (.int .u64 (x.x.toNat:Int))/\w.cell? ⟨kb,4,none⟩=some (.int .u32 (x.m.toNat:Int))/\w.cell? ⟨kb,5,none⟩=some (.bool a) /\
 ∀j,w.frozen? ⟨kb,j,none⟩=false:=by
 obtain⟨t,h⟩:=h;refine⟨?_,?_,?_,?_,?_,?_,fun j=>aO h j⟩<;>rw[aq h]<;>rfl
theorem dH.set{x y:aH}{a:Bool}(h:dH w kb sb x a) :
 dH (((((w.setCell ⟨kb,1,none⟩ (.int .u32 (y.t.toNat:Int))).setCell ⟨kb,2,none⟩ (.int .u32 (y.h.toNat:Int))).setCell ⟨kb,3,none⟩ (.int .u64 (y.x.toNat:Int))).setCell ⟨kb,4,none⟩ (.int .u32 (y.m.toNat:Int))).setCell ⟨kb,5,none⟩ (.bool true)) kb sb y true:=by
 obtain⟨t,h⟩:=h;refine⟨t,?_⟩;have h1:=aT h 1 (.int .u32 (y.t.toNat:Int));have h2:=aT h1 2 (.int .u32 (y.h.toNat:Int));have h3:=aT h2 3 (.int .u64 (y.x.toNat:Int));have h4:=aT h3 4 (.int .u32 (y.m.toNat:Int));exact aT h4 5 (.bool true)
def zV(n pb db:Nat)(w:World)(o:ar)(d:Dsk)(L:aC)(cb sb i N:Nat)(x:aH)(e:Ending)(w':World):Prop:=
 ∃c d' o',e=.returned (.tuple #[.bool (c == 0),.int .i64 ((c:Nat):Int)])/\au (·=cb) n pb db w o d w' o' d' L/\(c=0\/kJ d d' L c)/\(c=0->bz w' cb sb (i+1) N x)
theorem lT{i N:Nat}{x0:aH}(pn:bz w cb sb i N x0)(hi:N<=i) :
 Calls prog 221 #[ptrTo cb] w fun e w'=>e=.returned (.tuple #[.bool false,.int .i64 0])/\∃q,w'=w.drewN q:=by
 obtain⟨⟨hc0,hc1,hc2⟩,-,-⟩:=pn.cells;have y7:((i:Int) >= (N:Int)):=by omega
 clear pn hc0;unfold ptrTo;go_enter func221,ntmps221;go_wp2;go_quiet (fail)
 go_wp2;go_ret2;exact⟨rfl,_,rfl⟩
theorem r7(HW:aP)(h:aQ w pb db n o d L)(hst:aD w sb pb name 20)(ho:o sb=none){i:Nat}{x0:aH}{es:List aH}{fl:Bool}(pn:bz w cb sb i es.length x0)(NG:o cb=none)(hL:aA L name=some (aw es fl))(hi:i<es.length) :
 Calls prog 221 #[ptrTo cb] w (zV n pb db w o d L cb sb i es.length es[i]):=by
 have jd:=(h.dF hL).1;have hN:es.length<=16777216:=by
  rw[dS,List.length_map]at jd;have h3:es.length<=eJ 20*cy (eJ 20) es.length:=Nat.le_of_not_lt (fun h=>Nat.lt_irrefl _ ((fe af).2 h));have Ej:eJ 20=12:=by decide
  rw[Ej]at h3 jd;omega
 have iT:Hid (∀W,Below w.heap.size w W->Calls prog 57 #[ptrTo sb,.int .i64 (i:Int)] W (Eg n pb db W o d L es[i].bytes)):=aa (fun W hW=>by
  have:=k9 HW (h.below hW) (hst.below hW) ho af af hL (fp es) (i:=i) (by rw[List.length_map];exact hi);rw[List.getElem_map]at this;exact this)
 have H:=aa h;have HS:=aa pn;have Xd:=aa NG;have vB:=pn.lt;generalize es[i]=x at *;generalize es.length=N at *;have hlt:¬((i:Int) >= (N:Int)):=by omega
 obtain⟨⟨hc0,hc1,hc2⟩,-,-⟩:=pn.cells;have rH:IntKind.i64.wrap ((i:Int)+1)=(i:Int)+1:=ax ae ae;clear h hst ho pn NG hL jd hi hN hc0;unfold ptrTo at *;go_enter func221,ntmps221;go_wp2;go_quiet (fail)
 have cQ:Hid (Below w.heap.size w (w.drewN nq)):=aa (below_drewN aj _);have iV:Hid (bz (w.drewN nq) cb sb i N x0):=aa (HS.o.below cQ.o);generalize w.drewN nq=w1 at *;clear hc1 hc2;go_wp2;refine cD (Below w1.heap.size w1) 8 rfl ag ag (aj.drew) ?_;simp only[List.take_succ_cons,List.take_zero];iterate 3 (refine qz ?_)
 refine qz ?_ (fun w' hw'=>by have hc:=(iV.o.below hw').cells.1.1;unfold ptrTo at hc;go_simp<;>rfl);iterate 3 (refine qz ?_)
 refine qz ?_ (fun w' hw'=>by have hc:=(iV.o.below hw').cells.1.2.1;go_simp<;>rfl);refine wpQuiet_nil ?_;intro w2 hw2;refine⟨_,_,rfl,(by go_simp<;>exact⟨rfl,rfl⟩),?_⟩;have cX:Hid (Below w.heap.size w w2):=aa (cQ.o.trans (hw2.mono cQ.o.size));refine(iT.o w2 cX.o).mono ?_;rintro e w3⟨v3,c3,d3,o3,rfl,ep,CY,tW,zP⟩;have eD:Hid (au (·=cb) n pb db w o d w3 o3 d3 L):=aa ((au.aW H.o cX.o).trans ep (fun _ _ h=>h.elim));have fC:Hid (bz w3 cb sb i N x0):=aa ((HS.o.below cX.o).kept (ep.block (Nat.lt_of_lt_of_le vB cX.o.size) Xd.o (fun h=>h)));have BQ:=aa CY;clear hw2 ep CY;by_cases hc3:c3=0
 ·subst hc3;obtain⟨iL,hf3⟩:=tW rfl;obtain⟨a3,k3,rfl⟩:=az iL;have Bf:=aa (fD iL);have mC:=aa iL;have ahK:Hid (∀b,(Value.slice a3 x.bytes.length k3).ownBlock=some b->b≠cb):=aa (fun b hb e=>by
   have:=aG iL b hb;have:=cX.o.size;omega)
  clear tW zP iL hf3;refine⟨_,rfl,?_⟩;go_simp;iterate 5 (refine qz ?_)
  refine wpQuiet_nil ?_;obtain⟨⟨-,hc1,-⟩,-,Jb⟩:=fC.o.cells;have hz1:=Jb 1;have HRS:Hid (Rd (w3.setCell ⟨cb,1,none⟩ (.int .i64 ((i:Int)+1))) (.slice a3 x.bytes.length k3) x.bytes):=aa (((aF.refl (·=cb) w3).setCell ⟨cb,1,none⟩ _ (.inl rfl)).rd Bf.o (fun b hb e=>ahK.o b hb e));have gp:Hid (bz (w3.setCell ⟨cb,1,none⟩ (.int .i64 ((i:Int)+1))) cb sb (i+1) N x0):=aa (by
   have:=fC.o.setAt (i':=i+1);rwa [show((i+1:Nat):Int)=(i:Int)+1 by omega]at this)
  have gl:Hid (au (·=cb) n pb db w o d (w3.setCell ⟨cb,1,none⟩ (.int .i64 ((i:Int)+1))) o3 d3 L):=aa (eD.o.setCell _ _ (eD.o.free vB Xd.o) (.inl rfl));clear Jb;go_wp2_with fail;generalize w3.setCell ⟨cb,1,none⟩ (.int .i64 ((i:Int)+1))=w4 at *;refine(xE _ x _ HRS.o).mono ?_;rintro e w5⟨rfl,oN⟩;have b6:=aa (gp.o.below oN);have lx:=aa (gl.o.below oN);clear oN hc1 hz1;obtain⟨-,⟨k3',k4',k5',k6'⟩,Jb⟩:=b6.o.cells;have hz3:=Jb 3;have uO:=Jb 4;have TT:=Jb 5;have WH:=Jb 6;clear Jb;go_wp2;go_ret2;have UW:=eD.o.free vB Xd.o;exact⟨0,d3,o3,rfl,(((lx.o.setCell ⟨cb,3,none⟩ _ UW (.inl rfl)).setCell ⟨cb,4,none⟩ _ UW (.inl rfl)).setCell ⟨cb,5,none⟩ _ UW (.inl rfl)).setCell ⟨cb,6,none⟩ _ UW (.inl rfl),.inl rfl,fun _=>b6.o.UU⟩
 ·obtain rfl:=zP hc3;have JY:¬(c3:Int)=0:=by omega
  have Jh:=aa hc3;clear hc3 tW zP;refine⟨_,rfl,?_⟩;go_simp;iterate 5 (refine qz ?_)
  refine wpQuiet_nil ?_;go_wp2;go_ret2;exact⟨c3,d3,o3,by rw[beq_false_of_ne Jh.o];rfl,eD.o,BQ.o,fun h=>absurd h Jh.o⟩
end
end
section
open Go.RowKit Go.Maps Go.MapKept
section
variable {S:Nat->Prop} {w w':World} {pb db n kb sb:Nat} {name:Name} {o o':ar} {d d':Dsk} {L L':aC}
def eZ(w:World)(kb sb:Nat)(out:List aH):Prop:=(out=[]/\∃x,dH w kb sb x false)\/∃x,out.getLast? = some x/\dH w kb sb x true
theorem eZ.kept{out:List aH}(h:eZ w kb sb out)(hb:w'.heap[kb]? = w.heap[kb]?):eZ w' kb sb out:=
 h.imp (fun⟨h1,x,h2⟩=>⟨h1,x,h2.kept hb⟩) (fun⟨x,h1,h2⟩=>⟨x,h1,h2.kept hb⟩)
theorem eZ.lt{out:List aH}(h:eZ w kb sb out):kb<w.heap.size:=by
 rcases h with⟨_,x,h⟩|⟨x,_,h⟩
 ·exact h.lt
 ·exact h.lt
theorem eZ.below{out:List aH}(h:eZ w kb sb out)(hb:Below w.heap.size w w'):eZ w' kb sb out:=h.kept (hb.block _ h.lt)
theorem BV{κ υ:Type}[DecidableEq κ]{m:List (κ×υ)}{k:κ}{v:υ}(h:aA m k=some v)(k':κ):aA (aS m k v) k'=aA m k':=by
 grind [ay]
theorem au.same(h:au S n pb db w o d w' o' d' L){f:gS}(hL:aA L name=some f):au S n pb db w o d w' o' d' (aS L name f):=
 h.congr (cC h.aY.keys) (fun x=>BV hL x)
def zW(n pb db:Nat)(w:World)(o:ar)(d:Dsk)(L:aC)(name:Name)(kb sb:Nat)(out:List aH)(x:aH)(e:Ending)(w':World):Prop:=
 ∃c d' o',e=.returned (.int .i64 ((c:Nat):Int))/\au (·=kb) n pb db w o d w' o' d' (if c=0 then aS L name (aw (sK out x) false) else L)/\(c=0\/kJ d d' L c)/\(c=0->eZ w' kb sb (sK out x))
def qy(last:aH)(any:Bool)(x:aH):Bool:=decide (x.t=x.h) || (any && (decide (last.t=x.t) && decide (last.h=x.h)))
theorem zX{a b:UInt32}(h:¬a=b):¬((a.toNat:Int)=(b.toNat:Int))/\((a.toNat:Int) == (b.toNat:Int))=false/\¬a.toNat=b.toNat/\decide (a.toNat=b.toNat)=false/\decide ((a.toNat:Int)=(b.toNat:Int))=false:=by
 grind [UInt32.toNat_inj]
theorem Q4{last x:aH}{any:Bool}(hk:dH w kb sb last any)(hs:qy last any x=true) :
 Calls prog 225 #[ptrTo kb,.agg #[.int .u32 (x.t.toNat:Int),.int .u32 (x.h.toNat:Int),.int .u64 (x.x.toNat:Int),.int .u32 (x.m.toNat:Int)]] w fun e w'=>e=.returned (.int .i64 0)/\Below w.heap.size w w':=by
 obtain⟨hc0,hc1,hc2,hc3,ij,Be,-⟩:=hk.cells;have x9:=hk.lt;clear hk hc0 hc3 ij;unfold qy at hs;unfold ptrTo;by_cases h1:x.t=x.h
 ·rw[h1];clear hs h1 hc1 hc2 Be;go_enter func225,ntmps225;go_wp2;go_quiet (fail)
  go_wp2;go_ret;exact⟨rfl,below_drewN ai _⟩
 ·cases any with
  |false=>grind
  |true=>
    obtain⟨g1,g2,g3,g4,g5⟩:=zX h1;simp only[h1,decide_false,Bool.false_or,Bool.true_and,Bool.and_eq_true,decide_eq_true_eq]at hs;obtain⟨h2,h3⟩:=hs;rw[h2]at hc1;rw[h3]at hc2;clear h1 h2 h3;go_enter func225,ntmps225;go_wp2;go_quiet (fail)
    go_wp2;go_ret;exact⟨rfl,below_drewN ai _⟩
theorem J4{out:List aH}{last:aH}{any:Bool}{x:aH}(h:(out=[]/\any=false)\/(out.getLast? = some last/\any=true)):(qy last any x=true->sK out x=out)/\(qy last any x=false->sK out x=out++[x]):=by
 unfold qy;constructor
 ·intro hs;refine vE ?_;simp only[Bool.or_eq_true,Bool.and_eq_true,decide_eq_true_eq]at hs;rcases hs with hs |⟨h1,h2,h3⟩
  ·exact .inl hs
  ·rcases h with⟨_,h⟩|⟨h,_⟩
   ·grind
   ·exact .inr ⟨last,h,h2,h3⟩
 ·intro hs;refine zy (fun hk=>?_);simp only[Bool.or_eq_false_iff,Bool.and_eq_false_iff,decide_eq_false_iff_not]at hs;rcases hk with hk |⟨y,hy,hs1,hs2⟩
  ·grind
  grind
theorem UX(HW:aP)(h:aQ w pb db n o d L)(hst:aD w sb pb name 20)(ho:o sb=none)(fw:o kb=none)(hne:kb≠sb){out:List aH}(hL:aA L name=some (aw out false))(hN:out.length<65535){last x:aH}{any:Bool}(hk:dH w kb sb last any)(hs:qy last any x=false) :
 Calls prog 225 #[ptrTo kb,.agg #[.int .u32 (x.t.toNat:Int),.int .u32 (x.h.toNat:Int),.int .u64 (x.x.toNat:Int),.int .u32 (x.m.toNat:Int)]] w fun e w'=>
  ∃c d' o',e=.returned (.int .i64 ((c:Nat):Int))/\au (·=kb) n pb db w o d w' o' d' (if c=0 then aS L name (aw (out++[x]) false) else L)/\(c=0\/kJ d d' L c)/\dH w' kb sb x true:=by
 have kZ:Hid (∀W o' d',aQ W pb db n o' d' L->aD W sb pb name 20->o' sb=none->∀rv,Rd W rv x.bytes->(∀b,rv.ownBlock=some b->o' b=none) ->
  Calls prog 72 #[ptrTo sb,rv] W (jk (fun _=>False) n pb db W o' d' L (aS L name (aw (out++[x]) false)))):=aa (fun W o' d' hW YU kH rv hr hro=>by
  have:=jY HW hW YU kH af af hL (fp out) (by grind) hr x.eA hro;grind [aw])
 have acM:=aa (fun W=>ua x W);have H:=aa h;have HST:=aa hst;have HO:=aa ho;have Pn:=aa fw;have HK:=aa hk;have sO:=aa hne;obtain⟨-,hc1,hc2,-,-,Be,-⟩:=hk.cells;have x9:=hk.lt;have Y1:Hid (∀W,dH W kb sb last any->dH (((((W.setCell ⟨kb,1,none⟩ (.int .u32 (x.t.toNat:Int))).setCell ⟨kb,2,none⟩ (.int .u32 (x.h.toNat:Int))).setCell ⟨kb,3,none⟩ (.int .u64 (x.x.toNat:Int))).setCell ⟨kb,4,none⟩ (.int .u32 (x.m.toNat:Int))).setCell ⟨kb,5,none⟩ (.bool true)) kb sb x true):=aa (fun W h=>h.set);clear h hst ho fw hk hne hL hN;unfold qy at hs;simp only[Bool.or_eq_false_iff,Bool.and_eq_false_iff,decide_eq_false_iff_not]at hs;obtain⟨hs1,hs2⟩:=hs;obtain⟨a1,a2,a3,a4,a5⟩:=zX hs1;clear hs1;have Q5:any=false\/(any=true/\¬last.t=x.t)\/(any=true/\last.t=x.t/\¬last.h=x.h):=by
  grind
 clear hs2;unfold ptrTo at *;rcases Q5 with rfl |⟨rfl,g⟩|⟨rfl,g,g'⟩;case' inr.inl=>
  obtain⟨b1,b2,b3,b4,b5⟩:=zX g;clear g
 case' inr.inr=>
  obtain⟨b1,b2,b3,b4,b5⟩:=zX g';rw[g]at hc1;clear g g'
 all_goals
  go_enter func225,ntmps225;go_wp2;go_quiet (fail)
  have cQ:Hid (Below w.heap.size w ((w.alloc (.cells #[.int .u32 (x.t.toNat:Int),.int .u32 (x.h.toNat:Int),.int .u64 (x.x.toNat:Int),.int .u32 (x.m.toNat:Int)] 64)).drewN nq)):=aa (below_drewN ai _);have e0:((w.alloc (.cells #[.int .u32 (x.t.toNat:Int),.int .u32 (x.h.toNat:Int),.int .u64 (x.x.toNat:Int),.int .u32 (x.m.toNat:Int)] 64)).drewN nq).cell? ⟨w.heap.size,0,none⟩=some (.int .u32 (x.t.toNat:Int)):=by simp
  have e1:((w.alloc (.cells #[.int .u32 (x.t.toNat:Int),.int .u32 (x.h.toNat:Int),.int .u64 (x.x.toNat:Int),.int .u32 (x.m.toNat:Int)] 64)).drewN nq).cell? ⟨w.heap.size,1,none⟩=some (.int .u32 (x.h.toNat:Int)):=by simp
  have e2:((w.alloc (.cells #[.int .u32 (x.t.toNat:Int),.int .u32 (x.h.toNat:Int),.int .u64 (x.x.toNat:Int),.int .u32 (x.m.toNat:Int)] 64)).drewN nq).cell? ⟨w.heap.size,2,none⟩=some (.int .u64 (x.x.toNat:Int)):=by simp
  have e3:((w.alloc (.cells #[.int .u32 (x.t.toNat:Int),.int .u32 (x.h.toNat:Int),.int .u64 (x.x.toNat:Int),.int .u32 (x.m.toNat:Int)] 64)).drewN nq).cell? ⟨w.heap.size,3,none⟩=some (.int .u32 (x.m.toNat:Int)):=by simp
  have Jw:w.heap.size<((w.alloc (.cells #[.int .u32 (x.t.toNat:Int),.int .u32 (x.h.toNat:Int),.int .u64 (x.x.toNat:Int),.int .u32 (x.m.toNat:Int)] 64)).drewN nq).heap.size:=by simp
  generalize (w.alloc (.cells #[.int .u32 (x.t.toNat:Int),.int .u32 (x.h.toNat:Int),.int .u64 (x.x.toNat:Int),.int .u32 (x.m.toNat:Int)] 64)).drewN nq=w1 at *;clear hc1 hc2 Be;have HK1:=aa (HK.o.below cQ.o);obtain⟨k0,k1,k2,k3,k4,k5,Jb⟩:=HK1.o.cells;have z1:=Jb 1;have z2:=Jb 2;have z3:=Jb 3;have z4:=Jb 4;have z5:=Jb 5;have X5:¬w.heap.size=kb:=by omega
  clear Jb;go_wp2;have Q6:=Y1.o w1 HK1.o;have cR:au (·=kb) n pb db w o d (((((w1.setCell ⟨kb,1,none⟩ (.int .u32 (x.t.toNat:Int))).setCell ⟨kb,2,none⟩ (.int .u32 (x.h.toNat:Int))).setCell ⟨kb,3,none⟩ (.int .u64 (x.x.toNat:Int))).setCell ⟨kb,4,none⟩ (.int .u32 (x.m.toNat:Int))).setCell ⟨kb,5,none⟩ (.bool true)) o d L:=
   (((((au.aW (S:=(·=kb)) H.o cQ.o).setCell ⟨kb,1,none⟩ _ Pn.o (.inl rfl)).setCell ⟨kb,2,none⟩ _ Pn.o (.inl rfl)).setCell ⟨kb,3,none⟩ _ Pn.o (.inl rfl)).setCell ⟨kb,4,none⟩ _ Pn.o (.inl rfl)).setCell ⟨kb,5,none⟩ _ Pn.o (.inl rfl)
  have UR:w.heap.size<(((((w1.setCell ⟨kb,1,none⟩ (.int .u32 (x.t.toNat:Int))).setCell ⟨kb,2,none⟩ (.int .u32 (x.h.toNat:Int))).setCell ⟨kb,3,none⟩ (.int .u64 (x.x.toNat:Int))).setCell ⟨kb,4,none⟩ (.int .u32 (x.m.toNat:Int))).setCell ⟨kb,5,none⟩ (.bool true)).heap.size:=by simp_all
  have f:∀(j:Nat)(v:Value),w1.cell? ⟨w.heap.size,j,none⟩=some v->(((((w1.setCell ⟨kb,1,none⟩ (.int .u32 (x.t.toNat:Int))).setCell ⟨kb,2,none⟩ (.int .u32 (x.h.toNat:Int))).setCell ⟨kb,3,none⟩ (.int .u64 (x.x.toNat:Int))).setCell ⟨kb,4,none⟩ (.int .u32 (x.m.toNat:Int))).setCell ⟨kb,5,none⟩ (.bool true)).cell? ⟨w.heap.size,j,none⟩=some v:=fun j v hv=>
   ((((((aF.refl (·=kb) w1).setCell ⟨kb,1,none⟩ (.int .u32 (x.t.toNat:Int)) (.inl rfl)).setCell ⟨kb,2,none⟩ (.int .u32 (x.h.toNat:Int)) (.inl rfl)).setCell ⟨kb,3,none⟩ (.int .u64 (x.x.toNat:Int)) (.inl rfl)).setCell ⟨kb,4,none⟩ (.int .u32 (x.m.toNat:Int)) (.inl rfl)).setCell ⟨kb,5,none⟩ (.bool true) (.inl rfl)).cell hv X5
  have f0:=f 0 _ e0;have f1:=f 1 _ e1;have f2:=f 2 _ e2;have f3:=f 3 _ e3;have Xe:=aa Q6;have eT:=aa cR;have q0:=Q6.cells.1;unfold ptrTo at q0;clear f Q6 cR e0 e1 e2 e3 k0 k1 k2 k3 k4 k5 z1 z2 z3 z4 z5 HK1;generalize (((((w1.setCell ⟨kb,1,none⟩ (.int .u32 (x.t.toNat:Int))).setCell ⟨kb,2,none⟩ (.int .u32 (x.h.toNat:Int))).setCell ⟨kb,3,none⟩ (.int .u64 (x.x.toNat:Int))).setCell ⟨kb,4,none⟩ (.int .u32 (x.m.toNat:Int))).setCell ⟨kb,5,none⟩ (.bool true))=w2 at *;have ahL:w.heap.size<=w2.heap.size:=Nat.le_of_lt UR;have Pc:Hid (∀w3 v3,w3.ownsRow w2.drew.heap.size 5 1 v3 x.bytes.length (x.bytes.map bv)->Below w2.drew.heap.size w2.drew w3->(w3.cell? ⟨kb,0,none⟩=some (.pointer (some ⟨sb,0,none⟩))/\w3.cell? ⟨w.heap.size,0,none⟩=some (.int .u32 (x.t.toNat:Int))/\w3.cell? ⟨w.heap.size,1,none⟩=some (.int .u32 (x.h.toNat:Int))/\w3.cell? ⟨w.heap.size,2,none⟩=some (.int .u64 (x.x.toNat:Int))/\w3.cell? ⟨w.heap.size,3,none⟩=some (.int .u32 (x.m.toNat:Int))) /\
   au (·=kb) n pb db w o d w3 o d L/\aD w3 sb pb name 20/\Rd w3 v3 x.bytes/\(∀b,v3.ownBlock=some b->o b=none)/\dH w3 kb sb x true):=aa (fun w3 v3 iL hb3=>by
   have ep:=eT.o.drew.below hb3;have hs3:dH w3 kb sb x true:=Xe.o.kept (hb3.block kb Xe.o.lt);have g:=fun(j:Nat)(v:Value)(hv:w2.cell? ⟨w.heap.size,j,none⟩=some v)=>(show w3.cell? ⟨w.heap.size,j,none⟩=some v by rw[hb3.cell (p:=⟨w.heap.size,j,none⟩) UR];exact hv);refine⟨⟨hs3.cells.1,g 0 _ f0,g 1 _ f1,g 2 _ f2,g 3 _ f3⟩,ep,?_,fD iL,fun b hb=>H.o.fresh (Nat.le_trans ahL (aG iL b hb)),hs3⟩;exact HST.o.moved ep HO.o (fun e=>sO.o e.symm))
  have hk2:Hid (∀w3 w4 d4 o4 L4,au (·=kb) n pb db w o d w3 o d L->dH w3 kb sb x true->w3.cell? ⟨w.heap.size,0,none⟩=some (.int .u32 (x.t.toNat:Int))/\w3.cell? ⟨w.heap.size,1,none⟩=some (.int .u32 (x.h.toNat:Int))/\w3.cell? ⟨w.heap.size,2,none⟩=some (.int .u64 (x.x.toNat:Int))/\w3.cell? ⟨w.heap.size,3,none⟩=some (.int .u32 (x.m.toNat:Int))->au (fun _=>False) n pb db w3 o d w4 o4 d4 L4 ->
   (w4.cell? ⟨kb,0,none⟩=some (.pointer (some ⟨sb,0,none⟩))/\w4.cell? ⟨w.heap.size,0,none⟩=some (.int .u32 (x.t.toNat:Int))/\w4.cell? ⟨w.heap.size,1,none⟩=some (.int .u32 (x.h.toNat:Int))/\w4.cell? ⟨w.heap.size,2,none⟩=some (.int .u64 (x.x.toNat:Int))/\w4.cell? ⟨w.heap.size,3,none⟩=some (.int .u32 (x.m.toNat:Int))) /\
   au (·=kb) n pb db w o d w4 o4 d4 L4/\dH w4 kb sb x true):=aa (fun w3 w4 d4 o4 L4 ep hs3 ⟨g0,g1,g2,g3⟩ eV=>by
   have oT:dH w4 kb sb x true:=hs3.kept (eV.block hs3.lt Pn.o (fun h=>h));have hx:o w.heap.size=none:=H.o.fresh (Nat.le_refl _);exact⟨⟨oT.cells.1,eV.cell g0 hx (fun h=>h),eV.cell g1 hx (fun h=>h),eV.cell g2 hx (fun h=>h),eV.cell g3 hx (fun h=>h)⟩,ep.trans eV (fun _ _ h=>h.elim),oT⟩)
  go_region_held3 (fun w'=>w'.cell? ⟨kb,0,none⟩=some (.pointer (some ⟨sb,0,none⟩))/\w'.cell? ⟨w.heap.size,0,none⟩=some (.int .u32 (x.t.toNat:Int))/\w'.cell? ⟨w.heap.size,1,none⟩=some (.int .u32 (x.h.toNat:Int))/\w'.cell? ⟨w.heap.size,2,none⟩=some (.int .u64 (x.x.toNat:Int))/\w'.cell? ⟨w.heap.size,3,none⟩=some (.int .u32 (x.m.toNat:Int))) (first | exact⟨q0,f0,f1,f2,f3⟩| exact q1 | exact q2)
   (first
     | (go_at_call 208;refine(acM.o _).mono ?_;rintro e w3⟨v3,rfl,iL,hb3⟩;obtain⟨q1,ep,tX,hr3,hf3,hs3⟩:=Pc.o w3 v3 iL hb3)
     | (go_at_call 72;refine(kZ.o w3 o d ep.aY tX HO.o v3 hr3 hf3).mono ?_;rintro e w4⟨c4,d4,o4,rfl,eV,yo⟩;obtain⟨q2,kC,hs5⟩:=hk2.o w3 w4 d4 o4 _ ep hs3 q1.2 eV))
  have lx:=aa kC;have b6:=aa hs5;have BL:=aa yo;clear kC hs5 yo eV ep tX hr3 hf3 hs3 iL hb3 q1 q2 q0 f0 f1 f2 f3;go_wp2;go_ret;exact⟨c4,d4,o4,rfl,lx.o,BL.o,b6.o⟩
theorem xH(HW:aP)(h:aQ w pb db n o d L)(hst:aD w sb pb name 20)(ho:o sb=none)(fw:o kb=none)(hne:kb≠sb){out:List aH}(hL:aA L name=some (aw out false))(hN:out.length<65535)(hk:eZ w kb sb out)(x:aH) :
 Calls prog 225 #[ptrTo kb,.agg #[.int .u32 (x.t.toNat:Int),.int .u32 (x.h.toNat:Int),.int .u64 (x.x.toNat:Int),.int .u32 (x.m.toNat:Int)]] w (zW n pb db w o d L name kb sb out x):=by
 obtain⟨last,any,hsk,Q5⟩:∃last any,dH w kb sb last any/\((out=[]/\any=false)\/(out.getLast? = some last/\any=true)):=by
  rcases hk with⟨h1,y,h2⟩|⟨y,h1,h2⟩
  ·grind
  grind
 obtain⟨p1,p2⟩:=J4 (x:=x) Q5;cases hs:qy last any x with
 |true=>
   refine(Q4 hsk hs).mono ?_;rintro e w'⟨rfl,hb⟩;refine⟨0,d,o,rfl,?_,.inl rfl,fun _=>?_⟩
   ·rw[if_pos rfl,p1 hs];exact(au.aW h hb).same hL
   grind [eZ.below]
 |false=>
   refine(UX HW h hst ho fw hne hL hN hsk hs).mono ?_;rintro e w'⟨c,d',o',rfl,hm,he,hs'⟩;refine⟨c,d',o',rfl,by grind,he,fun _=>?_⟩;rw[p2 hs];exact .inr ⟨x,ah,hs'⟩
end
end
end Go.Proofs.YthkkgdpomhhjjaaGreatDoor
namespace Go.Proofs
open Go.Shelf
def Tryz.uf:Go.Shelf.Ren:=⟨fun | 171=>51 | 243=>85 | 246=>126 | 283=>187 | 284=>188 | 285=>189 | 286=>190 | 129=>136 | 317=>232 | 318=>233 | 319=>234 | 320=>235 | 337=>276 | 338=>277 | n=>n,fun | 3=>3 | 9=>9 | 2=>2 | 4=>4 | 171=>276 | 0=>0 | 53=>62 | 37=>39 | 5=>5 | 173=>278 | 212=>311 | 51=>26 | 20=>20 | 213=>312 | 46=>159 | 232=>377 | 233=>378 | n=>n,fun | 17=>0 | 18=>1 | 19=>2 | n=>n⟩
theorem Tryz.itoa:Go.Proofs.LaysM.n171 prog Tryz.uf:={
 mixed:=by kernel_rfl
 f129:=func136.trans ak
 f171:=func51.trans ak
 f243:=func85.trans ak
 f246:=func126.trans ak
 f283:=func187.trans ak
 f284:=func188.trans ak
 f285:=func189.trans ak
 f286:=func190.trans ak
 f317:=func232.trans ak
 f318:=func233.trans ak
 f319:=func234.trans ak
 f320:=func235.trans ak
 f337:=func276.trans ak
 f338:=func277.trans ak
 t0:=Tryz.underlying0
 a0:=Tryz.isAgg0
 z0:=Tryz.sizeOf0
 v0:=Tryz.zeroValue0
 t2:=Tryz.underlying2
 a2:=Tryz.isAgg2
 z2:=Tryz.sizeOf2
 v2:=Tryz.zeroValue2
 t3:=Tryz.underlying3
 a3:=Tryz.isAgg3
 z3:=Tryz.sizeOf3
 v3:=Tryz.zeroValue3
 t4:=Tryz.underlying4
 a4:=Tryz.isAgg4
 z4:=Tryz.sizeOf4
 v4:=Tryz.zeroValue4
 t5:=Tryz.underlying5
 a5:=Tryz.isAgg5
 z5:=Tryz.sizeOf5
 v5:=Tryz.zeroValue5
 t9:=Tryz.underlying9
 a9:=Tryz.isAgg9
 z9:=Tryz.sizeOf9
 v9:=Tryz.zeroValue9
 t20:=Tryz.underlying20
 a20:=Tryz.isAgg20
 z20:=Tryz.sizeOf20
 v20:=Tryz.zeroValue20
 t37:=Tryz.underlying39
 a37:=Tryz.isAgg39
 z37:=Tryz.sizeOf39
 v37:=Tryz.zeroValue39
 t46:=Tryz.underlying159
 a46:=Tryz.isAgg159
 z46:=Tryz.sizeOf159
 v46:=Tryz.zeroValue159
 t51:=Tryz.underlying26
 a51:=Tryz.isAgg26
 z51:=Tryz.sizeOf26
 v51:=Tryz.zeroValue26
 t53:=Tryz.underlying62
 a53:=Tryz.isAgg62
 z53:=Tryz.sizeOf62
 v53:=Tryz.zeroValue62
 t171:=Tryz.underlying276
 a171:=Tryz.isAgg276
 z171:=Tryz.sizeOf276
 v171:=Tryz.zeroValue276
 t173:=Tryz.underlying278
 a173:=Tryz.isAgg278
 z173:=Tryz.sizeOf278
 v173:=Tryz.zeroValue278
 t212:=Tryz.underlying311
 a212:=Tryz.isAgg311
 z212:=Tryz.sizeOf311
 v212:=Tryz.zeroValue311
 t213:=Tryz.underlying312
 a213:=Tryz.isAgg312
 z213:=Tryz.sizeOf312
 t232:=Tryz.underlying377
 a232:=Tryz.isAgg377
 z232:=Tryz.sizeOf377
 v232:=Tryz.zeroValue377
 t233:=Tryz.underlying378
 a233:=Tryz.isAgg378
 z233:=Tryz.sizeOf378
 v233:=Tryz.zeroValue378
 g17:=by kernel_rfl
 g18:=by kernel_rfl
 g19:=by kernel_rfl
 i0:=by kernel_rfl
 i2:=by kernel_rfl
 i3:=by kernel_rfl
 i4:=by kernel_rfl
 i5:=by kernel_rfl
 i9:=by kernel_rfl
 i20:=by kernel_rfl
 i37:=by kernel_rfl
 i46:=by kernel_rfl
 i51:=by kernel_rfl
 i53:=by kernel_rfl
 i171:=by kernel_rfl
 i173:=by kernel_rfl
 i212:=by kernel_rfl
 i232:=by kernel_rfl
 i233:=by kernel_rfl
 m17:=by kernel_rfl
 m18:=by kernel_rfl
 m19:=by kernel_rfl }
def Tryz.zY:Go.Shelf.Ren:=⟨fun | 99=>114 | 206=>176 | n=>n,fun | 9=>9 | 4=>4 | 3=>3 | n=>n,fun | n=>n⟩
theorem Tryz.Y2:Go.Proofs.Lays.n99 prog Tryz.zY:={
 mixed:=by kernel_rfl
 f99:=func114.trans ak
 f206:=func176.trans ak
 t3:=Tryz.underlying3
 a3:=Tryz.isAgg3
 z3:=Tryz.sizeOf3
 v3:=Tryz.zeroValue3
 t4:=Tryz.underlying4
 a4:=Tryz.isAgg4
 z4:=Tryz.sizeOf4
 v4:=Tryz.zeroValue4
 t9:=Tryz.underlying9
 a9:=Tryz.isAgg9
 z9:=Tryz.sizeOf9
 v9:=Tryz.zeroValue9 }
def Tryz.zZ:Go.Shelf.Ren:=⟨fun | 45=>226 | n=>n,fun | 22=>301 | 23=>206 | 3=>3 | 4=>4 | 0=>0 | n=>n,fun | n=>n⟩
theorem Tryz.Y3:Go.Proofs.SlLaysE.n45 prog Tryz.zZ:={
 mixed:=by kernel_rfl
 f45:=⟨Tryz.f226.name,af,func226.trans ak⟩
 t0:=Tryz.underlying0
 a0:=Tryz.isAgg0
 z0:=Tryz.sizeOf0
 v0:=Tryz.zeroValue0
 t3:=Tryz.underlying3
 a3:=Tryz.isAgg3
 z3:=Tryz.sizeOf3
 v3:=Tryz.zeroValue3
 t4:=Tryz.underlying4
 a4:=Tryz.isAgg4
 z4:=Tryz.sizeOf4
 v4:=Tryz.zeroValue4
 t22:=Tryz.underlying301
 a22:=Tryz.isAgg301
 z22:=Tryz.sizeOf301
 v22:=Tryz.zeroValue301
 a23:=Tryz.isAgg206
 z23:=Tryz.sizeOf206 }
end Go.Proofs
