/-
  Joined.
-/
import Derived.Test.YthkkgdpomhhjjaaGreatDoorK04
import Derived.Shelf.SlSortCmp.Insertion
import Derived.Sort.Grow
import Derived.Deep.AppendSrc
import Derived.Shelf.Strconv.Itoa3
import Derived.Shelf.Strings.Prefix
import Derived.Shelf.SlicesE.Delete
import Derived.Ground.NamesProg
import Derived.Ground.SlgnProg
import Derived.Shelf.LaysM
set_option maxRecDepth 100000
set_option maxHeartbeats 8000000
namespace Go.Proofs.YthkkgdpomhhjjaaGreatDoor
open Go.Proofs.Tryz
section
open Go.RowKit Go.Maps Go.MapKept
def aF(w:World)(sb pb:Nat)(name:Name)(sz:Nat):Prop:=∃t,w.heap[sb]? = some (.cells #[ptrTo pb,.string name,.int .i64 (sz:Int)] t)
section
variable {S:Nat->Prop} {w w':World} {sb pb db n sz:Nat} {name:Name} {o o':au} {d d':Dsk} {L L':aH}
theorem aF.cells(h:aF w sb pb name sz):w.cell? ⟨sb,0,none⟩=some (ptrTo pb)/\w.cell? ⟨sb,1,none⟩=some (.string name)/\w.cell? ⟨sb,2,none⟩=some (.int .i64 (sz:Int)):=by
 obtain⟨t,h⟩:=h;refine⟨?_,?_,?_⟩<;>rw[ar h]<;>rfl
theorem aF.lt(h:aF w sb pb name sz):sb<w.heap.size:=by
 obtain⟨t,h⟩:=h;exact(Array.getElem?_eq_some_iff.1 h).1
theorem aF.kept(h:aF w sb pb name sz)(hb:w'.heap[sb]? = w.heap[sb]?):aF w' sb pb name sz:=by
 obtain⟨t,h⟩:=h;exact⟨t,hb.trans h⟩
theorem aF.below(h:aF w sb pb name sz)(hb:Below w.heap.size w w'):aF w' sb pb name sz:=h.kept (hb.block _ h.lt)
theorem aF.moved(h:aF w sb pb name sz)(hm:Moved S n pb db w o d w' o' d' L')(ho:o sb=none)(hs:¬S sb):aF w' sb pb name sz:=h.kept (hm.block h.lt ho hs)
theorem aR.dI(h:aR w pb db n o d L){ps:List Pg}{fl:Bool}(hL:aB L name=some (.inl (ps,fl))):ps.length<=65536/\jN ps:=by
 obtain⟨_,_,_,_,_,_,_,g⟩:=h;obtain⟨f,dp,q⟩:=g.dI _ _ _ hL;exact⟨q.most,q.short⟩
theorem kU(h:aR w pb db n o d L){ps:List Pg}{fl:Bool}(hL:aB L name=some (.inl (ps,fl))) :
 Calls prog 92 #[ptrTo pb,.string name] w fun e w'=>e=.returned (.tuple #[.int .i64 ((eA d ps).1:Int),.int .i64 ((eA d ps).2:Int)])/\Below w.heap.size w w':=by
 obtain⟨_,_,_,_,_,hp,_,g⟩:=h;exact qK hp g hL
theorem Cu(h:aR w pb db n o d L)(name:Name)(hs:name.size<=1000) :
 Calls prog 92 #[ptrTo pb,.string name] w fun e w'=>(∃k:Nat,e=.returned (.tuple #[.int .i64 (k:Int),.int .i64 (cN d name:Int)]))/\Below w.heap.size w w':=by
 obtain⟨_,_,_,_,_,hp,_,g⟩:=h;exact(Dt hp (fun p hp=>(g.wR p hp).2) name hs).mono fun e w' ⟨h1,h2⟩=>⟨⟨_,h1⟩,h2⟩
theorem gX(h:aR w pb db n o d L){ps:List Pg}{fl:Bool}(hL:aB L name=some (.inl (ps,fl))):cN d name=if d.dead=true then 6 else 0:=by
 obtain⟨_,_,_,_,_,_,_,g⟩:=h;obtain⟨f,dp,q,lZ,kI⟩:=g.Ag hL;cases hd:d.dead with
 |true=>rw[(kI hd).2];rfl
 |false=>rw[(lZ hd).2];rfl
def dW(w:World)(pb:Nat)(name:Name)(sz:Nat)(c:Nat)(e:Ending)(w':World):Prop:=
 ∃v,e=.returned (.tuple #[v,.int .i64 (c:Int)])/\Below w.heap.size w w'/\(c=0->∃sb,v=ptrTo sb/\aF w' sb pb name sz/\w.heap.size<=sb)/\(c≠0->v=.pointer none)
theorem dX(h:aR w pb db n o d L)(name:Name)(hs:name.size<=1000)(h1:1<=sz)(h2:sz<=240) :
 Calls prog 67 #[ptrTo pb,.string name,.int .i64 (sz:Int)] w (dW w pb name sz (cN d name)):=by
 have aM:=ae (Cu h name hs);have g1:¬((sz:Int)<1):=by omega
 have g2:¬((sz:Int)>240):=by omega
 clear h;unfold ptrTo at *;generalize hC:cN d name=c at *;clear hC;by_cases hc:c=0
 ·subst hc;go_enter func67,ntmps67;go_wp2_with fail;refine aM.out.mono ?_;rintro e w1⟨⟨k,rfl⟩,hb⟩;have HB:=ae hb;clear hb;go_wp2;go_ret2;refine⟨_,rfl,HB.out.alloc HB.out.size _,fun _=>⟨w1.heap.size,rfl,⟨_,heap_alloc_new w1 _⟩,HB.out.size⟩,fun h=>absurd rfl h⟩
 ·have hc':¬(c:Int)=0:=by omega
  have HC:=ae hc;clear hc;go_enter func67,ntmps67;go_wp2_with fail;refine aM.out.mono ?_;rintro e w1⟨⟨k,rfl⟩,hb⟩;have HB:=ae hb;clear hb;go_wp2;go_ret2;exact⟨_,rfl,HB.out,fun h=>absurd h HC.out,fun _=>rfl⟩
theorem sy(h:aF w sb pb name sz)(h1:1<=sz)(h2:sz<=240):Calls prog 94 #[ptrTo sb] w fun e w'=>e=.returned (.int .i64 (eO sz:Int))/\w=w':=by
 obtain⟨-,-,hc2⟩:=h.cells;have e1:(240:Int).tdiv (sz:Int)=(eO sz:Int):=by
  unfold eO;rw[Int.tdiv_eq_ediv_of_nonneg af];rfl
 clear h;have hz:¬(sz:Int)=0:=by omega
 unfold ptrTo;have adS:eO sz<=240:=Nat.div_le_self _ _;generalize hp:eO sz=p at *;clear hp;have e2:wrap64 (p:Int)=(p:Int):=by unfold wrap64;omega
 go_enter func94,ntmps94;go_wp2;go_ret;exact⟨rfl,rfl⟩
def Dz(n pb db:Nat)(w:World)(o:au)(d:Dsk)(L:aH)(R:Nat->Ending->World->au->Prop)(e:Ending)(w':World):Prop:=
 ∃c d' o',R c e w' o'/\Moved (fun _=>False) n pb db w o d w' o' d' L/\(c=0\/lK d d' L c)
def DA(k:Nat)(c:Nat)(e:Ending)(_:World)(_:au):Prop:=∃x:Nat,e=.returned (.tuple #[.int .i64 (x:Int),.int .i64 (c:Int)])/\(c=0->x=k)
theorem ju(hp:aR w' pb db n o' d' L')(ht:aG (o.In cM) w w')(hg:cF w.heap.size o o')(zu:bR d d'):Moved S n pb db w o d w' o' d' L':=
 ⟨hp,ht.mono (fun _ _ h=>.inl h),hg,zu⟩
theorem Aq{rs:List Rec}(hs:gK sz rs)(h1:1<=sz)(h2:sz<=240)(hN:0<rs.length) :
 ∃(q m:Nat)(b:Pg),(bC (eO sz) rs).length=q+1/\(bC (eO sz) rs)[q]? = some b/\b.length=sz*m/\1<=m/\m<=eO sz/\q*eO sz+m=rs.length/\b=(rs.drop (eO sz*q)).flatten:=by
 have hp:=rD h1 h2;obtain⟨g1,g2,g3⟩:=N9 hp hN;refine⟨cz (eO sz) rs.length-1,rs.length-eO sz*(cz (eO sz) rs.length-1),_,?_,by rw[ja hp,if_pos g1],?_,af,af,by rw[Nat.mul_comm];omega,?_⟩
 ·rw[dV];omega
 ·rw[qH hs,Nat.min_eq_right af]
 ·rw[List.take_of_length_le (by rw[List.length_drop];omega)]
theorem kr(HW:aP)(h:aR w pb db n o d L)(hst:aF w sb pb name sz)(ho:o sb=none)(h1:1<=sz)(h2:sz<=240){rs:List Rec}{fl:Bool}(hL:aB L name=some (.inl (bC (eO sz) rs,fl)))(hs:gK sz rs) :
 Calls prog 59 #[ptrTo sb] w (Dz n pb db w o d L (DA rs.length)):=by
 obtain⟨jq,Ar⟩:=h.dI hL;have aM:Hid (∀W,Below w.heap.size w W->Calls prog 92 #[ptrTo pb,.string name] W fun e w'=>e=.returned (.tuple #[.int .i64 ((eA d (bC (eO sz) rs)).1:Int),.int .i64 ((eA d (bC (eO sz) rs)).2:Int)])/\Below W.heap.size W w'):=ae (fun W hW=>kU (h.below hW) hL);have mX:Hid (∀W,Below w.heap.size w W->∀(k:Nat)(b:Pg),(bC (eO sz) rs)[k]? = some b->Calls prog 93 #[ptrTo pb,.string name,.int .i64 (k:Int)] W (gW W pb db n o d L b)):=ae (fun W hW k b hk=>pG HW (h.below hW) hL hk);have H:=ae h;have HST:=ae hst;have HO:=ae ho;have EN:=ae (fun hN=>Aq (rs:=rs) hs h1 h2 hN);have VI:=ae (fun W(hW:aF W sb pb name sz)=>sy hW h1 h2);have mH:=uj sz;have UM:=hst.lt;clear h hst ho hL hs Ar;unfold ptrTo at *;unfold eA at aM;cases hd:d.dead with
 |true=>
   rw[hd,if_pos rfl]at aM;have HD:=ae hd;clear hd;dsimp only at aM;go_enter func59,ntmps59;go_wp2;refine wq w ?_;iterate 3 (refine qz ?_)
   refine qz ?_ (fun w' hw'=>by have hc:=(HST.out.below hw').cells.1;unfold ptrTo at hc;go_simp<;>rfl);iterate 3 (refine qz ?_)
   refine qz ?_ (fun w' hw'=>by have hc:=(HST.out.below hw').cells.2.1;go_simp<;>rfl);refine qw (fun w' hw'=>(aM.out w' hw').mono (fun e w'' h=>⟨h.1,hw'.trans (h.2.mono hw'.size)⟩)) ?_;iterate 5 (refine qz ?_)
   refine wpQuiet_nil ?_;intro w1 rz;have HB:=ae rz;clear rz;go_wp2;go_ret2;exact⟨6,d,o,⟨0,rfl,fun h=>absurd h ag⟩,Moved.aV H.out HB.out,.inr (.inr ⟨rfl,HD.out⟩)⟩
 |false=>
   rw[hd,if_neg ai]at aM;clear hd;dsimp only at aM;rcases Nat.eq_zero_or_pos rs.length with hz | hN
   ·have hP:(bC (eO sz) rs).length=0:=by
     rw[dV,hz];unfold cz;have:=rD h1 h2;rw[Nat.div_eq_of_lt af]
    rw[hP]at aM;have HZ:=ae hz;clear hz hP jq;go_enter func59,ntmps59;go_wp2;refine wq w ?_;iterate 3 (refine qz ?_)
    refine qz ?_ (fun w' hw'=>by have hc:=(HST.out.below hw').cells.1;unfold ptrTo at hc;go_simp<;>rfl);iterate 3 (refine qz ?_)
    refine qz ?_ (fun w' hw'=>by have hc:=(HST.out.below hw').cells.2.1;go_simp<;>rfl);refine qw (fun w' hw'=>(aM.out w' hw').mono (fun e w'' h=>⟨h.1,hw'.trans (h.2.mono hw'.size)⟩)) ?_;iterate 5 (refine qz ?_)
    refine wpQuiet_nil ?_;intro w1 rz;have HB:=ae rz;clear rz;go_wp2;go_ret2;exact⟨0,d,o,⟨0,rfl,fun _=>HZ.out.symm⟩,Moved.aV H.out HB.out,.inl rfl⟩
   ·obtain⟨q,m,b,f1,f2,f3,f4,f5,f6,-⟩:=EN.out hN;have KF:Hid (∀W,Below w.heap.size w W->Calls prog 93 #[.pointer (some ⟨pb,0,none⟩),.string name,.int .i64 (q:Int)] W (gW W pb db n o d L b)):=ae (fun W hW=>mX.out W hW q b f2);have hq:q<=65536:=by omega
    have hm:sz*m<=240:=Nat.le_trans (Nat.mul_le_mul_left sz f5) mH;have rT:1<=sz*m:=Nat.mul_pos af af;have e1:(sz*m)/sz=m:=Nat.mul_div_cancel_left m af;have e2:(sz*m)%sz=0:=Nat.mul_mod_right sz m;have hN':rs.length<=16777216:=by
     have:eO sz<=240:=Nat.div_le_self _ _;have:=Nat.mul_le_mul hq this;omega
    generalize hPP:(bC (eO sz) rs).length=P at *;rw[<- f3]at hm rT e1 e2;generalize X6:b.length=B at *;generalize ZT:rs.length=N at *;generalize hpe:eO sz=p at *;have hT:q*p<=N:=by omega
    generalize hTT:q*p=T at *;have hwq:IntKind.i64.wrap ((P:Int)-1)=(q:Int):=by rw[aw af af];omega
    have hwm:IntKind.i64.wrap ((q:Int)*(p:Int))=(T:Int):=by rw[<- Int.natCast_mul,hTT];exact aw af af
    have hwd:(B:Int).tdiv (sz:Int)=(m:Int):=by rw[Int.tdiv_eq_ediv_of_nonneg af,<- Int.natCast_ediv,e1]
    have hwr:(B:Int).tmod (sz:Int)=0:=by rw[Int.tmod_eq_emod_of_nonneg af,<- Int.natCast_emod,e2];rfl
    have RH:(B:Int)%(sz:Int)=0:=by rw[<- Int.natCast_emod,e2];rfl
    have hwa:IntKind.i64.wrap ((T:Int)+(m:Int))=(N:Int):=by rw[aw af af];omega
    have hB0:¬(B:Int)=0:=by omega
    have hz0:¬(sz:Int)=0:=by omega
    have hP0:¬(P:Int)=0:=by omega
    have JV:=ae X6;have adV:Hid (IntKind.i64.wrap (m:Int)=(m:Int)):=ae (aw af af);have Ot:=ae hwq;have ZU:=ae hwm;have aiJ:=ae hwd;have ZV:=ae hwr;have RI:=ae RH;have ZW:=ae hwa;clear hPP ZT hpe hTT X6 f1 f2 f3 f6 e1 e2 hwq hwm hwd hwr RH hwa;go_enter func59,ntmps59;go_wp2;refine wq w ?_;iterate 3 (refine qz ?_)
    refine qz ?_ (fun w' hw'=>by have hc:=(HST.out.below hw').cells.1;unfold ptrTo at hc;go_simp<;>rfl);iterate 3 (refine qz ?_)
    refine qz ?_ (fun w' hw'=>by have hc:=(HST.out.below hw').cells.2.1;go_simp<;>rfl);refine qw (fun w' hw'=>(aM.out w' hw').mono (fun e w'' h=>⟨h.1,hw'.trans (h.2.mono hw'.size)⟩)) ?_;iterate 5 (refine qz ?_)
    refine wpQuiet_nil ?_;intro w1 rz;have cO:=ae rz;have Cv:=ae (HST.out.below rz);clear rz;go_wp2;refine cE (Below w1.heap.size w1) 10 rfl ah ah (ak.drew) ?_;simp only[List.take_succ_cons,List.take_zero];iterate 3 (refine qz ?_)
    refine qz ?_ (fun w' hw'=>by have hc:=(Cv.out.below hw').cells.1;unfold ptrTo at hc;go_simp<;>rfl);iterate 3 (refine qz ?_)
    refine qz ?_ (fun w' hw'=>by have hc:=(Cv.out.below hw').cells.2.1;go_simp<;>rfl);refine qz ?_;refine qz ?_ (fun w' hw'=>by have hx:=Ot.out;go_simp<;>rfl);refine wpQuiet_nil ?_;intro w2 hw2;refine⟨_,_,rfl,(by go_simp<;>exact⟨rfl,rfl⟩),?_⟩;have cY:Hid (Below w.heap.size w w2):=ae (cO.out.trans (hw2.mono cO.out.size));refine(KF.out w2 cY.out).mono ?_;rintro e w3⟨v3,c3,d3,o3,rfl,Qc,yY,hg3,adW,DB,uC,Au⟩;have eH:Hid (Moved (fun _=>False) n pb db w o d w3 o3 d3 L):=ae ((Moved.aV H.out cY.out).trans (ju (S:=fun _=>False) Qc yY hg3 adW) (fun _ _ h=>h));have Cw:=ae DB;have uD:=ae (HST.out.moved eH.out HO.out (fun h=>h));clear hw2 Qc yY hg3 adW DB;by_cases hc3:c3=0
    ·subst hc3;obtain⟨iW,-⟩:=uC rfl;rw[JV.out]at iW;obtain⟨a3,k3,rfl⟩:=aA iW;clear uC Au iW;refine⟨_,rfl,?_⟩;go_simp;iterate 5 (refine qz ?_)
     refine wpQuiet_nil ?_;have hx:=ZV.out;have hx2:=RI.out;have hc:=uD.out.cells.2.2;go_wp2;clear hx hx2;refine wq w3 ?_;refine qz ?_;refine qz ?_ (fun w' hw'=>by have hx:=Ot.out;go_simp<;>rfl);refine qz ?_;refine qw (fun w' hw'=>(VI.out w' (uD.out.below hw')).mono (fun e w'' h=>⟨h.1,h.2▸hw'⟩)) ?_;refine qz ?_ (fun w' hw'=>by have hx:=ZU.out;go_simp<;>rfl);iterate 5 (refine qz ?_)
     refine qz ?_ (fun w' hw'=>by have hc:=(uD.out.below hw').cells.2.2;go_simp<;>rfl);refine qz ?_ (fun w' hw'=>by have hx:=aiJ.out;have hx2:=adV.out;go_simp<;>rfl);refine qz ?_ (fun w' hw'=>by have hx:=ZW.out;go_simp<;>rfl);iterate 2 (refine qz ?_)
     refine wpQuiet_nil ?_;intro w4 hw4;go_wp2;go_ret2;exact⟨0,d3,o3,⟨N,rfl,fun _=>rfl⟩,eH.out.below hw4,.inl rfl⟩
    ·obtain rfl:=Au hc3;have KG:¬(c3:Int)=0:=by omega
     have JW:=ae hc3;clear hc3 uC Au;refine⟨_,rfl,?_⟩;go_simp;iterate 5 (refine qz ?_)
     refine wpQuiet_nil ?_;go_wp2;go_ret2;exact⟨c3,d3,o3,⟨0,rfl,fun h=>absurd h JW.out⟩,eH.out,Cw.out⟩
end
end
section
open Go.RowKit Go.Maps Go.MapKept
section
variable {S:Nat->Prop} {w w':World} {sb pb db n sz:Nat} {name:Name} {o o':au} {d d':Dsk} {L L':aH}
theorem DC{rs:List Rec}(hs:gK sz rs)(h1:1<=sz)(h2:sz<=240){i:Nat}(hi:i<rs.length) :
 ∃b:Pg,(bC (eO sz) rs)[i/eO sz]? = some b/\b.length%sz=0/\sz*(i%eO sz)+sz<=b.length/\(b.drop (sz*(i%eO sz))).take sz=rs[i]/\b.length<=240:=by
 have hp:=rD h1 h2;obtain⟨g1,g2,g3⟩:=Rb hs hp hi;refine⟨_,by rw[ja hp,if_pos g1],?_,g3,g2,?_⟩
 ·rw[qH hs];exact Nat.mul_mod_right _ _
 ·rw[qH hs];exact Nat.le_trans (Nat.mul_le_mul_left sz (Nat.min_le_left _ _)) (uj sz)
def ZX(n pb db:Nat)(w:World)(o:au)(d:Dsk)(L:aH)(b:Pg)(k a:Nat)(e:Ending)(w':World):Prop:=
 ∃v c d' o',e=.returned (.tuple #[v,.int .i64 ((if c=0 then k else 0:Nat):Int),.int .i64 ((if c=0 then a else 0:Nat):Int),.int .i64 ((c:Nat):Int)])/\Moved (fun _=>False) n pb db w o d w' o' d' L/\(c=0\/lK d d' L c) /\
  (c=0->w'.ownsRow w.heap.size 5 1 v b.length (b.map bv)/\∀x,v.ownBlock=some x->o' x=none)
theorem Cx(HW:aP)(h:aR w pb db n o d L)(hst:aF w sb pb name sz)(ho:o sb=none)(h1:1<=sz)(h2:sz<=240){rs:List Rec}{fl:Bool}(hL:aB L name=some (.inl (bC (eO sz) rs,fl)))(hs:gK sz rs){i:Nat}(hi:i<rs.length){b:Pg}(hb:(bC (eO sz) rs)[i/eO sz]? = some b) :
 Calls prog 90 #[ptrTo sb,.int .i64 (i:Int)] w (ZX n pb db w o d L b (i/eO sz) (sz*(i%eO sz))):=by
 obtain⟨jq,Ar⟩:=h.dI hL;have aM:Hid (∀W,Below w.heap.size w W->Calls prog 92 #[ptrTo pb,.string name] W fun e w'=>e=.returned (.tuple #[.int .i64 ((eA d (bC (eO sz) rs)).1:Int),.int .i64 ((eA d (bC (eO sz) rs)).2:Int)])/\Below W.heap.size W w'):=ae (fun W hW=>kU (h.below hW) hL);have mX:Hid (∀W,Below w.heap.size w W->Calls prog 93 #[ptrTo pb,.string name,.int .i64 ((i/eO sz:Nat):Int)] W (gW W pb db n o d L b)):=ae (fun W hW=>pG HW (h.below hW) hL hb);have H:=ae h;have HST:=ae hst;have HO:=ae ho;obtain⟨b',hb',f1,f2,-,f4⟩:=DC hs h1 h2 hi;obtain rfl:b'=b:=by rw[hb]at hb';exact(Option.some.inj hb').symm
 have VI:=ae (fun W(hW:aF W sb pb name sz)=>sy hW h1 h2);have mH:=uj sz;have zU:=rD h1 h2;have adS:eO sz<=240:=Nat.div_le_self _ _;have UM:=hst.lt;have hkP:=aN hb;have hN':rs.length<=16777216:=by
  have h3:rs.length<=eO sz*(bC (eO sz) rs).length:=by
   rw[dV];exact Nat.le_of_not_lt (fun h=>Nat.lt_irrefl _ ((fp zU).2 h))
  have h4:eO sz<=240:=Nat.div_le_self _ _;have:=Nat.mul_le_mul h4 jq;omega
 have P0:i/eO sz<=i:=Nat.div_le_self _ _;have hr1:i%eO sz<eO sz:=Nat.mod_lt _ af;have hr2:sz*(i%eO sz)<=240:=Nat.le_trans (Nat.mul_le_mul_left sz (Nat.le_of_lt hr1)) mH;have hwk:(i:Int).tdiv (eO sz:Int)=((i/eO sz:Nat):Int):=by rw[Int.tdiv_eq_ediv_of_nonneg af,Int.natCast_ediv]
 have hwm:(i:Int).tmod (eO sz:Int)=((i%eO sz:Nat):Int):=by rw[Int.tmod_eq_emod_of_nonneg af,Int.natCast_emod]
 have hwa:IntKind.i64.wrap (((i%eO sz:Nat):Int)*(sz:Int))=((sz*(i%eO sz):Nat):Int):=by rw[<- Int.natCast_mul,Nat.mul_comm];exact aw af af
 have hwr:(b'.length:Int).tmod (sz:Int)=0:=by rw[Int.tmod_eq_emod_of_nonneg af,<- Int.natCast_emod,f1];rfl
 have RH:(b'.length:Int)%(sz:Int)=0:=by rw[<- Int.natCast_emod,f1];rfl
 clear h hst ho hL hs Ar hb hb' f1;unfold ptrTo at *;unfold eA at aM;generalize X6:b'.length=B at *;have JV:=ae X6;clear X6;generalize (bC (eO sz) rs).length=P at *;generalize i/eO sz=k at *;generalize i%eO sz=r at *;generalize eO sz=p at *;obtain⟨a,ha⟩:∃a,a=sz*r:=⟨_,rfl⟩;rw[<- ha]at hr2 f2 hwa ⊢;have aiK:=ae hwk;have ZU:=ae hwm;have ZW:=ae hwa;have ZV:=ae hwr;have RI:=ae RH;have apm:i<16777216:=by omega
 clear hwk hwm hwa hwr RH ha hi hN';have tK:¬((i:Int)<0):=by omega
 have apn:¬((k:Int) >= (P:Int)):=by omega
 have haB:¬((a:Int) >= (B:Int)):=by omega
 have hz0:¬(sz:Int)=0:=by omega
 have hpn:¬p=0:=by omega
 have aiL:Hid (IntKind.i64.wrap (k:Int)=(k:Int)):=ae (aw af af);have aiM:Hid (IntKind.i64.wrap (r:Int)=(r:Int)):=ae (aw af af);cases hd:d.dead with
 |true=>
   rw[hd,if_pos rfl]at aM;have HD:=ae hd;clear hd;dsimp only at aM;go_enter func90,ntmps90;go_wp2;refine wq w ?_;iterate 3 (refine qz ?_)
   refine qz ?_ (fun w' hw'=>by have hc:=(HST.out.below hw').cells.1;unfold ptrTo at hc;go_simp<;>rfl);iterate 3 (refine qz ?_)
   refine qz ?_ (fun w' hw'=>by have hc:=(HST.out.below hw').cells.2.1;go_simp<;>rfl);refine qw (fun w' hw'=>(aM.out w' hw').mono (fun e w'' h=>⟨h.1,hw'.trans (h.2.mono hw'.size)⟩)) ?_;iterate 5 (refine qz ?_)
   refine wpQuiet_nil ?_;intro w1 rz;have HB:=ae rz;clear rz;go_wp2;go_returns;exact⟨_,6,d,o,rfl,Moved.aV H.out HB.out,.inr (.inr ⟨rfl,HD.out⟩),fun h=>absurd h ag⟩
 |false=>
   rw[hd,if_neg ai]at aM;clear hd;dsimp only at aM;go_enter func90,ntmps90;go_wp2;refine wq w ?_;iterate 3 (refine qz ?_)
   refine qz ?_ (fun w' hw'=>by have hc:=(HST.out.below hw').cells.1;unfold ptrTo at hc;go_simp<;>rfl);iterate 3 (refine qz ?_)
   refine qz ?_ (fun w' hw'=>by have hc:=(HST.out.below hw').cells.2.1;go_simp<;>rfl);refine qw (fun w' hw'=>(aM.out w' hw').mono (fun e w'' h=>⟨h.1,hw'.trans (h.2.mono hw'.size)⟩)) ?_;iterate 5 (refine qz ?_)
   refine wpQuiet_nil ?_;intro w1 rz;have cO:=ae rz;have Cv:=ae (HST.out.below rz);clear rz;go_wp2;refine wq w1 ?_;iterate 2 (refine qz ?_)
   refine qw (fun w' hw'=>(VI.out w' (Cv.out.below hw')).mono (fun e w'' h=>⟨h.1,h.2▸hw'⟩)) ?_;refine qz ?_ (fun w' hw'=>by have hx:=aiK.out;have hx2:=hpn;have hx3:=aiL.out;go_simp<;>rfl);iterate 2 (refine qz ?_)
   refine qw (fun w' hw'=>(VI.out w' (Cv.out.below hw')).mono (fun e w'' h=>⟨h.1,h.2▸hw'⟩)) ?_;refine qz ?_ (fun w' hw'=>by have hx:=ZU.out;have hx2:=hpn;have hx3:=aiM.out;go_simp<;>rfl);iterate 3 (refine qz ?_)
   refine qz ?_ (fun w' hw'=>by have hc:=(Cv.out.below hw').cells.2.2;go_simp<;>rfl);refine qz ?_ (fun w' hw'=>by have hx:=ZW.out;go_simp<;>rfl);iterate 2 (refine qz ?_)
   refine wpQuiet_nil ?_;intro w2 hw2;have cY:Hid (Below w.heap.size w w2):=ae (cO.out.trans (hw2.mono cO.out.size));have nS:=ae (Cv.out.below hw2);clear hw2;go_wp2;refine cE (Below w2.heap.size w2) 9 rfl ah ah (ak.drew) ?_;simp only[List.take_succ_cons,List.take_zero];iterate 3 (refine qz ?_)
   refine qz ?_ (fun w' hw'=>by have hc:=(nS.out.below hw').cells.1;unfold ptrTo at hc;go_simp<;>rfl);iterate 3 (refine qz ?_)
   refine qz ?_ (fun w' hw'=>by have hc:=(nS.out.below hw').cells.2.1;go_simp<;>rfl);refine qz ?_;refine wpQuiet_nil ?_;intro w3 hw3;refine⟨_,_,rfl,(by go_simp<;>exact⟨rfl,rfl⟩),?_⟩;have jJ:Hid (Below w.heap.size w w3):=ae (cY.out.trans (hw3.mono cY.out.size));refine(mX.out w3 jJ.out).mono ?_;rintro e w4⟨v4,c4,d4,o4,rfl,po,tX,hg4,uz,yX,KH,Av⟩;have gC:Hid (Moved (fun _=>False) n pb db w o d w4 o4 d4 L):=ae ((Moved.aV H.out jJ.out).trans (ju (S:=fun _=>False) po tX hg4 uz) (fun _ _ h=>h));have Cs:=ae yX;have EO:=ae (HST.out.moved gC.out HO.out (fun h=>h));clear hw3 po tX hg4 uz yX;by_cases iz:c4=0
   ·subst iz;obtain⟨Em,F9⟩:=KH rfl;have HF4:=ae F9;rw[JV.out]at Em;obtain⟨a4,k4,rfl⟩:=aA Em;have UT:=ae Em;clear KH Av Em F9;refine⟨_,rfl,?_⟩;go_simp;iterate 5 (refine qz ?_)
    refine wpQuiet_nil ?_;have hx:=ZV.out;have hx2:=RI.out;have hc:=EO.out.cells.2.2;go_wp2;go_returns;exact⟨_,0,d4,o4,rfl,gC.out,.inl rfl,fun _=>⟨by rw[JV.out];exact aU UT.out jJ.out.size,HF4.out⟩⟩
   ·obtain rfl:=Av iz;have uA:¬(c4:Int)=0:=by omega
    have BV:=ae iz;clear iz KH Av;refine⟨_,rfl,?_⟩;go_simp;iterate 5 (refine qz ?_)
    refine wpQuiet_nil ?_;go_wp2;go_returns;exact⟨_,c4,d4,o4,by rw[if_neg BV.out,if_neg BV.out];rfl,gC.out,Cs.out,fun h=>absurd h BV.out⟩
def EP(n pb db:Nat)(w:World)(o:au)(d:Dsk)(L:aH)(r:Rec)(e:Ending)(w':World):Prop:=
 ∃v c d' o',e=.returned (.tuple #[v,.int .i64 ((c:Nat):Int)])/\Moved (fun _=>False) n pb db w o d w' o' d' L/\(c=0\/lK d d' L c) /\
  (c=0->w'.ownsRow w.heap.size 5 1 v r.length (r.map bv)/\∀x,v.ownBlock=some x->o' x=none)/\(c≠0->v=.slice none 0 0)
theorem Cy(w:World)(e:TypeId)(base:Nat)(hb:base<=w.heap.size):(w.alloc (.cells #[] e)).ownsRow base e 1 (.slice (some ⟨w.heap.size,0,none⟩) 0 0) 0 []:=
 ⟨rfl,.inr ⟨w.heap.size,0,#[],rfl,hb,heap_alloc_new w _,Nat.le_refl _,by unfold maxLen;omega,rfl,rfl⟩⟩
theorem ly(HW:aP)(h:aR w pb db n o d L)(hst:aF w sb pb name sz)(ho:o sb=none)(h1:1<=sz)(h2:sz<=240){rs:List Rec}{fl:Bool}(hL:aB L name=some (.inl (bC (eO sz) rs,fl)))(hs:gK sz rs){i:Nat}(hi:i<rs.length) :
 Calls prog 57 #[ptrTo sb,.int .i64 (i:Int)] w (EP n pb db w o d L rs[i]):=by
 obtain⟨b,hb,f1,f2,f3,f4⟩:=DC hs h1 h2 hi;have aM:=ae (Cx HW h hst ho h1 h2 hL hs hi hb);have JR:rs[i].length=sz:=hs _ (List.getElem_mem hi);have HST:=ae hst;have HO:=ae ho;generalize rs[i]=r at *;clear h hst ho hL hs hi hb f1;unfold ptrTo at *;generalize sz*(i%eO sz)=a at *;generalize i/eO sz=k at *;have HRL:=ae JR;have HF3:=ae f3;have hwx:IntKind.i64.wrap ((a:Int)+(sz:Int))=((a+sz:Nat):Int):=by rw[aw af af];omega
 clear JR f3 hwx;go_enter func57,ntmps57;go_wp2_with fail;refine aM.out.mono ?_;rintro e w1⟨v1,c1,d1,o1,rfl,ej,tM,uE⟩;have e9:=ae ej;have Dx:=ae tM;have Ou:=ae (HST.out.moved ej HO.out (fun h=>h));clear ej tM;by_cases hc1:c1=0
 ·subst hc1;obtain⟨lp,sY⟩:=uE rfl;rw[if_pos rfl,if_pos rfl];obtain⟨a1,k1,rfl⟩:=aA lp;have DF:=ae lp;have nN:=ae (fH lp);obtain⟨va,vc,Cz,ZO,hvm,XV⟩:=fH lp;cases Cz;unfold maxLen at hvm;obtain XV |⟨vb,adX,rfl,-⟩:=XV
  ·omega
  have hc:=Ou.out.cells.2.2;have adY:=Ou.out.lt;have hwx:IntKind.i64.wrap ((a:Int)+(sz:Int))=(a:Int)+(sz:Int):=aw af af;have aiN:Hid (Rd w1 (.slice (some ⟨vb,adX+a,none⟩) (a+sz-a) (k1-a)) r):=ae (by
   rw[Nat.add_sub_cancel_left];have:=nN.out.sub (i:=a) (k:=sz) af;rw[HF3.out]at this;simpa[bI]using this)
  have RJ:=ae sY;have UU:Hid (w.heap.size<=w1.heap.size):=ae e9.out.size;generalize X6:b.length=B at *;have JV:=ae X6;have haB:(a:Int)+(sz:Int)<=(B:Int):=by omega
  have hak:(a:Int)+(sz:Int)<=(k1:Int):=by omega
  have hka:¬k1=a:=by omega
  have aps:a<k1:=by omega
  clear uE lp sY X6;go_wp2_with (at_builtin;refine jS rfl _ _ 39 rfl w1.heap.size 5 Tryz.underlying39 ll _ 0 [] rfl (Cy w1 5 w1.heap.size (Nat.le_refl _)) (.slice (some ⟨vb,adX+a,none⟩) (a+sz-a) (k1-a)) r rfl (aiN.out.below aj) ?c1 ?c2 ?_);case c1=>rw[HRL.out];omega
  case c2=>simp
  intro v' w2 kD hg2 hw2;have qo:=ae kD;have eV:Hid (Moved (fun _=>False) n pb db w o d w2 o1 d1 L):=ae ((e9.out.alloc _).grown hg2 (fun k hk=>by
   cases hk;exact⟨e9.out.aY.fresh (Nat.le_refl _),.inr UU.out⟩))
  have RM:Hid (∀x,v'.ownBlock=some x->o1 x=none):=ae (fun x hx=>by
   rcases hw2 with e | e
   ·rw[e]at hx;cases hx;exact e9.out.aY.fresh (Nat.le_refl _)
   ·rw[e]at hx;cases hx;exact e9.out.aY.fresh ai)
  clear kD hg2 hw2;go_wp2;go_ret2;refine⟨v',0,d1,o1,rfl,eV.out,.inl rfl,fun _=>⟨?_,RM.out⟩,fun h=>absurd rfl h⟩;have:=aU qo.out UU.out;simpa using this
 ·have zS:¬(c1:Int)=0:=by omega
  have RN:=ae hc1;clear hc1 uE;go_wp2;go_ret2;exact⟨_,c1,d1,o1,rfl,e9.out,Dx.out,fun h=>absurd h RN.out,fun _=>rfl⟩
end
end
section
open Go.RowKit Go.Maps Go.MapKept
section
variable {S:Nat->Prop} {w w':World} {sb pb db n sz:Nat} {name:Name} {o o':au} {d d':Dsk} {L L':aH}
def Aw(w:World)(base:Nat)(v:Value)(b r:List UInt8)(e:Ending)(w':World):Prop:=
 ∃v',e=.returned v'/\w'.ownsRow base 5 1 v' (b.length+r.length) ((b++r).map bv)/\w.grownBy w' v.ownBlock/\(v'.ownBlock=v.ownBlock\/v'.ownBlock=some w.heap.size)
theorem KI{base bx:Nat}{v rv:Value}{b r:List UInt8}(hc:w.cell? ⟨bx,0,none⟩=some rv)(hr:Rd w rv r)(hown:w.ownsRow base 5 1 v b.length (b.map bv))(hb:base<=w.heap.size)(hl:b.length+r.length<=1073741824) :
 Calls prog 106 #[v,.pointer (some ⟨bx,0,none⟩)] w (Aw w base v b r):=by
 have HO:=ae hown;have HR:=ae hr;obtain⟨ra,rc,rfl,-⟩:=hr;obtain⟨va,vc,rfl⟩:=aA hown;clear hown;generalize JR:r.length=R at *;have HRL:=ae JR;clear JR;go_enter func106,ntmps106;go_wp2_with (at_builtin;refine jS rfl _ _ 39 rfl base 5 Tryz.underlying39 ll _ b.length _ rfl HO.out _ r rfl HR.out ?c1 ?c2 ?_);case c1=>have:=HRL.out;omega
 case c2=>exact hb
 intro v' w1 lp hg1 rz;have DF:=ae lp;have JT:=ae hg1;have Ov:=ae rz;clear lp hg1 rz;go_wp2;go_ret;refine⟨v',rfl,?_,JT.out,Ov.out⟩;rw[List.map_append];exact DF.out
def jv(S:Nat->Prop)(n pb db:Nat)(w:World)(o:au)(d:Dsk)(L L':aH)(e:Ending)(w':World):Prop:=
 ∃c d' o',e=.returned (.int .i64 ((c:Nat):Int))/\Moved S n pb db w o d w' o' d' (if c=0 then L' else L)/\(c=0\/lK d d' L c)
theorem Hr(HW:aP)(h:aR w pb db n o d L)(hst:aF w sb pb name sz)(ho:o sb=none){ps:List Pg}{fl:Bool}(hL:aB L name=some (.inl (ps,fl))){k:Nat}(hk:k<=ps.length)(Ce:k<65536){base bx:Nat}{v rv:Value}{b r:List UInt8}(hc:w.cell? ⟨bx,0,none⟩=some rv)(hr:Rd w rv r)(hown:w.ownsRow base 5 1 v b.length (b.map bv))(mG:∀x,v.ownBlock=some x->o x=none/\x≠sb)(hb:base<=w.heap.size)(hl:b.length+r.length<=240) :
 Calls prog 107 #[ptrTo sb,.int .i64 (k:Int),v,.func (.func 106) #[] #[.pointer (some ⟨bx,0,none⟩)]] w (jv (fun x=>v.ownBlock=some x) n pb db w o d L (aS L name (.inl (di ps k (b++r),false)))):=by
 have H:=ae h;have wN:=ae mG;have HHR:=ae hr;have wy:=ae hown;have hc':=ae hc;obtain⟨hc0,hc1,-⟩:=hst.cells;unfold ptrTo at hc0;have hwr:Hid (∀W o' ,aR W pb db n o' d L->∀v',W.ownsRow base 5 1 v' (b.length+r.length) ((b++r).map bv)->(∀x,v'.ownBlock=some x->o' x=none)->Calls prog 155 #[.pointer (some ⟨pb,0,none⟩),.string name,.int .i64 (k:Int),v'] W (nQ W pb db n o' d L (aS L name (.inl (di ps k (b++r),false))))):=
  ae (fun W o' hW v' hv mG=>Ct HW hW hL hk Ce (fH (by rw[List.length_append];exact hv)) (by rw[List.length_append];exact hl) mG)
 have HST:=ae hst;clear h mG hr hown hc hst hL hk;have aiO:Hid (∀n',Calls prog 106 #[v,.pointer (some ⟨bx,0,none⟩)] (w.drewN n') (Aw (w.drewN n') base v b r)):=ae (fun n'=>KI (w:=w.drewN n') hc'.out (HHR.out.drewN n') wy.out hb af);clear hl;have x7:Hid (∀w1 v1,(w.drewN 1).grownBy w1 v.ownBlock->(v1:Value).ownBlock=v.ownBlock\/v1.ownBlock=some (w.drewN 1).heap.size->(w1.cell? ⟨sb,0,none⟩=some (.pointer (some ⟨pb,0,none⟩))/\w1.cell? ⟨sb,1,none⟩=some (.string name))/\Moved (fun x=>v.ownBlock=some x) n pb db w o d w1 o d L/\∀x,v1.ownBlock=some x->o x=none):=ae (fun w1 v1 hg JP=>by
  have hm:Moved (fun x=>v.ownBlock=some x) n pb db w o d w1 o d L:=((Moved.refl _ H.out).drewN 1).grown hg (fun k hk=>⟨(wN.out k hk).1,.inl hk⟩);have hs1:aF w1 sb pb name sz:=HST.out.moved hm ho (fun e=>(wN.out sb e).2 rfl);refine⟨⟨hs1.cells.1,hs1.cells.2.1⟩,hm,fun x hx=>?_⟩;rcases JP with e | e
  ·rw[e]at hx;exact(wN.out x hx).1
  ·rw[e]at hx;cases hx;exact H.out.fresh (Nat.le_refl _))
 have ZY:Hid (∀w1 w2 d2 o2 L2,Moved (fun x=>v.ownBlock=some x) n pb db w o d w1 o d L->aR w2 pb db n o2 d2 L2->aG (o.In cM) w1 w2->cF w1.heap.size o o2->bR d d2->(w2.cell? ⟨sb,0,none⟩=some (.pointer (some ⟨pb,0,none⟩))/\w2.cell? ⟨sb,1,none⟩=some (.string name))/\Moved (fun x=>v.ownBlock=some x) n pb db w o d w2 o2 d2 L2):=ae (fun w1 w2 d2 o2 L2 hm hp ht hg zu=>by
  have cT:Moved (fun x=>v.ownBlock=some x) n pb db w o d w2 o2 d2 L2:=hm.trans (ju (S:=fun _=>False) hp ht hg zu) (fun _ _ h=>h.elim);have hs2:aF w2 sb pb name sz:=HST.out.moved cT ho (fun e=>(wN.out sb e).2 rfl);exact⟨⟨hs2.cells.1,hs2.cells.2.1⟩,cT⟩)
 unfold ptrTo;go_enter func107,ntmps107;go_wp2;go_region_held3 (fun w'=>w'.cell? ⟨sb,0,none⟩=some (.pointer (some ⟨pb,0,none⟩))/\w'.cell? ⟨sb,1,none⟩=some (.string name)) (first | exact⟨hc0,hc1⟩| exact q1 | exact q2)
  (first
    | (go_at_call 106;refine(aiO.out 1).mono ?_;rintro e w1⟨v1,rfl,lp,hg1,rz⟩;obtain⟨q1,ej,sY⟩:=x7.out w1 v1 hg1 rz)
    | (go_at_call 155;refine(hwr.out w1 o ej.aY v1 lp sY).mono ?_;rintro e w2⟨c2,d2,o2,rfl,ko,oJ,hg2,RO,qp⟩;obtain⟨q2,cT⟩:=ZY.out w1 w2 d2 o2 _ ej ko oJ hg2 RO))
 have eV:=ae cT;have Hs:=ae qp;clear cT qp ko oJ hg2 RO ej hg1 lp q1 q2;go_wp2;go_ret;exact⟨c2,d2,o2,rfl,eV.out,Hs.out⟩
theorem Ht{rs:List Rec}{r:Rec}(hs:gK sz rs)(h1:1<=sz)(h2:sz<=240) :
 (rs=[]->bC (eO sz) (rs++[r])=di (bC (eO sz) rs) 0 ([]++r)/\(bC (eO sz) rs).length=0) /\
 ∀q m b,(bC (eO sz) rs).length=q+1->(bC (eO sz) rs)[q]? = some b->b.length=sz*m->1<=m->m<=eO sz->q*eO sz+m=rs.length->b=(rs.drop (eO sz*q)).flatten ->
  (sz*m+sz<=240->bC (eO sz) (rs++[r])=di (bC (eO sz) rs) q (b++r))/\(¬sz*m+sz<=240->bC (eO sz) (rs++[r])=di (bC (eO sz) rs) (q+1) ([]++r)):=by
 have hp:=rD h1 h2;have Qx:=uj sz;have hpn:=Ra h1;refine⟨fun e=>?_,fun q m b g1 g2 g3 g4 g5 g6 g7=>⟨fun hr=>?_,fun hr=>?_⟩⟩
 ·subst e;have:=yg (rs:=[]) hp r (k:=0) ai;exact⟨this.1,this.2⟩
 ·have hm:m<eO sz:=by
   rcases Nat.lt_or_ge m (eO sz) with h | h
   ·exact h
   ·have:m=eO sz:=by omega
    subst this;rw[Nat.mul_succ]at hpn;omega
  rw[ED hp r (k:=q) (by rw[Nat.mul_comm];omega) (by rw[Nat.mul_comm];omega),g7,List.take_of_length_le (by rw[List.length_drop,Nat.mul_comm];omega)]
 ·have hm:m=eO sz:=by
   rcases Nat.lt_or_ge m (eO sz) with h | h
   ·have:=Nat.mul_le_mul_left sz (show m+1<=eO sz from h);rw[Nat.mul_succ]at this;omega
   ·omega
  have:=yg (rs:=rs) hp r (k:=q+1) (by rw[Nat.mul_succ,Nat.mul_comm];omega);exact this.1
theorem ku(HW:aP)(h:aR w pb db n o d L)(hst:aF w sb pb name sz)(ho:o sb=none)(h1:1<=sz)(h2:sz<=240){rs:List Rec}{fl:Bool}(hL:aB L name=some (.inl (bC (eO sz) rs,fl)))(hs:gK sz rs)(hN:rs.length<65535){rv:Value}{r:Rec}(hr:Rd w rv r)(JR:r.length=sz)(hro:∀x,rv.ownBlock=some x->o x=none) :
 Calls prog 72 #[ptrTo sb,rv] w (jv (fun _=>False) n pb db w o d L (aS L name (.inl (bC (eO sz) (rs++[r]),false)))):=by
 obtain⟨jq,Ar⟩:=h.dI hL;have aM:Hid (∀W,Below w.heap.size w W->Calls prog 92 #[ptrTo pb,.string name] W fun e w'=>e=.returned (.tuple #[.int .i64 ((eA d (bC (eO sz) rs)).1:Int),.int .i64 ((eA d (bC (eO sz) rs)).2:Int)])/\Below W.heap.size W w'):=ae (fun W hW=>kU (h.below hW) hL);have mX:Hid (∀W,Below w.heap.size w W->∀(k:Nat)(b:Pg),(bC (eO sz) rs)[k]? = some b->Calls prog 93 #[ptrTo pb,.string name,.int .i64 (k:Int)] W (gW W pb db n o d L b)):=ae (fun W hW k b hk=>pG HW (h.below hW) hL hk);have hturn:Hid (∀W o' d',aR W pb db n o' d' L->aF W sb pb name sz->o' sb=none->∀bx,W.cell? ⟨bx,0,none⟩=some rv->Rd W rv r->∀(k base:Nat)(v:Value)(b:Pg),k<=(bC (eO sz) rs).length->k<65536->W.ownsRow base 5 1 v b.length (b.map bv)->(∀x,v.ownBlock=some x->o' x=none/\x≠sb)->base<=W.heap.size->b.length+r.length<=240 ->
  Calls prog 107 #[ptrTo sb,.int .i64 (k:Int),v,.func (.func 106) #[] #[.pointer (some ⟨bx,0,none⟩)]] W (jv (fun x=>v.ownBlock=some x) n pb db W o' d' L (aS L name (.inl (di (bC (eO sz) rs) k (b++r),false))))):=
  ae (fun W o' d' hW ZZ jM bx hc MH k base v b h1 h2 h3 h4 h5 h6=>Hr HW hW ZZ jM hL h1 h2 hc MH h3 h4 h5 h6)
 have KJ:=ae (Ht (r:=r) hs h1 h2);have H:=ae h;have HST:=ae hst;have HO:=ae ho;have Hu:=ae hro;have Qh:=ae hr;have UM:=hst.lt;obtain⟨-,-,hc2⟩:=hst.cells;obtain⟨ra,rc,rfl,-⟩:=hr;have EN:=ae (fun hN=>Aq (rs:=rs) hs h1 h2 hN);have mH:=uj sz;rw[JR]at *;have hPN:(bC (eO sz) rs).length<=rs.length:=by
  rcases Nat.eq_zero_or_pos rs.length with hz | hp
  ·have:=List.eq_nil_of_length_eq_zero hz;rw[((KJ.out.1 this).2),hz];exact Nat.le_refl _
  ·obtain⟨q,m,b,f1,f2,f3,f4,f5,f6,f7⟩:=EN.out hp;have h3:=rD h1 h2;have h4:q<=q*eO sz:=Nat.le_mul_of_pos_right q h3;omega
 clear h hst ho hro hL hs Ar;unfold ptrTo at *;have Na:Hid (Below w.heap.size w (w.alloc (.cells #[.slice ra sz rc] 39))):=ae aj;have mM:Hid ((w.alloc (.cells #[.slice ra sz rc] 39)).cell? ⟨w.heap.size,0,none⟩=some (.slice ra sz rc)):=ae ai;have El:w.heap.size<(w.alloc (.cells #[.slice ra sz rc] 39)).heap.size:=by simp
 unfold eA at aM;cases hd:d.dead with
 |true=>
   rw[hd,if_pos rfl]at aM;have HD:=ae hd;clear hd;dsimp only at aM;go_enter func72,ntmps72;go_wp2;go_quiet (fail)
   go_wp2;have cO:Hid (Below w.heap.size w ((w.alloc (.cells #[.slice ra sz rc] 39)).drewN nq)):=ae (below_drewN Na.out _);generalize (w.alloc (.cells #[.slice ra sz rc] 39)).drewN nq=w1 at *;refine wq w1 ?_;iterate 3 (refine qz ?_)
   refine qz ?_ (fun w' hw'=>by have hc:=((HST.out.below cO.out).below hw').cells.1;unfold ptrTo at hc;go_simp<;>rfl);iterate 3 (refine qz ?_)
   refine qz ?_ (fun w' hw'=>by have hc:=((HST.out.below cO.out).below hw').cells.2.1;go_simp<;>rfl);refine qw (fun w' hw'=>(aM.out w' (cO.out.trans (hw'.mono cO.out.size))).mono (fun e w'' h=>⟨h.1,hw'.trans (h.2.mono hw'.size)⟩)) ?_;iterate 5 (refine qz ?_)
   refine wpQuiet_nil ?_;intro w2 hw2;have cY:Hid (Below w.heap.size w w2):=ae (cO.out.trans (hw2.mono cO.out.size));clear hw2;go_wp2;go_ret;exact⟨6,d,o,rfl,Moved.aV H.out cY.out,.inr (.inr ⟨rfl,HD.out⟩)⟩
 |false=>
   rw[hd,if_neg ai]at aM;clear hd;dsimp only at aM;rcases Nat.eq_zero_or_pos rs.length with hz | hNp
   ·have hnil:=List.eq_nil_of_length_eq_zero hz;obtain⟨ha1,ha2⟩:=KJ.out.1 hnil;rw[ha2]at aM;have HA1:=ae ha1;have HA2:=ae ha2;clear hz hnil ha1 ha2;go_enter func72,ntmps72;go_wp2;go_quiet (fail)
    go_wp2;have cO:Hid (Below w.heap.size w ((w.alloc (.cells #[.slice ra sz rc] 39)).drewN nq)):=ae (below_drewN Na.out _);have Z0:Hid (((w.alloc (.cells #[.slice ra sz rc] 39)).drewN nq).cell? ⟨w.heap.size,0,none⟩=some (.slice ra sz rc)):=ae mM.out;have RP:w.heap.size<((w.alloc (.cells #[.slice ra sz rc] 39)).drewN nq).heap.size:=El;generalize (w.alloc (.cells #[.slice ra sz rc] 39)).drewN nq=w1 at *;refine wq w1 ?_;iterate 3 (refine qz ?_)
    refine qz ?_ (fun w' hw'=>by have hc:=((HST.out.below cO.out).below hw').cells.1;unfold ptrTo at hc;go_simp<;>rfl);iterate 3 (refine qz ?_)
    refine qz ?_ (fun w' hw'=>by have hc:=((HST.out.below cO.out).below hw').cells.2.1;go_simp<;>rfl);refine qw (fun w' hw'=>(aM.out w' (cO.out.trans (hw'.mono cO.out.size))).mono (fun e w'' h=>⟨h.1,hw'.trans (h.2.mono hw'.size)⟩)) ?_;iterate 5 (refine qz ?_)
    refine wpQuiet_nil ?_;intro w2 hw2;have cY:Hid (Below w.heap.size w w2):=ae (cO.out.trans (hw2.mono cO.out.size));have Z1:Hid (w2.cell? ⟨w.heap.size,0,none⟩=some (.slice ra sz rc)):=ae (by rw[hw2.cell (p:=⟨w.heap.size,0,none⟩) RP];exact Z0.out);clear hw2;go_wp2_with fail;refine(hturn.out w2 o d (H.out.below cY.out) (HST.out.below cY.out) HO.out w.heap.size Z1.out (Qh.out.below cY.out) 0 0 (.slice none 0 0) [] (Nat.zero_le _) ag (ownsRow_nil _ _ _) (fun x hx=>by cases hx) (Nat.zero_le _) (by simp;omega)).mono ?_;rintro e w3⟨c3,d3,o3,rfl,eE,DB⟩;rw[<- HA1.out]at eE;have eH:=ae ((Moved.aV (S:=fun _=>False) H.out cY.out).trans eE (fun x _ e=>by cases e));have Cw:=ae DB;clear eE DB;go_wp2;go_ret;exact⟨c3,d3,o3,rfl,eH.out,Cw.out⟩
   ·obtain⟨q,m,b,f1,f2,f3,f4,f5,f6,f7⟩:=EN.out hNp;have KF:Hid (∀W,Below w.heap.size w W->Calls prog 93 #[.pointer (some ⟨pb,0,none⟩),.string name,.int .i64 (q:Int)] W (gW W pb db n o d L b)):=ae (fun W hW=>mX.out W hW q b f2);have nO:=ae (KJ.out.2 q m b f1 f2 f3 f4 f5 f6 f7);have hq:q<65535:=by omega
    have hm:sz*m<=240:=Nat.le_trans (Nat.mul_le_mul_left sz f5) mH;have RJ:=ae f1;have hwq:IntKind.i64.wrap (((q+1:Nat):Int)-1)=(q:Int):=by rw[aw af af];omega
    have Ot:=ae hwq;rw[f1]at aM;obtain⟨P,hP⟩:∃P,P=q+1:=⟨_,rfl⟩;rw[<- hP]at aM Ot;have HP:=ae hP;have hPb:P<=65535:=by omega
    have hP0:(P:Int)>0:=by omega
    have hBb:b.length<=240:=by omega
    have Gf:=ae f3;clear f1 f2 f3 f4 f6 f7 hwq hP mX;go_enter func72,ntmps72;go_wp2;go_quiet (fail)
    go_wp2;have cO:Hid (Below w.heap.size w ((w.alloc (.cells #[.slice ra sz rc] 39)).drewN nq)):=ae (below_drewN Na.out _);have Z0:Hid (((w.alloc (.cells #[.slice ra sz rc] 39)).drewN nq).cell? ⟨w.heap.size,0,none⟩=some (.slice ra sz rc)):=ae mM.out;have RP:w.heap.size<((w.alloc (.cells #[.slice ra sz rc] 39)).drewN nq).heap.size:=El;generalize (w.alloc (.cells #[.slice ra sz rc] 39)).drewN nq=w1 at *;refine wq w1 ?_;iterate 3 (refine qz ?_)
    refine qz ?_ (fun w' hw'=>by have hc:=((HST.out.below cO.out).below hw').cells.1;unfold ptrTo at hc;go_simp<;>rfl);iterate 3 (refine qz ?_)
    refine qz ?_ (fun w' hw'=>by have hc:=((HST.out.below cO.out).below hw').cells.2.1;go_simp<;>rfl);refine qw (fun w' hw'=>(aM.out w' (cO.out.trans (hw'.mono cO.out.size))).mono (fun e w'' h=>⟨h.1,hw'.trans (h.2.mono hw'.size)⟩)) ?_;iterate 5 (refine qz ?_)
    refine wpQuiet_nil ?_;intro w2 hw2;have cY:Hid (Below w.heap.size w w2):=ae (cO.out.trans (hw2.mono cO.out.size));have Z1:Hid (w2.cell? ⟨w.heap.size,0,none⟩=some (.slice ra sz rc)):=ae (by rw[hw2.cell (p:=⟨w.heap.size,0,none⟩) RP];exact Z0.out);have nS:=ae (HST.out.below cY.out);have VJ:w.heap.size<w2.heap.size:=Nat.lt_of_lt_of_le RP hw2.size;clear hw2 El RP;go_wp2;refine cE (Below w2.heap.size w2) 10 rfl ah ah (ak.drew) ?_;simp only[List.take_succ_cons,List.take_zero];iterate 3 (refine qz ?_)
    refine qz ?_ (fun w' hw'=>by have hc:=(nS.out.below hw').cells.1;unfold ptrTo at hc;go_simp<;>rfl);iterate 3 (refine qz ?_)
    refine qz ?_ (fun w' hw'=>by have hc:=(nS.out.below hw').cells.2.1;go_simp<;>rfl);refine qz ?_;refine qz ?_ (fun w' hw'=>by have hx:=Ot.out;go_simp<;>rfl);refine wpQuiet_nil ?_;intro w3 hw3;refine⟨_,_,rfl,(by go_simp<;>exact⟨rfl,rfl⟩),?_⟩;have jJ:Hid (Below w.heap.size w w3):=ae (cY.out.trans (hw3.mono cY.out.size));have aiP:Hid (w3.cell? ⟨w.heap.size,0,none⟩=some (.slice ra sz rc)):=ae (by rw[hw3.cell (p:=⟨w.heap.size,0,none⟩) VJ];exact Z1.out);refine(KF.out w3 jJ.out).mono ?_;rintro e w4⟨v4,c4,d4,o4,rfl,po,tX,hg4,uz,yX,KH,Av⟩;have Z2:Moved (fun _=>False) n pb db w3 o d w4 o4 d4 L:=ju (S:=fun _=>False) po tX hg4 uz;have gC:Hid (Moved (fun _=>False) n pb db w o d w4 o4 d4 L):=ae ((Moved.aV H.out jJ.out).trans Z2 (fun _ _ h=>h));have Cs:=ae yX;have uF:=ae (HST.out.moved gC.out HO.out (fun h=>h));have UT:Hid (o4 sb=none):=ae (gC.out.free UM HO.out);have Hv:Hid (w4.cell? ⟨w.heap.size,0,none⟩=some (.slice ra sz rc)):=ae (Z2.cell aiP.out (H.out.fresh (Nat.le_refl _)) (fun h=>h));have MR:Hid (Rd w4 (.slice ra sz rc) r):=ae (gC.out.rd Qh.out (fun x hx=>⟨Hu.out x hx,fun h=>h⟩));have pq:w.heap.size<=w3.heap.size:=jJ.out.size;clear hw3 po tX hg4 uz yX Z2;by_cases iz:c4=0
    ·subst iz;obtain⟨Em,F9⟩:=KH rfl;obtain⟨a4,k4,rfl⟩:=aA Em;have aiQ:=ae (aU Em pq);have KD:Hid (∀x,(Value.slice a4 b.length k4).ownBlock=some x->o4 x=none/\x≠sb):=ae (fun x hx=>⟨F9 x hx,fun e=>by have:=aI Em x hx;omega⟩);have aiR:Hid (∀x,(Value.slice a4 b.length k4).ownBlock=some x->w.heap.size<=x):=ae (fun x hx=>by have:=aI Em x hx;omega);have hs5:w.heap.size<=w4.heap.size:=gC.out.size;clear KH Av Em F9;refine⟨_,rfl,?_⟩;go_simp;iterate 5 (refine qz ?_)
     refine wpQuiet_nil ?_;have BR:=uF.out.cells.2.2;have apv:=Ot.out;by_cases hroom:b.length+sz<=240
     ·have Z3:(b.length:Int)+(sz:Int)<=240:=by omega
      have BQ:=nO.out.1 (by have:=Gf.out;omega);have HL':=ae BQ;clear BQ;go_wp2_with fail;refine(hturn.out w4 o4 d4 gC.out.aY uF.out UT.out w.heap.size Hv.out MR.out q w.heap.size _ b (by have:=RJ.out;omega) af aiQ.out KD.out hs5 hroom).mono ?_;rintro e w5⟨c5,d5,o5,rfl,kP,Qg⟩;rw[<- HL'.out]at kP;have lL:=ae (gC.out.trans kP (fun x hx e=>by have:=aiR.out x e;omega));have Rx:=ae (Qg.imp id (lK.later gC.out.on.bO));clear kP Qg;go_wp2;go_ret;exact⟨c5,d5,o5,rfl,lL.out,Rx.out⟩
     ·have Z3:¬(b.length:Int)+(sz:Int)<=240:=by omega
      have BQ:=nO.out.2 (by have:=Gf.out;omega);have HL':=ae BQ;clear BQ;go_wp2_with fail;refine(hturn.out w4 o4 d4 gC.out.aY uF.out UT.out w.heap.size Hv.out MR.out P 0 (.slice none 0 0) [] (by have:=RJ.out;have:=HP.out;omega) af (ownsRow_nil _ _ _) (fun x hx=>by cases hx) (Nat.zero_le _) (by simp;omega)).mono ?_;rintro e w5⟨c5,d5,o5,rfl,kP,Qg⟩;rw[HP.out,<- HL'.out]at kP;have lL:=ae (gC.out.trans kP (fun x hx e=>by cases e));have Rx:=ae (Qg.imp id (lK.later gC.out.on.bO));clear kP Qg;go_wp2;go_ret;exact⟨c5,d5,o5,rfl,lL.out,Rx.out⟩
    ·obtain rfl:=Av iz;have uA:¬(c4:Int)=0:=by omega
     have BV:=ae iz;clear iz KH Av;refine⟨_,rfl,?_⟩;go_simp;iterate 5 (refine qz ?_)
     refine wpQuiet_nil ?_;go_wp2;go_ret;exact⟨c4,d4,o4,rfl,by rw[if_neg BV.out];exact gC.out,Cs.out⟩
end
end
section
open Go.RowKit
abbrev aD.cells(e:aD):List Value:=[.int .u32 (e.t.toNat:Int),.int .u32 (e.h.toNat:Int),.int .u64 (e.x.toNat:Int),.int .u32 (e.m.toNat:Int)]
def aD.bytes(e:aD):Rec:=vT e.t.toNat e.h.toNat e.x.toNat e.m.toNat
theorem aD.eF(e:aD):e.bytes.length=20:=by rfl
theorem aD.s6(e:aD):eZ (e.bytes.take 4)=e.t.toNat/\eZ ((e.bytes.drop 4).take 4)=e.h.toNat/\eZ ((e.bytes.drop 8).take 8)=e.x.toNat/\eZ ((e.bytes.drop 16).take 4)=e.m.toNat:=by
 have h1:=e.t.toNat_lt;have h2:=e.h.toNat_lt;have h3:=e.x.toNat_lt;have h4:=e.m.toNat_lt;have l4:∀x,(le x 4).length=4:=fun x=>b9 x 4;have l8:∀x,(le x 8).length=8:=fun x=>b9 x 8;have e1:e.bytes=le e.t.toNat 4++(le e.h.toNat 4++(le e.x.toNat 8++le e.m.toNat 4)):=by rfl
 have e2:e.bytes.drop 4=le e.h.toNat 4++(le e.x.toNat 8++le e.m.toNat 4):=by rfl
 have e3:e.bytes.drop 8=le e.x.toNat 8++le e.m.toNat 4:=by rfl
 have e4:e.bytes.drop 16=le e.m.toNat 4:=by rfl
 refine⟨?_,?_,?_,?_⟩
 ·grind [ji]
 ·grind [ji]
 ·grind [ji]
 grind [ji]
theorem yu(v:Value)(e:aD)(w:World)(hv:Rd w v e.bytes) :
 Calls prog 68 #[v] w (ML (.tuple #[.agg #[.int .u32 (e.t.toNat:Int),.int .u32 (e.h.toNat:Int),.int .u64 (e.x.toNat:Int),.int .u32 (e.m.toNat:Int)],.int .i64 0]) w):=by
 have h:=Eo v e.bytes w e.eF hv;grind [aD.s6]
theorem uG(e:aD)(w:World):Calls prog 208 #[.agg #[.int .u32 (e.t.toNat:Int),.int .u32 (e.h.toNat:Int),.int .u64 (e.x.toNat:Int),.int .u32 (e.m.toNat:Int)]] w (jk w e.bytes):=QA _ _ _ _ w
structure cj where
 r:UInt32
 l:UInt32
 g:UInt32
def cj.bytes(v:cj):Rec:=vS v.r.toNat v.l.toNat v.g.toNat
theorem cj.eF(v:cj):v.bytes.length=12:=by rfl
theorem cj.s6(v:cj):eZ (v.bytes.take 4)=v.r.toNat/\eZ ((v.bytes.drop 4).take 4)=v.l.toNat/\eZ ((v.bytes.drop 8).take 4)=v.g.toNat:=by
 have h1:=v.r.toNat_lt;have h2:=v.l.toNat_lt;have h3:=v.g.toNat_lt;have l4:∀x,(le x 4).length=4:=fun x=>b9 x 4;have e1:v.bytes=le v.r.toNat 4++(le v.l.toNat 4++le v.g.toNat 4):=by rfl
 have e2:v.bytes.drop 4=le v.l.toNat 4++le v.g.toNat 4:=by rfl
 have e3:v.bytes.drop 8=le v.g.toNat 4:=by rfl
 refine⟨?_,?_,?_⟩
 ·grind [ji]
 ·grind [ji]
 grind [ji]
theorem Hw(v:Value)(x:cj)(w:World)(hv:Rd w v x.bytes) :
 Calls prog 58 #[v] w (ML (.tuple #[.agg #[.int .u32 (x.r.toNat:Int),.int .u32 (x.l.toNat:Int),.int .u32 (x.g.toNat:Int)],.int .i64 0]) w):=by
 have h:=En v x.bytes w x.eF hv;grind [cj.s6]
theorem ER(x:cj)(w:World):Calls prog 78 #[.agg #[.int .u32 (x.r.toNat:Int),.int .u32 (x.l.toNat:Int),.int .u32 (x.g.toNat:Int)]] w (jk w x.bytes):=Qz _ _ _ w
def aQ(b:Bool)(x y:aD):Int:=if pk b x<pk b y then -1 else if pk b y<pk b x then 1 else if rk x<rk y then -1 else if rk y<rk x then 1 else 0
theorem Ax(b:Bool)(x y:aD):aQ b x y<0↔(pk b x<pk b y\/pk b x=pk b y/\rk x<rk y):=by
 unfold aQ;omega
theorem Ay(b:Bool)(x y:aD):¬aQ b y x<0↔dB b x y:=by
 rw[Ax];grind [dB]
theorem oM(b:Bool):Go.Sort.SWO (ltOf (aQ b)):=by
 have h:∀x y,ltOf (aQ b) x y=decide (pk b x<pk b y\/pk b x=pk b y/\rk x<rk y):=fun x y=>by
  grind [ltOf,Ax]
 refine⟨fun x=>?_,fun x y z h1 h2=>?_,fun x y z h1 h2=>?_⟩
 ·grind
 ·grind
 grind
def dY(w w':World):Prop:=∃q os,w'=Go.Sort.grow (w.drewN q) os
theorem dY.refl(w:World):dY w w:=⟨0,#[],by rfl⟩
theorem dY.trans{a b c:World}(h:dY a b)(k:dY b c):dY a c:=by
 obtain⟨q,os,rfl⟩:=h;obtain⟨q',os',rfl⟩:=k;exact⟨q+q',os++os',by grind [Go.Sort.grow,World.drewN]⟩
theorem dY.alloc{a b:World}(h:dY a b)(ob:Obj):dY a (b.alloc ob):=h.trans ⟨0,#[ob],by rfl⟩
theorem dY.drewN{a b:World}(h:dY a b)(n:Nat):dY a (b.drewN n):=h.trans ⟨n,#[],ai⟩
theorem dY.drew{a b:World}(h:dY a b):dY a b.drew:=h.trans ⟨1,#[],(Go.Sort.grow_empty _).symm⟩
theorem dY.below{a b:World}(h:dY a b):Below a.heap.size a b:=by
 obtain⟨q,os,rfl⟩:=h;exact⟨rfl,rfl,rfl,ai,fun k hk=>Go.Sort.heap_grow_old _ _ hk⟩
theorem dY.cell{a b:World}(h:dY a b){p:Addr}{v:Value}(hc:a.cell? p=some v):b.cell? p=some v:=by
 rw[h.below.cell (World.block_lt_of_cell? _ _ hc)];exact hc
def qi(a b:Nat):Int:=if a<b then -1 else if b<a then 1 else 0
theorem gL(a b:Nat):(a<b/\qi a b=-1)\/(b<a/\qi a b=1)\/(a=b/\qi a b=0):=by
 unfold qi;split
 ·exact .inl ⟨by assumption,rfl⟩
 ·split
  ·exact .inr (.inl ⟨by assumption,rfl⟩)
  ·exact .inr (.inr ⟨af,rfl⟩)
theorem wT(a b:Nat)(w:World):Calls prog 205 #[.int .u64 (a:Int),.int .u64 (b:Int)] w fun e w'=>e=.returned (.int .i64 (qi a b))/\w=w':=by
 rcases gL a b with⟨h1,h2⟩|⟨h1,h2⟩|⟨h1,h2⟩
 ·have H:=ae h2;clear h2;have g1:(a:Int)<(b:Int):=by omega
  go_enter func205,ntmps205;go_wp2;go_ret;exact⟨by rw[H.out];rfl,rfl⟩
 ·have H:=ae h2;clear h2;have g1:¬(a:Int)<(b:Int):=by omega
  have g2:(a:Int)>(b:Int):=by omega
  go_enter func205,ntmps205;go_wp2;go_ret;exact⟨by rw[H.out];rfl,rfl⟩
 ·subst h1;have H:=ae h2;clear h2;go_enter func205,ntmps205;go_wp2;go_ret;exact⟨by rw[H.out];rfl,rfl⟩
theorem wU(a b:Nat)(w:World):Calls prog 206 #[.int .u32 (a:Int),.int .u32 (b:Int)] w fun e w'=>e=.returned (.int .i64 (qi a b))/\w=w':=by
 rcases gL a b with⟨h1,h2⟩|⟨h1,h2⟩|⟨h1,h2⟩
 ·have H:=ae h2;clear h2;have g1:(a:Int)<(b:Int):=by omega
  go_enter func206,ntmps206;go_wp2;go_ret;exact⟨by rw[H.out];rfl,rfl⟩
 ·have H:=ae h2;clear h2;have g1:¬(a:Int)<(b:Int):=by omega
  have g2:(a:Int)>(b:Int):=by omega
  go_enter func206,ntmps206;go_wp2;go_ret;exact⟨by rw[H.out];rfl,rfl⟩
 ·subst h1;have H:=ae h2;clear h2;go_enter func206,ntmps206;go_wp2;go_ret;exact⟨by rw[H.out];rfl,rfl⟩
def nT(x y:Int):Int:=if x=0 then y else x
theorem Ow(x y:Int)(b:Nat)(w:World)(hx:w.cell? ⟨b,0,none⟩=some (.int .i64 x))(hy:w.cell? ⟨b,1,none⟩=some (.int .i64 y)) :
 Calls prog 293 #[.slice (some ⟨b,0,none⟩) 2 2] w fun e w'=>e=.returned (.int .i64 (nT x y))/\w=w':=by
 by_cases h1:x=0
 ·subst h1;by_cases h2:y=0
  ·subst h2;go_enter func293,ntmps293;go_wp2;refine wp_loop_rounds 3 ?_;iterate 3 (rw[rounds_succ];go_wp2)
   go_ret;exact⟨rfl,rfl⟩
  ·go_enter func293,ntmps293;go_wp2;refine wp_loop_rounds 2 ?_;iterate 2 (rw[rounds_succ];go_wp2)
   go_ret;exact⟨rfl,rfl⟩
 ·have H:=ae h1;go_enter func293,ntmps293;go_wp2;refine wp_loop_rounds 1 ?_;iterate 1 (rw[rounds_succ];go_wp2)
  go_ret;exact⟨by unfold nT;rw[if_neg H.out];rfl,rfl⟩
def mY(x y:aD):Bool:=decide (rk x<rk y)
theorem Ox(x y:aD):decide (nT (qi x.x.toNat y.x.toNat) (qi ((x.m.toNat+1)%4294967296) ((y.m.toNat+1)%4294967296))<0)=mY x y:=by
 have h1:=x.m.toNat_lt;have h2:=y.m.toNat_lt;unfold mY rk nT;rw[decide_eq_decide];rcases gL x.x.toNat y.x.toNat with⟨g1,g2⟩|⟨g1,g2⟩|⟨g1,g2⟩
 ·rw[g2,if_neg ag];omega
 ·rw[g2,if_neg ag];omega
 ·rw[g2,if_pos rfl];rcases gL ((x.m.toNat+1)%4294967296) ((y.m.toNat+1)%4294967296) with⟨k1,k2⟩|⟨k1,k2⟩|⟨k1,k2⟩<;>rw[k2]<;>omega
theorem Az(x y:aD)(w:World) :
 Calls prog 262 #[.agg #[.int .u32 (x.t.toNat:Int),.int .u32 (x.h.toNat:Int),.int .u64 (x.x.toNat:Int),.int .u32 (x.m.toNat:Int)],.agg #[.int .u32 (y.t.toNat:Int),.int .u32 (y.h.toNat:Int),.int .u64 (y.x.toNat:Int),.int .u32 (y.m.toNat:Int)]] w
  fun e w'=>e=.returned (.bool (mY x y))/\dY w w':=by
 have hf:=ae (Ox x y);have rz:IntKind.u32.wrap ((x.m.toNat:Int)+1)=(((x.m.toNat+1)%4294967296:Nat):Int):=by rw[IntKind.wrap_u32];omega
 have hw2:IntKind.u32.wrap ((y.m.toNat:Int)+1)=(((y.m.toNat+1)%4294967296:Nat):Int):=by rw[IntKind.wrap_u32];omega
 generalize x.t.toNat=xt at *;generalize x.h.toNat=xh at *;generalize x.x.toNat=xx at *;generalize x.m.toNat=xm at *;generalize y.t.toNat=yt at *;generalize y.h.toNat=yh at *;generalize y.x.toNat=yx at *;generalize y.m.toNat=ym at *;generalize (xm+1)%4294967296=Z4 at *;generalize (ym+1)%4294967296=Z5 at *;go_enter func262,ntmps262;have HG:Hid (dY w ((w.alloc (.cells #[.int .u32 (xt:Int),.int .u32 (xh:Int),.int .u64 (xx:Int),.int .u32 (xm:Int)] 64)).alloc (.cells #[.int .u32 (yt:Int),.int .u32 (yh:Int),.int .u64 (yx:Int),.int .u32 (ym:Int)] 64))):=ae (((dY.refl w).alloc _).alloc _);go_wp2;have k1:((w.alloc (.cells #[.int .u32 (xt:Int),.int .u32 (xh:Int),.int .u64 (xx:Int),.int .u32 (xm:Int)] 64)).alloc (.cells #[.int .u32 (yt:Int),.int .u32 (yh:Int),.int .u64 (yx:Int),.int .u32 (ym:Int)] 64)).cell? ⟨w.heap.size,2,none⟩=some (.int .u64 (xx:Int)):=by simp
 have k2:((w.alloc (.cells #[.int .u32 (xt:Int),.int .u32 (xh:Int),.int .u64 (xx:Int),.int .u32 (xm:Int)] 64)).alloc (.cells #[.int .u32 (yt:Int),.int .u32 (yh:Int),.int .u64 (yx:Int),.int .u32 (ym:Int)] 64)).cell? ⟨w.heap.size,3,none⟩=some (.int .u32 (xm:Int)):=by simp
 have k3:((w.alloc (.cells #[.int .u32 (xt:Int),.int .u32 (xh:Int),.int .u64 (xx:Int),.int .u32 (xm:Int)] 64)).alloc (.cells #[.int .u32 (yt:Int),.int .u32 (yh:Int),.int .u64 (yx:Int),.int .u32 (ym:Int)] 64)).cell? ⟨w.heap.size+1,2,none⟩=some (.int .u64 (yx:Int)):=by simp
 have k4:((w.alloc (.cells #[.int .u32 (xt:Int),.int .u32 (xh:Int),.int .u64 (xx:Int),.int .u32 (xm:Int)] 64)).alloc (.cells #[.int .u32 (yt:Int),.int .u32 (yh:Int),.int .u64 (yx:Int),.int .u32 (ym:Int)] 64)).cell? ⟨w.heap.size+1,3,none⟩=some (.int .u32 (ym:Int)):=by simp
 have K1:=ae k1;have K2:=ae k2;have K3:=ae k3;have K4:=ae k4;clear k1 k2 k3 k4;generalize ((w.alloc (.cells #[.int .u32 (xt:Int),.int .u32 (xh:Int),.int .u64 (xx:Int),.int .u32 (xm:Int)] 64)).alloc (.cells #[.int .u32 (yt:Int),.int .u32 (yh:Int),.int .u64 (yx:Int),.int .u32 (ym:Int)] 64))=W at *;refine cr (dY W) 12 ah ah (dY.refl W).drew ?_;simp only[List.take_succ_cons,List.take_zero,List.drop_succ_cons,List.drop_zero];refine qz ?_;refine qz ?_ (fun w' hw'=>by have hc:=hw'.cell K1.out;go_simp<;>rfl);refine qz ?_;refine qz ?_ (fun w' hw'=>by have hc:=hw'.cell K3.out;go_simp<;>rfl);refine qw (fun w' hw'=>(wT xx yx w').mono (fun e w'' h=>⟨h.1,h.2▸hw'⟩)) ?_;refine qz ?_;refine qz ?_ (fun w' hw'=>by have hc:=hw'.cell K2.out;go_simp<;>rfl);refine qz ?_ (fun w' hw'=>by have hx:=rz;go_simp<;>rfl);refine qz ?_;refine qz ?_ (fun w' hw'=>by have hc:=hw'.cell K4.out;go_simp<;>rfl);refine qz ?_ (fun w' hw'=>by have hx:=hw2;go_simp<;>rfl);refine qw (fun w' hw'=>(wU Z4 Z5 w').mono (fun e w'' h=>⟨h.1,h.2▸hw'⟩)) ?_;refine wpQuiet_nil ?_;intro w3 hw3;have zx:=ae hw3;clear hw3;go_wp2_with fail;refine(Ow (qi xx yx) (qi Z4 Z5) _ _ ai ai).mono ?_;rintro e w4⟨rfl,rfl⟩;go_wp2;go_ret;exact⟨by rw[<- hf.out];rfl,(HG.out.trans zx.out).alloc _⟩
def gj(b:Bool)(e:aD):Nat:=if b then e.h.toNat else e.t.toNat
def wW(b:Bool)(e:aD):Nat:=if b then e.t.toNat else e.h.toNat
theorem ES(b:Bool)(e:aD):pk b e=gj b e*4294967296+wW b e/\gj b e<4294967296/\wW b e<4294967296:=by
 have h1:=e.t.toNat_lt;have h2:=e.h.toNat_lt;unfold pk gj wW;cases b
 ·exact⟨rfl,h1,h2⟩
 ·exact⟨rfl,h2,h1⟩
def mh(b:Bool):Nat:=if b then 1 else 0
def uH(bf:Nat):Value:=.func (.func 115) #[] #[.pointer (some ⟨bf,0,none⟩)]
structure cU(w:World)(jb pb bf made:Nat)(b:Bool):Prop where
 head:∃t,w.heap[jb]? = some (.cells #[ptrTo pb,uH bf,.int .i64 (made:Int)] t)
 by':∃t,w.heap[bf]? = some (.cells #[.int .i64 (mh b:Int)] t)
theorem cU.cells{w:World}{jb pb bf made:Nat}{b:Bool}(h:cU w jb pb bf made b) :
 w.cell? ⟨jb,0,none⟩=some (ptrTo pb)/\w.cell? ⟨jb,1,none⟩=some (uH bf)/\w.cell? ⟨jb,2,none⟩=some (.int .i64 (made:Int))/\w.cell? ⟨bf,0,none⟩=some (.int .i64 (mh b:Int))/\w.frozen? ⟨jb,2,none⟩=false:=by
 obtain⟨⟨t,h1⟩,⟨t',h2⟩⟩:=h;refine⟨?_,?_,?_,?_,aO h1 _⟩
 ·rw[ar h1];rfl
 ·rw[ar h1];rfl
 ·rw[ar h1];rfl
 ·rw[ar h2];rfl
theorem cU.kept{w w':World}{jb pb bf made:Nat}{b:Bool}(h:cU w jb pb bf made b)(h1:w'.heap[jb]? = w.heap[jb]?)(h2:w'.heap[bf]? = w.heap[bf]?):cU w' jb pb bf made b:=by
 obtain⟨⟨t,g1⟩,⟨t',g2⟩⟩:=h;exact⟨⟨t,h1.trans g1⟩,⟨t',h2.trans g2⟩⟩
theorem cU.lt{w:World}{jb pb bf made:Nat}{b:Bool}(h:cU w jb pb bf made b):jb<w.heap.size/\bf<w.heap.size:=by
 obtain⟨⟨t,g1⟩,⟨t',g2⟩⟩:=h;exact⟨(Array.getElem?_eq_some_iff.1 g1).1,(Array.getElem?_eq_some_iff.1 g2).1⟩
theorem cU.below{w w':World}{jb pb bf made:Nat}{b:Bool}(h:cU w jb pb bf made b)(hb:Below w.heap.size w w'):cU w' jb pb bf made b:=h.kept (hb.block _ h.lt.1) (hb.block _ h.lt.2)
theorem Hx(b:Bool)(x:aD)(bf:Nat)(w:World)(hc:w.cell? ⟨bf,0,none⟩=some (.int .i64 (mh b:Int))) :
 Calls prog 115 #[.agg #[.int .u32 (x.t.toNat:Int),.int .u32 (x.h.toNat:Int),.int .u64 (x.x.toNat:Int),.int .u32 (x.m.toNat:Int)],.pointer (some ⟨bf,0,none⟩)] w
  fun e w'=>e=.returned (.tuple #[.int .u32 (gj b x:Int),.int .u32 (wW b x:Int)])/\dY w w':=by
 have hlt:=World.block_lt_of_cell? _ _ hc;dsimp only at hlt;unfold gj wW;cases b with
 |false=>
   have hc':w.cell? ⟨bf,0,none⟩=some (.int .i64 0):=hc;clear hc;go_enter func115,ntmps115;go_wp2;go_quiet (fail)
   go_wp2;go_ret2;exact⟨rfl,((dY.refl w).alloc _).drewN _⟩
 |true=>
   have hc':w.cell? ⟨bf,0,none⟩=some (.int .i64 1):=hc;clear hc;go_enter func115,ntmps115;go_wp2;go_quiet (fail)
   go_wp2;go_ret2;exact⟨rfl,((dY.refl w).alloc _).drewN _⟩
theorem rG(b:Bool)(w:World):Calls prog 261 #[.bool b] w fun e w'=>e=.returned (.int .i64 (if b=true then -1 else 1))/\w=w':=by
 cases b
 ·go_enter func261,ntmps261;go_wp2;go_ret;exact⟨rfl,rfl⟩
 ·go_enter func261,ntmps261;go_wp2;go_ret;exact⟨rfl,rfl⟩
theorem yv{w:World}{jb pb bf made:Nat}{b:Bool}(h:cU w jb pb bf made b)(x y:aD) :
 Calls prog 224 #[ptrTo jb,.agg #[.int .u32 (x.t.toNat:Int),.int .u32 (x.h.toNat:Int),.int .u64 (x.x.toNat:Int),.int .u32 (x.m.toNat:Int)],.agg #[.int .u32 (y.t.toNat:Int),.int .u32 (y.h.toNat:Int),.int .u64 (y.x.toNat:Int),.int .u32 (y.m.toNat:Int)]] w
  fun e w'=>e=.returned (.int .i64 (aQ b x y))/\dY w w':=by
 have H:=ae h;have hx:=ae (fun W hW=>Hx b x bf W hW);have hy:=ae (fun W hW=>Hx b y bf W hW);have adZ:=ae (fun W=>Az x y W);have ad0:=ae (fun W=>Az y x W);obtain⟨px,px1,px2⟩:=ES b x;obtain⟨py,py1,py2⟩:=ES b y;have yU:Hid (aQ b x y=if gj b x<gj b y then -1 else if gj b y<gj b x then 1 else if wW b x<wW b y then -1 else if wW b y<wW b x then 1 else if mY x y=true then -1 else if mY y x=true then 1 else 0):=ae (by
  unfold aQ mY;rw[px,py];simp only[decide_eq_true_eq];generalize gj b x=a1 at *;generalize wW b x=a2 at *;generalize gj b y=b1 at *;generalize wW b y=b2 at *;rcases Nat.lt_trichotomy a1 b1 with g | g | g
  ·rw[if_pos (show a1*4294967296+a2<b1*4294967296+b2 by omega),if_pos g]
  ·subst g;rcases Nat.lt_trichotomy a2 b2 with g | g | g
   ·rw[if_pos (show a1*4294967296+a2<a1*4294967296+b2 by omega),if_neg (Nat.lt_irrefl a1),if_neg (Nat.lt_irrefl a1),if_pos g]
   ·subst g;simp only[Nat.lt_irrefl,if_false]
   ·rw[if_neg (show ¬a1*4294967296+a2<a1*4294967296+b2 by omega),if_pos (show a1*4294967296+b2<a1*4294967296+a2 by omega),if_neg (Nat.lt_irrefl a1),if_neg (Nat.lt_irrefl a1),if_neg (show ¬a2<b2 by omega),if_pos g]
  ·rw[if_neg (show ¬a1*4294967296+a2<b1*4294967296+b2 by omega),if_pos (show b1*4294967296+b2<a1*4294967296+a2 by omega),if_neg (show ¬a1<b1 by omega),if_pos g])
 obtain⟨hc0,hc1,hc2,hc3,-⟩:=h.cells;obtain⟨lQ,hbl⟩:=h.lt;have RN:=ae hc1;have JW:=ae hc3;clear h px py hc0 hc1 hc2 hc3;unfold ptrTo;generalize aQ b x y=R at *;generalize gj b x=a1 at *;generalize wW b x=a2 at *;generalize gj b y=b1 at *;generalize wW b y=b2 at *;generalize mY x y=q1 at *;generalize mY y x=q2 at *;generalize x.t.toNat=xt at *;generalize x.h.toNat=xh at *;generalize x.x.toNat=xx at *;generalize x.m.toNat=xm at *;generalize y.t.toNat=yt at *;generalize y.h.toNat=yh at *;generalize y.x.toNat=yx at *;generalize y.m.toNat=ym at *;go_enter func224,ntmps224;have HG:Hid (dY w ((w.alloc (.cells #[.int .u32 (xt:Int),.int .u32 (xh:Int),.int .u64 (xx:Int),.int .u32 (xm:Int)] 64)).alloc (.cells #[.int .u32 (yt:Int),.int .u32 (yh:Int),.int .u64 (yx:Int),.int .u32 (ym:Int)] 64))):=ae (((dY.refl w).alloc _).alloc _);have KX:Hid (∀j v,(#[Value.int .u32 (xt:Int),.int .u32 (xh:Int),.int .u64 (xx:Int),.int .u32 (xm:Int)]:Array Value)[j]? = some v->((w.alloc (.cells #[.int .u32 (xt:Int),.int .u32 (xh:Int),.int .u64 (xx:Int),.int .u32 (xm:Int)] 64)).alloc (.cells #[.int .u32 (yt:Int),.int .u32 (yh:Int),.int .u64 (yx:Int),.int .u32 (ym:Int)] 64)).cell? ⟨w.heap.size,j,none⟩=some v):=ae (fun j v hv=>by simpa using hv);have KY:Hid (∀j v,(#[Value.int .u32 (yt:Int),.int .u32 (yh:Int),.int .u64 (yx:Int),.int .u32 (ym:Int)]:Array Value)[j]? = some v->((w.alloc (.cells #[.int .u32 (xt:Int),.int .u32 (xh:Int),.int .u64 (xx:Int),.int .u32 (xm:Int)] 64)).alloc (.cells #[.int .u32 (yt:Int),.int .u32 (yh:Int),.int .u64 (yx:Int),.int .u32 (ym:Int)] 64)).cell? ⟨w.heap.size+1,j,none⟩=some v):=ae (fun j v hv=>by simpa using hv);go_wp2;generalize ((w.alloc (.cells #[.int .u32 (xt:Int),.int .u32 (xh:Int),.int .u64 (xx:Int),.int .u32 (xm:Int)] 64)).alloc (.cells #[.int .u32 (yt:Int),.int .u32 (yh:Int),.int .u64 (yx:Int),.int .u32 (ym:Int)] 64))=W at *;have C1:Hid (W.cell? ⟨jb,1,none⟩=some (uH bf)):=ae (HG.out.cell RN.out);have C3:Hid (W.cell? ⟨bf,0,none⟩=some (.int .i64 (mh b:Int))):=ae (HG.out.cell JW.out);refine cP (dY W) ah ah (dY.refl W).drew ?_;iterate 3 (refine qz ?_)
 refine qz ?_ (fun w' hw'=>by have hc:=hw'.cell C1.out;unfold uH at hc;go_simp<;>rfl);refine qz ?_ (fun w' hw'=>by have e0:=hw'.cell (KX.out 0 _ rfl);have e1:=hw'.cell (KX.out 1 _ rfl);have e2:=hw'.cell (KX.out 2 _ rfl);have e3:=hw'.cell (KX.out 3 _ rfl);go_simp<;>rfl);refine qw (fun w' hw'=>(hx.out w' (hw'.cell C3.out)).mono (fun e w'' h=>⟨h.1,hw'.trans h.2⟩)) ?_;iterate 5 (refine qz ?_)
 refine wpQuiet_nil ?_;intro W1 hW1;have Ov:=ae hW1;clear hW1;go_wp2;refine cP (dY W1) ah ah (dY.refl W1).drew ?_;iterate 3 (refine qz ?_)
 refine qz ?_ (fun w' hw'=>by have hc:=hw'.cell (Ov.out.cell C1.out);unfold uH at hc;go_simp<;>rfl);refine qz ?_ (fun w' hw'=>by have e0:=hw'.cell (Ov.out.cell (KY.out 0 _ rfl));have e1:=hw'.cell (Ov.out.cell (KY.out 1 _ rfl));have e2:=hw'.cell (Ov.out.cell (KY.out 2 _ rfl));have e3:=hw'.cell (Ov.out.cell (KY.out 3 _ rfl));go_simp<;>rfl);refine qw (fun w' hw'=>(hy.out w' (hw'.cell (Ov.out.cell C3.out))).mono (fun e w'' h=>⟨h.1,hw'.trans h.2⟩)) ?_;iterate 5 (refine qz ?_)
 refine wpQuiet_nil ?_;intro W2 hW2;have RM:=ae (Ov.out.trans hW2);have uu:=ae (HG.out.trans RM.out);clear hW2;have e0:=RM.out.cell (KX.out 0 _ rfl);have e1:=RM.out.cell (KX.out 1 _ rfl);have e2:=RM.out.cell (KX.out 2 _ rfl);have e3:=RM.out.cell (KX.out 3 _ rfl);have f0:=RM.out.cell (KY.out 0 _ rfl);have f1:=RM.out.cell (KY.out 1 _ rfl);have f2:=RM.out.cell (KY.out 2 _ rfl);have f3:=RM.out.cell (KY.out 3 _ rfl);rcases Nat.lt_trichotomy a1 b1 with g | g | g
 ·have g':(a1:Int)<(b1:Int):=by omega
  have gn:¬(a1:Int)=(b1:Int):=by omega
  have hr:Hid (R=-1):=ae (by rw[yU.out,if_pos g]);go_wp2_with fail;refine(rG _ _).mono ?_;rintro e w'⟨rfl,rfl⟩;go_wp2;go_ret;exact⟨by rw[hr.out];rfl,uu.out⟩
 ·subst g;rcases Nat.lt_trichotomy a2 b2 with g | g | g
  ·have g':(a2:Int)<(b2:Int):=by omega
   have gn:¬(a2:Int)=(b2:Int):=by omega
   have hr:Hid (R=-1):=ae (by rw[yU.out,if_neg af,if_neg af,if_pos g]);go_wp2_with fail;refine(rG _ _).mono ?_;rintro e w'⟨rfl,rfl⟩;go_wp2;go_ret;exact⟨by rw[hr.out];rfl,uu.out⟩
  ·subst g;cases q1 with
   |true=>
     have hr:Hid (R=-1):=ae (by rw[yU.out,if_neg af,if_neg af,if_neg af,if_neg af,if_pos rfl]);go_wp2_with fail;refine(adZ.out _).mono ?_;rintro e w'⟨rfl,hw⟩;go_wp2;go_ret;exact⟨by rw[hr.out];rfl,uu.out.trans hw⟩
   |false=>
     go_wp2_with fail;refine(adZ.out _).mono ?_;rintro e W3⟨rfl,hw⟩;have zx:=ae hw;have e0:=hw.cell e0;have e1:=hw.cell e1;have e2:=hw.cell e2;have e3:=hw.cell e3;have f0:=hw.cell f0;have f1:=hw.cell f1;have f2:=hw.cell f2;have f3:=hw.cell f3;clear hw;cases q2 with
     |true=>
       have hr:Hid (R=1):=ae (by rw[yU.out,if_neg af,if_neg af,if_neg af,if_neg af,if_neg ag,if_pos rfl]);go_wp2_with fail;refine(ad0.out _).mono ?_;rintro e w'⟨rfl,hw⟩;go_wp2;go_ret;exact⟨by rw[hr.out];rfl,(uu.out.trans zx.out).trans hw⟩
     |false=>
       have hr:Hid (R=0):=ae (by rw[yU.out,if_neg af,if_neg af,if_neg af,if_neg af,if_neg ag,if_neg ag]);go_wp2_with fail;refine(ad0.out _).mono ?_;rintro e w'⟨rfl,hw⟩;go_wp2;go_ret;exact⟨by rw[hr.out];rfl,(uu.out.trans zx.out).trans hw⟩
  ·have g':¬(a2:Int)<(b2:Int):=by omega
   have gn:¬(a2:Int)=(b2:Int):=by omega
   have hr:Hid (R=1):=ae (by rw[yU.out,if_neg af,if_neg af,if_neg af,if_pos g]);go_wp2_with fail;refine(rG _ _).mono ?_;rintro e w'⟨rfl,rfl⟩;go_wp2;go_ret;exact⟨by rw[hr.out];rfl,uu.out⟩
 ·have g':¬(a1:Int)<(b1:Int):=by omega
  have gn:¬(a1:Int)=(b1:Int):=by omega
  have hr:Hid (R=1):=ae (by rw[yU.out,if_neg af,if_pos g]);go_wp2_with fail;refine(rG _ _).mono ?_;rintro e w'⟨rfl,rfl⟩;go_wp2;go_ret;exact⟨by rw[hr.out];rfl,uu.out⟩
end
section
open Go.RowKit
theorem yw:(prog.info? 9).map (fun i=>(i.zero,i.size,i.bytes))=some (some (.string ByteArray.empty),1,16):=by kernel_rfl
def bG(w:World)(v:Value)(ns:List Name):Prop:=
 ∃g off cap cur,v=.slice (some ⟨g,off,none⟩) ns.length cap/\w.heap[g]? = some (.cells cur 9 (0,0))/\off+cap<=cur.size/\cap<=maxLen/\ns.length<=cap/\∀j(h:j<ns.length),cur[off+j]? = some (.string ns[j])
section
variable {S:Nat->Prop} {w w':World} {v:Value} {ns:List Name}
theorem bG.kept(h:bG w v ns)(hb:∀b,v.ownBlock=some b->w'.heap[b]? = w.heap[b]?):bG w' v ns:=by
 obtain⟨g,off,cap,cur,rfl,hg,r⟩:=h;exact⟨g,off,cap,cur,rfl,(hb g rfl).trans hg,r⟩
theorem bG.lt(h:bG w v ns):∀b,v.ownBlock=some b->b<w.heap.size:=by
 obtain⟨g,off,cap,cur,rfl,hg,r⟩:=h;intro b hb;cases hb;grind
theorem bG.below(h:bG w v ns)(hb:Below w.heap.size w w'):bG w' v ns:=h.kept fun b hv=>hb.block b (h.lt b hv)
theorem bG.turn(h:bG w v ns)(ht:aG S w w')(hs:∀b,v.ownBlock=some b->¬S b):bG w' v ns:=h.kept fun b hv=>ht.block b (h.lt b hv) (hs b hv)
theorem bG.cells{g off cap len:Nat}(h:bG w (.slice (some ⟨g,off,none⟩) len cap) ns):len=ns.length/\len<=cap/\cap<=maxLen/\∀j(h:j<ns.length),w.cell? ⟨g,off+j,none⟩=some (.string ns[j]):=by
 obtain⟨g',off',cap',cur,he,hg,h1,h2,h3,h4⟩:=h;grind [ar]
theorem bG.shape(h:bG w v ns):∃g off cap,v=.slice (some ⟨g,off,none⟩) ns.length cap:=by
 obtain⟨g,off,cap,cur,rfl,_⟩:=h;simp
theorem bG.DG{base:Nat}(hr:w.ownsRow base 9 1 v ns.length (ns.map Value.string))(hn:ns≠[]):bG w v ns:=by
 obtain⟨hl,⟨h1,h2⟩|⟨g,cap,cur,rfl,hg,hh,hc,hm,hs,ht⟩⟩:=hr
 ·grind
 ·refine⟨g,0,cap,cur,rfl,hh,af,hm,hc,fun j hj=>?_⟩;have h3:(cur.toList.take (ns.length*1))[j]? = (ns.map Value.string)[j]? := by rw[ht]
  grind
theorem bG.take{g off cap len:Nat}(h:bG w (.slice (some ⟨g,off,none⟩) len cap) ns){n:Nat}(hn:n<=ns.length):bG w (.slice (some ⟨g,off,none⟩) n cap) (ns.take n):=by
 obtain⟨g',off',cap',cur,he,hg,h1,h2,h3,h4⟩:=h;cases he;have hl:(ns.take n).length=n:=by grind
 refine⟨g,off,cap,cur,by rw[hl],hg,h1,h2,af,fun j hj=>?_⟩;grind
theorem bG.drop{g off cap len:Nat}(h:bG w (.slice (some ⟨g,off,none⟩) len cap) ns){n:Nat}(hn:n<=ns.length):bG w (.slice (some ⟨g,off+n,none⟩) (len-n) (cap-n)) (ns.drop n):=by
 obtain⟨g',off',cap',cur,he,hg,h1,h2,h3,h4⟩:=h;cases he;have hl:(ns.drop n).length=ns.length-n:=List.length_drop ..;refine⟨g,off+n,cap-n,cur,by rw[hl],hg,af,af,af,fun j hj=>?_⟩;grind
theorem bG.VK{g off cap len:Nat}(h:bG w (.slice (some ⟨g,off,none⟩) len cap) ns)(hn:len=cap):bG w (.slice (some ⟨g,off,none⟩) 0 0) []:=by
 obtain⟨g',off',cap',cur,he,hg,h1,h2,h3,h4⟩:=h;cases he;exact⟨g,off,0,cur,rfl,hg,af,ai,Nat.le_refl _,fun j hj=>absurd hj (Nat.not_lt_zero _)⟩
def lz(w:World)(v:Value)(ns:List Name)(x:Name)(v':Value)(w':World):Prop:=
 bG w' v' (ns++[x])/\aG (fun b=>v.ownBlock=some b) w w'/\(v'.ownBlock=v.ownBlock\/v'.ownBlock=some w.heap.size)
theorem yZ(t ty:TypeId)(ht:prog.underlying t=some (.slice 9))(h:bG w v ns)(x:Name)(a:Addr)(c:Nat)(hx:w.cell? a=some (.string x))(hn:ns.length<=100000) :
 ∃v' w',(Builtin.append_ #[t,t] ty #[v,.slice (some a) 1 c]).run prog w=.ok v' w'/\lz w v ns x v' w':=by
 obtain⟨i0,hi,hz0,hz1,hz2⟩:=info_parts yw;obtain⟨g,off,cap,cur,rfl,hg,h1,h2,h3,h4⟩:=h;have hnews:∀j u,[Value.string x][j]? = some u->w.cell? (a.add j)=some u:=fun j u hj=>by
  grind [Addr.add]
 have pH:Src prog i0.size t (.slice (some a) 1 c) 1 [Value.string x] w:=Src.ofSlice w ht a 1 c _ (by grind) hnews (by simp[Value.oneCell']);by_cases hroom:ns.length+1<=cap
 ·have iA:off+ns.length<cur.size:=by omega
  have hr:=run_append_room_src (P:=prog) (w:=w) t t ty 9 i0 ht hi g off ns.length cap _ 1 [Value.string x] pH hroom (fun j hj=>by
   have:j=0:=by grind
   subst this;rw[hz1,ar hg,Nat.mul_one,Nat.add_zero,Array.getElem?_eq_getElem iA];rfl) (fun j hj=>aO hg _)
  refine⟨_,_,hr,⟨g,off,cap,cur.setIfInBounds (off+ns.length) (.string x),ai,?_,by grind,h2,by grind,fun j hj=>?_⟩,?_,.inl rfl⟩
  ·show(w.setCell _ _).heap[g]? = _;rw[hz1,Nat.mul_one];grind [aT]
  ·grind
  ·exact(aG.refl _ w).setCell _ _ (.inl rfl)
 ·have holds:∀j u,(ns.map Value.string)[j]? = some u->w.drew.cell? ((⟨g,off,none⟩:Addr).add j)=some u:=fun j u hj=>by
   rw[List.getElem?_map]at hj;by_cases lQ:j<ns.length
   ·rw[List.getElem?_eq_getElem lQ]at hj;cases hj;show w.cell? _=_;grind [bI,ar]
   grind
  have Cc:=run_firstCells_some (P:=prog) w.drew i0.size ns.length ⟨g,off,none⟩ ns.length cap (ns.map Value.string) (by grind) holds;have hr:=run_append_grow_src (P:=prog) (w:=w) t t ty 9 i0 (.string ByteArray.empty) ht hi hz0 (some ⟨g,off,none⟩) ns.length cap (ns.map Value.string) Cc _ 1 [Value.string x] pH af af (growslice_fits af (by grind));have yR:=grownCap_ge w (ns.length+1) cap 9;have hle:=grownCap_le_maxLen w (ns.length+1) cap 9 (by grind [maxLen]);refine⟨_,_,hr,⟨w.heap.size,0,grownCap w (ns.length+1) cap 9,_,ai,heap_alloc_new w.drew _,?_,hle,by grind,fun j hj=>?_⟩,(aG.refl _ w).drew.alloc _,.inr rfl⟩
  ·simp only[Array.size_append,List.size_toArray,List.length_append,List.length_map,List.length_singleton,size_zeroCells];show 0+_<=_+_*1;omega
  grind
theorem iP{ops:Array Oper}{rest:List Oper}{op:Oper}{a:Act}{Q:Exit->Act->World->Prop}(hgd:op.guard=none)(s y:Operand)(t:TypeId)(ho:op.op=.call { callee:=.builtin .append,args:=#[s,y],argTypes:=#[t,t] })(ht:prog.underlying t=some (.slice 9))(hv:a.eval s=v)(h:bG w v ns)(x:Name)(ad:Addr)(c:Nat)(hy:a.eval y=.slice (some ad) 1 c)(hx:w.cell? ad=some (.string x))(hn:ns.length<=100000)(k:∀v' w',lz w v ns x v' w'->wpList prog ops Q rest (a.put op.dst v') w'):wpList prog ops Q (op::rest) a w:=by
 refine wpList_plain hgd fun K hK=>?_;obtain⟨v',w',h1,h2⟩:=yZ t op.type ht h x ad c hx hn;unfold Oper.wp execOp;simp only[ho,resolve,invoke,builtin,Sem.run_bind,Sem.run_pure,Result.andThen_ok,List.map_toArray,List.map_cons,List.map_nil,hv,hy,h1];exact hK _ _ (k v' w' h2)
end
end
section
open Go.RowKit Go.Maps Go.MapKept
def ax(es:List aD)(fl:Bool):iB:=.inl (bC (eO 20) (es.map aD.bytes),fl)
theorem fw(es:List aD):gK 20 (es.map aD.bytes):=fun r hr=>by
 obtain⟨e,_,rfl⟩:=List.mem_map.1 hr;exact e.eF
def bD(w:World)(cb sb at' n:Nat)(e:aD):Prop:=∃t,w.heap[cb]? = some (.cells #[ptrTo sb,.int .i64 (at':Int),.int .i64 (n:Int),.int .u32 (e.t.toNat:Int),.int .u32 (e.h.toNat:Int),.int .u64 (e.x.toNat:Int),.int .u32 (e.m.toNat:Int)] t)
def dG(w:World)(kb sb:Nat)(last:aD)(any:Bool):Prop:=∃t,w.heap[kb]? = some (.cells #[ptrTo sb,.int .u32 (last.t.toNat:Int),.int .u32 (last.h.toNat:Int),.int .u64 (last.x.toNat:Int),.int .u32 (last.m.toNat:Int),.bool any] t)
section
variable {S:Nat->Prop} {w w':World} {pb db n cb kb sb:Nat} {name:Name} {o o':au} {d d':Dsk} {L L':aH}
theorem bD.kept{i N:Nat}{e:aD}(h:bD w cb sb i N e)(hb:w'.heap[cb]? = w.heap[cb]?):bD w' cb sb i N e:=by
 obtain⟨t,h⟩:=h;exact⟨t,hb.trans h⟩
theorem bD.lt{i N:Nat}{e:aD}(h:bD w cb sb i N e):cb<w.heap.size:=by
 obtain⟨t,h⟩:=h;exact(Array.getElem?_eq_some_iff.1 h).1
theorem bD.below{i N:Nat}{e:aD}(h:bD w cb sb i N e)(hb:Below w.heap.size w w'):bD w' cb sb i N e:=h.kept (hb.block _ h.lt)
theorem bD.cells{i N:Nat}{e:aD}(h:bD w cb sb i N e) :
 (w.cell? ⟨cb,0,none⟩=some (ptrTo sb)/\w.cell? ⟨cb,1,none⟩=some (.int .i64 (i:Int))/\w.cell? ⟨cb,2,none⟩=some (.int .i64 (N:Int))) /\
 (w.cell? ⟨cb,3,none⟩=some (.int .u32 (e.t.toNat:Int))/\w.cell? ⟨cb,4,none⟩=some (.int .u32 (e.h.toNat:Int))/\w.cell? ⟨cb,5,none⟩=some (.int .u64 (e.x.toNat:Int))/\w.cell? ⟨cb,6,none⟩=some (.int .u32 (e.m.toNat:Int))) /\
 ∀j,w.frozen? ⟨cb,j,none⟩=false:=by
 obtain⟨t,h⟩:=h;refine⟨⟨?_,?_,?_⟩,⟨?_,?_,?_,?_⟩,fun j=>aO h j⟩<;>rw[ar h]<;>rfl
theorem bD.VL{i N:Nat}{e e':aD}(h:bD w cb sb i N e) :
 bD ((((w.setCell ⟨cb,3,none⟩ (.int .u32 (e'.t.toNat:Int))).setCell ⟨cb,4,none⟩ (.int .u32 (e'.h.toNat:Int))).setCell ⟨cb,5,none⟩ (.int .u64 (e'.x.toNat:Int))).setCell ⟨cb,6,none⟩ (.int .u32 (e'.m.toNat:Int))) cb sb i N e':=by
 obtain⟨t,h⟩:=h;refine⟨t,?_⟩;have h2:=aT h 3 (.int .u32 (e'.t.toNat:Int));have h3:=aT h2 4 (.int .u32 (e'.h.toNat:Int));have h4:=aT h3 5 (.int .u64 (e'.x.toNat:Int));exact aT h4 6 (.int .u32 (e'.m.toNat:Int))
theorem bD.setAt{i N i':Nat}{e:aD}(h:bD w cb sb i N e):bD (w.setCell ⟨cb,1,none⟩ (.int .i64 (i':Int))) cb sb i' N e:=by
 obtain⟨t,h⟩:=h;exact⟨t,aT h 1 (.int .i64 (i':Int))⟩
theorem dG.kept{x:aD}{a:Bool}(h:dG w kb sb x a)(hb:w'.heap[kb]? = w.heap[kb]?):dG w' kb sb x a:=by
 obtain⟨t,h⟩:=h;exact⟨t,hb.trans h⟩
theorem dG.lt{x:aD}{a:Bool}(h:dG w kb sb x a):kb<w.heap.size:=by
 obtain⟨t,h⟩:=h;exact(Array.getElem?_eq_some_iff.1 h).1
theorem dG.below{x:aD}{a:Bool}(h:dG w kb sb x a)(hb:Below w.heap.size w w'):dG w' kb sb x a:=h.kept (hb.block _ h.lt)
theorem dG.cells{x:aD}{a:Bool}(h:dG w kb sb x a) :
 w.cell? ⟨kb,0,none⟩=some (ptrTo sb)/\w.cell? ⟨kb,1,none⟩=some (.int .u32 (x.t.toNat:Int))/\w.cell? ⟨kb,2,none⟩=some (.int .u32 (x.h.toNat:Int))/\w.cell? ⟨kb,3,none⟩=some (.int .u64 (x.x.toNat:Int))/\w.cell? ⟨kb,4,none⟩=some (.int .u32 (x.m.toNat:Int))/\w.cell? ⟨kb,5,none⟩=some (.bool a) /\
 ∀j,w.frozen? ⟨kb,j,none⟩=false:=by
 obtain⟨t,h⟩:=h;refine⟨?_,?_,?_,?_,?_,?_,fun j=>aO h j⟩<;>rw[ar h]<;>rfl
theorem dG.set{x y:aD}{a:Bool}(h:dG w kb sb x a) :
 dG (((((w.setCell ⟨kb,1,none⟩ (.int .u32 (y.t.toNat:Int))).setCell ⟨kb,2,none⟩ (.int .u32 (y.h.toNat:Int))).setCell ⟨kb,3,none⟩ (.int .u64 (y.x.toNat:Int))).setCell ⟨kb,4,none⟩ (.int .u32 (y.m.toNat:Int))).setCell ⟨kb,5,none⟩ (.bool true)) kb sb y true:=by
 obtain⟨t,h⟩:=h;refine⟨t,?_⟩;have h1:=aT h 1 (.int .u32 (y.t.toNat:Int));have h2:=aT h1 2 (.int .u32 (y.h.toNat:Int));have h3:=aT h2 3 (.int .u64 (y.x.toNat:Int));have h4:=aT h3 4 (.int .u32 (y.m.toNat:Int));exact aT h4 5 (.bool true)
def AA(n pb db:Nat)(w:World)(o:au)(d:Dsk)(L:aH)(cb sb i N:Nat)(x:aD)(e:Ending)(w':World):Prop:=
 ∃c d' o',e=.returned (.tuple #[.bool (c == 0),.int .i64 ((c:Nat):Int)])/\Moved (·=cb) n pb db w o d w' o' d' L/\(c=0\/lK d d' L c)/\(c=0->bD w' cb sb (i+1) N x)
theorem mj{i N:Nat}{x0:aD}(pH:bD w cb sb i N x0)(hi:N<=i) :
 Calls prog 221 #[ptrTo cb] w fun e w'=>e=.returned (.tuple #[.bool false,.int .i64 0])/\∃q,w'=w.drewN q:=by
 obtain⟨⟨hc0,hc1,hc2⟩,-,-⟩:=pH.cells;have yR:((i:Int) >= (N:Int)):=by omega
 clear pH hc0;unfold ptrTo;go_enter func221,ntmps221;go_wp2;go_quiet (fail)
 go_wp2;go_ret2;exact⟨rfl,_,rfl⟩
theorem sA(HW:aP)(h:aR w pb db n o d L)(hst:aF w sb pb name 20)(ho:o sb=none){i:Nat}{x0:aD}{es:List aD}{fl:Bool}(pH:bD w cb sb i es.length x0)(Oy:o cb=none)(hL:aB L name=some (ax es fl))(hi:i<es.length) :
 Calls prog 221 #[ptrTo cb] w (AA n pb db w o d L cb sb i es.length es[i]):=by
 have jq:=(h.dI hL).1;have hN:es.length<=16777216:=by
  rw[dV,List.length_map]at jq;have h3:es.length<=eO 20*cz (eO 20) es.length:=Nat.le_of_not_lt (fun h=>Nat.lt_irrefl _ ((fp ag).2 h));have ET:eO 20=12:=by decide
  rw[ET]at h3 jq;omega
 have ik:Hid (∀W,Below w.heap.size w W->Calls prog 57 #[ptrTo sb,.int .i64 (i:Int)] W (EP n pb db W o d L es[i].bytes)):=ae (fun W hW=>by
  have:=ly HW (h.below hW) (hst.below hW) ho ag ag hL (fw es) (i:=i) (by rw[List.length_map];exact hi);rw[List.getElem_map]at this;exact this)
 have H:=ae h;have HS:=ae pH;have X7:=ae Oy;have x9:=pH.lt;generalize es[i]=x at *;generalize es.length=N at *;have hlt:¬((i:Int) >= (N:Int)):=by omega
 obtain⟨⟨hc0,hc1,hc2⟩,-,-⟩:=pH.cells;have rz:IntKind.i64.wrap ((i:Int)+1)=(i:Int)+1:=aw af af;clear h hst ho pH Oy hL jq hi hN hc0;unfold ptrTo at *;go_enter func221,ntmps221;go_wp2;go_quiet (fail)
 have cO:Hid (Below w.heap.size w (w.drewN nq)):=ae (below_drewN ak _);have jg:Hid (bD (w.drewN nq) cb sb i N x0):=ae (HS.out.below cO.out);generalize w.drewN nq=w1 at *;clear hc1 hc2;go_wp2;refine cE (Below w1.heap.size w1) 8 rfl ah ah (ak.drew) ?_;simp only[List.take_succ_cons,List.take_zero];iterate 3 (refine qz ?_)
 refine qz ?_ (fun w' hw'=>by have hc:=(jg.out.below hw').cells.1.1;unfold ptrTo at hc;go_simp<;>rfl);iterate 3 (refine qz ?_)
 refine qz ?_ (fun w' hw'=>by have hc:=(jg.out.below hw').cells.1.2.1;go_simp<;>rfl);refine wpQuiet_nil ?_;intro w2 hw2;refine⟨_,_,rfl,(by go_simp<;>exact⟨rfl,rfl⟩),?_⟩;have cY:Hid (Below w.heap.size w w2):=ae (cO.out.trans (hw2.mono cO.out.size));refine(ik.out w2 cY.out).mono ?_;rintro e w3⟨v3,c3,d3,o3,rfl,eE,DB,uC,Au⟩;have eH:Hid (Moved (·=cb) n pb db w o d w3 o3 d3 L):=ae ((Moved.aV H.out cY.out).trans eE (fun _ _ h=>h.elim));have fF:Hid (bD w3 cb sb i N x0):=ae ((HS.out.below cY.out).kept (eE.block (Nat.lt_of_lt_of_le x9 cY.out.size) X7.out (fun h=>h)));have Cw:=ae DB;clear hw2 eE DB;by_cases hc3:c3=0
 ·subst hc3;obtain⟨iW,hf3⟩:=uC rfl;obtain⟨a3,k3,rfl⟩:=aA iW;have BS:=ae (fH iW);have mQ:=ae iW;have aiT:Hid (∀b,(Value.slice a3 x.bytes.length k3).ownBlock=some b->b≠cb):=ae (fun b hb e=>by
   have:=aI iW b hb;have:=cY.out.size;omega)
  clear uC Au iW hf3;refine⟨_,rfl,?_⟩;go_simp;iterate 5 (refine qz ?_)
  refine wpQuiet_nil ?_;obtain⟨⟨-,hc1,-⟩,-,JO⟩:=fF.out.cells;have hz1:=JO 1;have HRS:Hid (Rd (w3.setCell ⟨cb,1,none⟩ (.int .i64 ((i:Int)+1))) (.slice a3 x.bytes.length k3) x.bytes):=ae (((aG.refl (·=cb) w3).setCell ⟨cb,1,none⟩ _ (.inl rfl)).rd BS.out (fun b hb e=>aiT.out b hb e));have gD:Hid (bD (w3.setCell ⟨cb,1,none⟩ (.int .i64 ((i:Int)+1))) cb sb (i+1) N x0):=ae (by
   have:=fF.out.setAt (i':=i+1);rwa [show((i+1:Nat):Int)=(i:Int)+1 by omega]at this)
  have gC:Hid (Moved (·=cb) n pb db w o d (w3.setCell ⟨cb,1,none⟩ (.int .i64 ((i:Int)+1))) o3 d3 L):=ae (eH.out.setCell _ _ (eH.out.free x9 X7.out) (.inl rfl));clear JO;go_wp2_with fail;generalize w3.setCell ⟨cb,1,none⟩ (.int .i64 ((i:Int)+1))=w4 at *;refine(yu _ x _ HRS.out).mono ?_;rintro e w5⟨rfl,pj⟩;have b7:=ae (gD.out.below pj);have lL:=ae (gC.out.below pj);clear pj hc1 hz1;obtain⟨-,⟨k3',k4',k5',k6'⟩,JO⟩:=b7.out.cells;have hz3:=JO 3;have vF:=JO 4;have UL:=JO 5;have XL:=JO 6;clear JO;go_wp2;go_ret2;have VM:=eH.out.free x9 X7.out;exact⟨0,d3,o3,rfl,(((lL.out.setCell ⟨cb,3,none⟩ _ VM (.inl rfl)).setCell ⟨cb,4,none⟩ _ VM (.inl rfl)).setCell ⟨cb,5,none⟩ _ VM (.inl rfl)).setCell ⟨cb,6,none⟩ _ VM (.inl rfl),.inl rfl,fun _=>b7.out.VL⟩
 ·obtain rfl:=Au hc3;have KG:¬(c3:Int)=0:=by omega
  have JW:=ae hc3;clear hc3 uC Au;refine⟨_,rfl,?_⟩;go_simp;iterate 5 (refine qz ?_)
  refine wpQuiet_nil ?_;go_wp2;go_ret2;exact⟨c3,d3,o3,by rw[beq_false_of_ne JW.out];rfl,eH.out,Cw.out,fun h=>absurd h JW.out⟩
end
end
section
open Go.RowKit Go.Maps Go.MapKept
section
variable {S:Nat->Prop} {w w':World} {pb db n kb sb:Nat} {name:Name} {o o':au} {d d':Dsk} {L L':aH}
def fc(w:World)(kb sb:Nat)(out:List aD):Prop:=(out=[]/\∃x,dG w kb sb x false)\/∃x,out.getLast? = some x/\dG w kb sb x true
theorem fc.kept{out:List aD}(h:fc w kb sb out)(hb:w'.heap[kb]? = w.heap[kb]?):fc w' kb sb out:=
 h.imp (fun⟨h1,x,h2⟩=>⟨h1,x,h2.kept hb⟩) (fun⟨x,h1,h2⟩=>⟨x,h1,h2.kept hb⟩)
theorem fc.lt{out:List aD}(h:fc w kb sb out):kb<w.heap.size:=by
 rcases h with⟨_,x,h⟩|⟨x,_,h⟩
 ·exact h.lt
 ·exact h.lt
theorem fc.below{out:List aD}(h:fc w kb sb out)(hb:Below w.heap.size w w'):fc w' kb sb out:=h.kept (hb.block _ h.lt)
theorem CA{κ υ:Type}[DecidableEq κ]{m:List (κ×υ)}{k:κ}{v:υ}(h:aB m k=some v)(k':κ):aB (aS m k v) k'=aB m k':=by
 grind [ay]
theorem Moved.same(h:Moved S n pb db w o d w' o' d' L){f:iB}(hL:aB L name=some f):Moved S n pb db w o d w' o' d' (aS L name f):=
 h.congr (ct h.aY.keys) (fun x=>CA hL x)
def AB(n pb db:Nat)(w:World)(o:au)(d:Dsk)(L:aH)(name:Name)(kb sb:Nat)(out:List aD)(x:aD)(e:Ending)(w':World):Prop:=
 ∃c d' o',e=.returned (.int .i64 ((c:Nat):Int))/\Moved (·=kb) n pb db w o d w' o' d' (if c=0 then aS L name (ax (sZ out x) false) else L)/\(c=0\/lK d d' L c)/\(c=0->fc w' kb sb (sZ out x))
def qL(last:aD)(any:Bool)(x:aD):Bool:=decide (x.t=x.h) || (any && (decide (last.t=x.t) && decide (last.h=x.h)))
theorem AE{a b:UInt32}(h:¬a=b):¬((a.toNat:Int)=(b.toNat:Int))/\((a.toNat:Int) == (b.toNat:Int))=false/\¬a.toNat=b.toNat/\decide (a.toNat=b.toNat)=false/\decide ((a.toNat:Int)=(b.toNat:Int))=false:=by
 grind [UInt32.toNat_inj]
theorem RQ{last x:aD}{any:Bool}(hk:dG w kb sb last any)(hs:qL last any x=true) :
 Calls prog 225 #[ptrTo kb,.agg #[.int .u32 (x.t.toNat:Int),.int .u32 (x.h.toNat:Int),.int .u64 (x.x.toNat:Int),.int .u32 (x.m.toNat:Int)]] w fun e w'=>e=.returned (.int .i64 0)/\Below w.heap.size w w':=by
 obtain⟨hc0,hc1,hc2,hc3,iz,BR,-⟩:=hk.cells;have yS:=hk.lt;clear hk hc0 hc3 iz;unfold qL at hs;unfold ptrTo;by_cases h1:x.t=x.h
 ·rw[h1];clear hs h1 hc1 hc2 BR;go_enter func225,ntmps225;go_wp2;go_quiet (fail)
  go_wp2;go_ret;exact⟨rfl,below_drewN aj _⟩
 ·cases any with
  |false=>grind
  |true=>
    obtain⟨g1,g2,g3,g4,g5⟩:=AE h1;simp only[h1,decide_false,Bool.false_or,Bool.true_and,Bool.and_eq_true,decide_eq_true_eq]at hs;obtain⟨h2,h3⟩:=hs;rw[h2]at hc1;rw[h3]at hc2;clear h1 h2 h3;go_enter func225,ntmps225;go_wp2;go_quiet (fail)
    go_wp2;go_ret;exact⟨rfl,below_drewN aj _⟩
theorem KL{out:List aD}{last:aD}{any:Bool}{x:aD}(h:(out=[]/\any=false)\/(out.getLast? = some last/\any=true)):(qL last any x=true->sZ out x=out)/\(qL last any x=false->sZ out x=out++[x]):=by
 unfold qL;constructor
 ·intro hs;refine wD ?_;simp only[Bool.or_eq_true,Bool.and_eq_true,decide_eq_true_eq]at hs;rcases hs with hs |⟨h1,h2,h3⟩
  ·exact .inl hs
  ·rcases h with⟨_,h⟩|⟨h,_⟩
   ·grind
   ·exact .inr ⟨last,h,h2,h3⟩
 ·intro hs;refine Aa (fun hk=>?_);simp only[Bool.or_eq_false_iff,Bool.and_eq_false_iff,decide_eq_false_iff_not]at hs;rcases hk with hk |⟨y,hy,hs1,hs2⟩
  ·grind
  grind
theorem VN(HW:aP)(h:aR w pb db n o d L)(hst:aF w sb pb name 20)(ho:o sb=none)(fe:o kb=none)(hne:kb≠sb){out:List aD}(hL:aB L name=some (ax out false))(hN:out.length<65535){last x:aD}{any:Bool}(hk:dG w kb sb last any)(hs:qL last any x=false) :
 Calls prog 225 #[ptrTo kb,.agg #[.int .u32 (x.t.toNat:Int),.int .u32 (x.h.toNat:Int),.int .u64 (x.x.toNat:Int),.int .u32 (x.m.toNat:Int)]] w fun e w'=>
  ∃c d' o',e=.returned (.int .i64 ((c:Nat):Int))/\Moved (·=kb) n pb db w o d w' o' d' (if c=0 then aS L name (ax (out++[x]) false) else L)/\(c=0\/lK d d' L c)/\dG w' kb sb x true:=by
 have lq:Hid (∀W o' d',aR W pb db n o' d' L->aF W sb pb name 20->o' sb=none->∀rv,Rd W rv x.bytes->(∀b,rv.ownBlock=some b->o' b=none) ->
  Calls prog 72 #[ptrTo sb,rv] W (jv (fun _=>False) n pb db W o' d' L (aS L name (ax (out++[x]) false)))):=ae (fun W o' d' hW ZZ jM rv hr hro=>by
  have:=ku HW hW ZZ jM ag ag hL (fw out) (by grind) hr x.eF hro;grind [ax])
 have ad1:=ae (fun W=>uG x W);have H:=ae h;have HST:=ae hst;have HO:=ae ho;have P7:=ae fe;have HK:=ae hk;have s7:=ae hne;obtain⟨-,hc1,hc2,-,-,BR,-⟩:=hk.cells;have yS:=hk.lt;have Z6:Hid (∀W,dG W kb sb last any->dG (((((W.setCell ⟨kb,1,none⟩ (.int .u32 (x.t.toNat:Int))).setCell ⟨kb,2,none⟩ (.int .u32 (x.h.toNat:Int))).setCell ⟨kb,3,none⟩ (.int .u64 (x.x.toNat:Int))).setCell ⟨kb,4,none⟩ (.int .u32 (x.m.toNat:Int))).setCell ⟨kb,5,none⟩ (.bool true)) kb sb x true):=ae (fun W h=>h.set);clear h hst ho fe hk hne hL hN;unfold qL at hs;simp only[Bool.or_eq_false_iff,Bool.and_eq_false_iff,decide_eq_false_iff_not]at hs;obtain⟨hs1,hs2⟩:=hs;obtain⟨a1,a2,a3,a4,a5⟩:=AE hs1;clear hs1;have RR:any=false\/(any=true/\¬last.t=x.t)\/(any=true/\last.t=x.t/\¬last.h=x.h):=by
  grind
 clear hs2;unfold ptrTo at *;rcases RR with rfl |⟨rfl,g⟩|⟨rfl,g,g'⟩;case' inr.inl=>
  obtain⟨b1,b2,b3,b4,b5⟩:=AE g;clear g
 case' inr.inr=>
  obtain⟨b1,b2,b3,b4,b5⟩:=AE g';rw[g]at hc1;clear g g'
 all_goals
  go_enter func225,ntmps225;go_wp2;go_quiet (fail)
  have cO:Hid (Below w.heap.size w ((w.alloc (.cells #[.int .u32 (x.t.toNat:Int),.int .u32 (x.h.toNat:Int),.int .u64 (x.x.toNat:Int),.int .u32 (x.m.toNat:Int)] 64)).drewN nq)):=ae (below_drewN aj _);have e0:((w.alloc (.cells #[.int .u32 (x.t.toNat:Int),.int .u32 (x.h.toNat:Int),.int .u64 (x.x.toNat:Int),.int .u32 (x.m.toNat:Int)] 64)).drewN nq).cell? ⟨w.heap.size,0,none⟩=some (.int .u32 (x.t.toNat:Int)):=by simp
  have e1:((w.alloc (.cells #[.int .u32 (x.t.toNat:Int),.int .u32 (x.h.toNat:Int),.int .u64 (x.x.toNat:Int),.int .u32 (x.m.toNat:Int)] 64)).drewN nq).cell? ⟨w.heap.size,1,none⟩=some (.int .u32 (x.h.toNat:Int)):=by simp
  have e2:((w.alloc (.cells #[.int .u32 (x.t.toNat:Int),.int .u32 (x.h.toNat:Int),.int .u64 (x.x.toNat:Int),.int .u32 (x.m.toNat:Int)] 64)).drewN nq).cell? ⟨w.heap.size,2,none⟩=some (.int .u64 (x.x.toNat:Int)):=by simp
  have e3:((w.alloc (.cells #[.int .u32 (x.t.toNat:Int),.int .u32 (x.h.toNat:Int),.int .u64 (x.x.toNat:Int),.int .u32 (x.m.toNat:Int)] 64)).drewN nq).cell? ⟨w.heap.size,3,none⟩=some (.int .u32 (x.m.toNat:Int)):=by simp
  have El:w.heap.size<((w.alloc (.cells #[.int .u32 (x.t.toNat:Int),.int .u32 (x.h.toNat:Int),.int .u64 (x.x.toNat:Int),.int .u32 (x.m.toNat:Int)] 64)).drewN nq).heap.size:=by simp
  generalize (w.alloc (.cells #[.int .u32 (x.t.toNat:Int),.int .u32 (x.h.toNat:Int),.int .u64 (x.x.toNat:Int),.int .u32 (x.m.toNat:Int)] 64)).drewN nq=w1 at *;clear hc1 hc2 BR;have HK1:=ae (HK.out.below cO.out);obtain⟨k0,k1,k2,k3,k4,k5,JO⟩:=HK1.out.cells;have z1:=JO 1;have z2:=JO 2;have z3:=JO 3;have z4:=JO 4;have z5:=JO 5;have Y8:¬w.heap.size=kb:=by omega
  clear JO;go_wp2;have RS:=Z6.out w1 HK1.out;have cT:Moved (·=kb) n pb db w o d (((((w1.setCell ⟨kb,1,none⟩ (.int .u32 (x.t.toNat:Int))).setCell ⟨kb,2,none⟩ (.int .u32 (x.h.toNat:Int))).setCell ⟨kb,3,none⟩ (.int .u64 (x.x.toNat:Int))).setCell ⟨kb,4,none⟩ (.int .u32 (x.m.toNat:Int))).setCell ⟨kb,5,none⟩ (.bool true)) o d L:=
   (((((Moved.aV (S:=(·=kb)) H.out cO.out).setCell ⟨kb,1,none⟩ _ P7.out (.inl rfl)).setCell ⟨kb,2,none⟩ _ P7.out (.inl rfl)).setCell ⟨kb,3,none⟩ _ P7.out (.inl rfl)).setCell ⟨kb,4,none⟩ _ P7.out (.inl rfl)).setCell ⟨kb,5,none⟩ _ P7.out (.inl rfl)
  have VJ:w.heap.size<(((((w1.setCell ⟨kb,1,none⟩ (.int .u32 (x.t.toNat:Int))).setCell ⟨kb,2,none⟩ (.int .u32 (x.h.toNat:Int))).setCell ⟨kb,3,none⟩ (.int .u64 (x.x.toNat:Int))).setCell ⟨kb,4,none⟩ (.int .u32 (x.m.toNat:Int))).setCell ⟨kb,5,none⟩ (.bool true)).heap.size:=by simp_all
  have f:∀(j:Nat)(v:Value),w1.cell? ⟨w.heap.size,j,none⟩=some v->(((((w1.setCell ⟨kb,1,none⟩ (.int .u32 (x.t.toNat:Int))).setCell ⟨kb,2,none⟩ (.int .u32 (x.h.toNat:Int))).setCell ⟨kb,3,none⟩ (.int .u64 (x.x.toNat:Int))).setCell ⟨kb,4,none⟩ (.int .u32 (x.m.toNat:Int))).setCell ⟨kb,5,none⟩ (.bool true)).cell? ⟨w.heap.size,j,none⟩=some v:=fun j v hv=>
   ((((((aG.refl (·=kb) w1).setCell ⟨kb,1,none⟩ (.int .u32 (x.t.toNat:Int)) (.inl rfl)).setCell ⟨kb,2,none⟩ (.int .u32 (x.h.toNat:Int)) (.inl rfl)).setCell ⟨kb,3,none⟩ (.int .u64 (x.x.toNat:Int)) (.inl rfl)).setCell ⟨kb,4,none⟩ (.int .u32 (x.m.toNat:Int)) (.inl rfl)).setCell ⟨kb,5,none⟩ (.bool true) (.inl rfl)).cell hv Y8
  have f0:=f 0 _ e0;have f1:=f 1 _ e1;have f2:=f 2 _ e2;have f3:=f 3 _ e3;have X8:=ae RS;have eV:=ae cT;have q0:=RS.cells.1;unfold ptrTo at q0;clear f RS cT e0 e1 e2 e3 k0 k1 k2 k3 k4 k5 z1 z2 z3 z4 z5 HK1;generalize (((((w1.setCell ⟨kb,1,none⟩ (.int .u32 (x.t.toNat:Int))).setCell ⟨kb,2,none⟩ (.int .u32 (x.h.toNat:Int))).setCell ⟨kb,3,none⟩ (.int .u64 (x.x.toNat:Int))).setCell ⟨kb,4,none⟩ (.int .u32 (x.m.toNat:Int))).setCell ⟨kb,5,none⟩ (.bool true))=w2 at *;have aiU:w.heap.size<=w2.heap.size:=Nat.le_of_lt VJ;have P0:Hid (∀w3 v3,w3.ownsRow w2.drew.heap.size 5 1 v3 x.bytes.length (x.bytes.map bv)->Below w2.drew.heap.size w2.drew w3->(w3.cell? ⟨kb,0,none⟩=some (.pointer (some ⟨sb,0,none⟩))/\w3.cell? ⟨w.heap.size,0,none⟩=some (.int .u32 (x.t.toNat:Int))/\w3.cell? ⟨w.heap.size,1,none⟩=some (.int .u32 (x.h.toNat:Int))/\w3.cell? ⟨w.heap.size,2,none⟩=some (.int .u64 (x.x.toNat:Int))/\w3.cell? ⟨w.heap.size,3,none⟩=some (.int .u32 (x.m.toNat:Int))) /\
   Moved (·=kb) n pb db w o d w3 o d L/\aF w3 sb pb name 20/\Rd w3 v3 x.bytes/\(∀b,v3.ownBlock=some b->o b=none)/\dG w3 kb sb x true):=ae (fun w3 v3 iW hb3=>by
   have eE:=eV.out.drew.below hb3;have hs3:dG w3 kb sb x true:=X8.out.kept (hb3.block kb X8.out.lt);have g:=fun(j:Nat)(v:Value)(hv:w2.cell? ⟨w.heap.size,j,none⟩=some v)=>(show w3.cell? ⟨w.heap.size,j,none⟩=some v by rw[hb3.cell (p:=⟨w.heap.size,j,none⟩) VJ];exact hv);refine⟨⟨hs3.cells.1,g 0 _ f0,g 1 _ f1,g 2 _ f2,g 3 _ f3⟩,eE,?_,fH iW,fun b hb=>H.out.fresh (Nat.le_trans aiU (aI iW b hb)),hs3⟩;exact HST.out.moved eE HO.out (fun e=>s7.out e.symm))
  have hk2:Hid (∀w3 w4 d4 o4 L4,Moved (·=kb) n pb db w o d w3 o d L->dG w3 kb sb x true->w3.cell? ⟨w.heap.size,0,none⟩=some (.int .u32 (x.t.toNat:Int))/\w3.cell? ⟨w.heap.size,1,none⟩=some (.int .u32 (x.h.toNat:Int))/\w3.cell? ⟨w.heap.size,2,none⟩=some (.int .u64 (x.x.toNat:Int))/\w3.cell? ⟨w.heap.size,3,none⟩=some (.int .u32 (x.m.toNat:Int))->Moved (fun _=>False) n pb db w3 o d w4 o4 d4 L4 ->
   (w4.cell? ⟨kb,0,none⟩=some (.pointer (some ⟨sb,0,none⟩))/\w4.cell? ⟨w.heap.size,0,none⟩=some (.int .u32 (x.t.toNat:Int))/\w4.cell? ⟨w.heap.size,1,none⟩=some (.int .u32 (x.h.toNat:Int))/\w4.cell? ⟨w.heap.size,2,none⟩=some (.int .u64 (x.x.toNat:Int))/\w4.cell? ⟨w.heap.size,3,none⟩=some (.int .u32 (x.m.toNat:Int))) /\
   Moved (·=kb) n pb db w o d w4 o4 d4 L4/\dG w4 kb sb x true):=ae (fun w3 w4 d4 o4 L4 eE hs3 ⟨g0,g1,g2,g3⟩ eX=>by
   have pq:dG w4 kb sb x true:=hs3.kept (eX.block hs3.lt P7.out (fun h=>h));have hx:o w.heap.size=none:=H.out.fresh (Nat.le_refl _);exact⟨⟨pq.cells.1,eX.cell g0 hx (fun h=>h),eX.cell g1 hx (fun h=>h),eX.cell g2 hx (fun h=>h),eX.cell g3 hx (fun h=>h)⟩,eE.trans eX (fun _ _ h=>h.elim),pq⟩)
  go_region_held3 (fun w'=>w'.cell? ⟨kb,0,none⟩=some (.pointer (some ⟨sb,0,none⟩))/\w'.cell? ⟨w.heap.size,0,none⟩=some (.int .u32 (x.t.toNat:Int))/\w'.cell? ⟨w.heap.size,1,none⟩=some (.int .u32 (x.h.toNat:Int))/\w'.cell? ⟨w.heap.size,2,none⟩=some (.int .u64 (x.x.toNat:Int))/\w'.cell? ⟨w.heap.size,3,none⟩=some (.int .u32 (x.m.toNat:Int))) (first | exact⟨q0,f0,f1,f2,f3⟩| exact q1 | exact q2)
   (first
     | (go_at_call 208;refine(ad1.out _).mono ?_;rintro e w3⟨v3,rfl,iW,hb3⟩;obtain⟨q1,eE,uD,hr3,hf3,hs3⟩:=P0.out w3 v3 iW hb3)
     | (go_at_call 72;refine(lq.out w3 o d eE.aY uD HO.out v3 hr3 hf3).mono ?_;rintro e w4⟨c4,d4,o4,rfl,eX,yX⟩;obtain⟨q2,kP,hs5⟩:=hk2.out w3 w4 d4 o4 _ eE hs3 q1.2 eX))
  have lL:=ae kP;have b7:=ae hs5;have Cs:=ae yX;clear kP hs5 yX eX eE uD hr3 hf3 hs3 iW hb3 q1 q2 q0 f0 f1 f2 f3;go_wp2;go_ret;exact⟨c4,d4,o4,rfl,lL.out,Cs.out,b7.out⟩
theorem yz(HW:aP)(h:aR w pb db n o d L)(hst:aF w sb pb name 20)(ho:o sb=none)(fe:o kb=none)(hne:kb≠sb){out:List aD}(hL:aB L name=some (ax out false))(hN:out.length<65535)(hk:fc w kb sb out)(x:aD) :
 Calls prog 225 #[ptrTo kb,.agg #[.int .u32 (x.t.toNat:Int),.int .u32 (x.h.toNat:Int),.int .u64 (x.x.toNat:Int),.int .u32 (x.m.toNat:Int)]] w (AB n pb db w o d L name kb sb out x):=by
 obtain⟨last,any,hsk,RR⟩:∃last any,dG w kb sb last any/\((out=[]/\any=false)\/(out.getLast? = some last/\any=true)):=by
  rcases hk with⟨h1,y,h2⟩|⟨y,h1,h2⟩
  ·grind
  grind
 obtain⟨p1,p2⟩:=KL (x:=x) RR;cases hs:qL last any x with
 |true=>
   refine(RQ hsk hs).mono ?_;rintro e w'⟨rfl,hb⟩;refine⟨0,d,o,rfl,?_,.inl rfl,fun _=>?_⟩
   ·rw[if_pos rfl,p1 hs];exact(Moved.aV h hb).same hL
   grind [fc.below]
 |false=>
   refine(VN HW h hst ho fe hne hL hN hsk hs).mono ?_;rintro e w'⟨c,d',o',rfl,hm,he,hs'⟩;refine⟨c,d',o',rfl,by grind,he,fun _=>?_⟩;rw[p2 hs];exact .inr ⟨x,ai,hs'⟩
end
end
end Go.Proofs.YthkkgdpomhhjjaaGreatDoor
namespace Go.Proofs
open Go.Shelf
def Tryz.uI:Go.Shelf.Ren:=⟨fun | 171=>51 | 243=>85 | 246=>126 | 283=>187 | 284=>188 | 285=>189 | 286=>190 | 129=>136 | 317=>232 | 318=>233 | 319=>234 | 320=>235 | 337=>276 | 338=>277 | n=>n,fun | 3=>3 | 9=>9 | 2=>2 | 4=>4 | 171=>276 | 0=>0 | 53=>62 | 37=>39 | 5=>5 | 173=>278 | 212=>311 | 51=>26 | 20=>20 | 213=>312 | 46=>159 | 232=>377 | 233=>378 | n=>n,fun | 17=>0 | 18=>1 | 19=>2 | n=>n⟩
theorem Tryz.itoa:Go.Proofs.LaysM.n171 prog Tryz.uI:={
 mixed:=by kernel_rfl
 f129:=func136.trans aq
 f171:=func51.trans aq
 f243:=func85.trans aq
 f246:=func126.trans aq
 f283:=func187.trans aq
 f284:=func188.trans aq
 f285:=func189.trans aq
 f286:=func190.trans aq
 f317:=func232.trans aq
 f318:=func233.trans aq
 f319:=func234.trans aq
 f320:=func235.trans aq
 f337:=func276.trans aq
 f338:=func277.trans aq
 t0:=Tryz.underlying0
 a0:=Tryz.isAgg0
 z0:=Tryz.sizeOf0
 v0:=Tryz.zeroValue0
 t2:=Tryz.underlying2
 a2:=Tryz.isAgg2
 z2:=Tryz.sizeOf2
 v2:=Tryz.zeroValue2
 t3:=Tryz.underlying3
 a3:=Tryz.isAgg3
 z3:=Tryz.sizeOf3
 v3:=Tryz.zeroValue3
 t4:=Tryz.underlying4
 a4:=Tryz.isAgg4
 z4:=Tryz.sizeOf4
 v4:=Tryz.zeroValue4
 t5:=Tryz.underlying5
 a5:=Tryz.isAgg5
 z5:=Tryz.sizeOf5
 v5:=Tryz.zeroValue5
 t9:=Tryz.underlying9
 a9:=Tryz.isAgg9
 z9:=Tryz.sizeOf9
 v9:=Tryz.zeroValue9
 t20:=Tryz.underlying20
 a20:=Tryz.isAgg20
 z20:=Tryz.sizeOf20
 v20:=Tryz.zeroValue20
 t37:=Tryz.underlying39
 a37:=Tryz.isAgg39
 z37:=Tryz.sizeOf39
 v37:=Tryz.zeroValue39
 t46:=Tryz.underlying159
 a46:=Tryz.isAgg159
 z46:=Tryz.sizeOf159
 v46:=Tryz.zeroValue159
 t51:=Tryz.underlying26
 a51:=Tryz.isAgg26
 z51:=Tryz.sizeOf26
 v51:=Tryz.zeroValue26
 t53:=Tryz.underlying62
 a53:=Tryz.isAgg62
 z53:=Tryz.sizeOf62
 v53:=Tryz.zeroValue62
 t171:=Tryz.underlying276
 a171:=Tryz.isAgg276
 z171:=Tryz.sizeOf276
 v171:=Tryz.zeroValue276
 t173:=Tryz.underlying278
 a173:=Tryz.isAgg278
 z173:=Tryz.sizeOf278
 v173:=Tryz.zeroValue278
 t212:=Tryz.underlying311
 a212:=Tryz.isAgg311
 z212:=Tryz.sizeOf311
 v212:=Tryz.zeroValue311
 t213:=Tryz.underlying312
 a213:=Tryz.isAgg312
 z213:=Tryz.sizeOf312
 t232:=Tryz.underlying377
 a232:=Tryz.isAgg377
 z232:=Tryz.sizeOf377
 v232:=Tryz.zeroValue377
 t233:=Tryz.underlying378
 a233:=Tryz.isAgg378
 z233:=Tryz.sizeOf378
 v233:=Tryz.zeroValue378
 g17:=by kernel_rfl
 g18:=by kernel_rfl
 g19:=by kernel_rfl
 i0:=by kernel_rfl
 i2:=by kernel_rfl
 i3:=by kernel_rfl
 i4:=by kernel_rfl
 i5:=by kernel_rfl
 i9:=by kernel_rfl
 i20:=by kernel_rfl
 i37:=by kernel_rfl
 i46:=by kernel_rfl
 i51:=by kernel_rfl
 i53:=by kernel_rfl
 i171:=by kernel_rfl
 i173:=by kernel_rfl
 i212:=by kernel_rfl
 i232:=by kernel_rfl
 i233:=by kernel_rfl
 m17:=by kernel_rfl
 m18:=by kernel_rfl
 m19:=by kernel_rfl }
def Tryz.AG:Go.Shelf.Ren:=⟨fun | 99=>114 | 206=>176 | n=>n,fun | 9=>9 | 4=>4 | 3=>3 | n=>n,fun | n=>n⟩
theorem Tryz.Z7:Go.Proofs.Lays.n99 prog Tryz.AG:={
 mixed:=by kernel_rfl
 f99:=func114.trans aq
 f206:=func176.trans aq
 t3:=Tryz.underlying3
 a3:=Tryz.isAgg3
 z3:=Tryz.sizeOf3
 v3:=Tryz.zeroValue3
 t4:=Tryz.underlying4
 a4:=Tryz.isAgg4
 z4:=Tryz.sizeOf4
 v4:=Tryz.zeroValue4
 t9:=Tryz.underlying9
 a9:=Tryz.isAgg9
 z9:=Tryz.sizeOf9
 v9:=Tryz.zeroValue9 }
def Tryz.AH:Go.Shelf.Ren:=⟨fun | 45=>226 | n=>n,fun | 22=>301 | 23=>206 | 3=>3 | 4=>4 | 0=>0 | n=>n,fun | n=>n⟩
theorem Tryz.Z8:Go.Proofs.SlLaysE.n45 prog Tryz.AH:={
 mixed:=by kernel_rfl
 f45:=⟨Tryz.f226.name,ag,func226.trans aq⟩
 t0:=Tryz.underlying0
 a0:=Tryz.isAgg0
 z0:=Tryz.sizeOf0
 v0:=Tryz.zeroValue0
 t3:=Tryz.underlying3
 a3:=Tryz.isAgg3
 z3:=Tryz.sizeOf3
 v3:=Tryz.zeroValue3
 t4:=Tryz.underlying4
 a4:=Tryz.isAgg4
 z4:=Tryz.sizeOf4
 v4:=Tryz.zeroValue4
 t22:=Tryz.underlying301
 a22:=Tryz.isAgg301
 z22:=Tryz.sizeOf301
 v22:=Tryz.zeroValue301
 a23:=Tryz.isAgg206
 z23:=Tryz.sizeOf206 }
end Go.Proofs
