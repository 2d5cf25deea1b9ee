/-
  Joined.
-/
import Derived.Test.YthkkgdpomhhjjaaGreatDoorC08
import Derived.Below
import Derived.Deep.RegionWith
import Derived.Laws.IdiomStrings
set_option maxRecDepth 100000
set_option maxHeartbeats 8000000
namespace Go.Proofs.YthkkgdpomhhjjaaGreatDoor
open Go.Proofs.Tryz
section
open Go.RowKit Go.Maps Go.MapKept
def Zt:ByteArray:=⟨#[116,46]⟩
def ownName(x:Name):Bool:=Lib.hasPrefix x.data.toList Zt.data.toList
theorem rE(k:Nat):ownName (dw k)=true:=by
 unfold ownName dw Zt Lib.hasPrefix;simp
section
variable {w w':World} {pb db n cb kb sb jb bf made:Nat} {by':Bool} {name:Name} {o o':ar} {d d':Dsk} {L L':aC}
theorem Aq(s:ByteArray)(w:World):Calls prog 114 #[.string s,.string ⟨#[116,46]⟩] w fun e w'=>e=.returned (.bool (ownName s))/\w=w':=
 (Any.strings_HasPrefix (P:=prog) (ρ:=Tryz.Aa) { Tryz.YY with } s ⟨#[116,46]⟩ w).mono fun _ _ ⟨h1,h2⟩=>⟨h1,h2.symm⟩
theorem wm{i N:Nat}{x:aF}{sz:Nat}(h:bC w cb sb i N x)(hs:aB w sb pb name sz):sb≠cb:=by
 rintro rfl;obtain⟨t,h1⟩:=h;obtain⟨t',h2⟩:=hs;rw[h1]at h2;have:=Option.some.inj h2;injection this with a b;have:=congrArg Array.size a;simp at this
theorem Dm(w:World)(pb:Nat)(x:Int)(b:Bool)(hx:x=(lT b:Int)):cT ((w.alloc (.cells #[.int .i64 x] 3)).alloc (.cells #[.pointer (some ⟨pb,0,none⟩),.func (.func 115) #[] #[.pointer (some ⟨w.heap.size,0,none⟩)],.int .i64 0] 205)) (w.heap.size+1) pb w.heap.size 0 b:=by
 subst hx;refine⟨⟨205,?_⟩,⟨3,?_⟩⟩
 ·have:=heap_alloc_new (w.alloc (.cells #[.int .i64 (lT b:Int)] 3)) (.cells #[.pointer (some ⟨pb,0,none⟩),.func (.func 115) #[] #[.pointer (some ⟨w.heap.size,0,none⟩)],.int .i64 0] 205);rw[show(w.alloc (.cells #[.int .i64 (lT b:Int)] 3)).heap.size=w.heap.size+1 by simp]at this;exact this
 ·rw[(MapKept.heap_alloc _ _).2 _ ah];exact heap_alloc_new w _
theorem Dp(HW:aQ){m:Nat}(yI:dX m)(h:aP w pb db n o d L)(hn:8<=n){es:List aF}{fl:Bool}{qH out:Name}(hL:aA L qH=some (au es fl))(hio:qH≠out)(hi:ownName qH=false)(ho:ownName out=false)(hout:bM out=true)(hno:aA L out=none)(BD:∀k,aA L (dw k)=none)(hm:es.length<=m) :
 Calls prog 77 #[ptrTo pb,.string qH,.string out,.int .i64 (lT by':Int)] w (oC (fun _=>False) n pb db w o d L out (aK by' es) es.length):=by
 have hto:∀k,out≠dw k:=fun k e=>by rw[e,rE]at ho;cases ho
 have zu:=aa (Aq qH);have j5:=aa (Aq out);simp only[hi]at zu;simp only[ho]at j5;have rC:=aa (fun W(hW:Below w.heap.size w W)=>jr (h.below hW));have pQ:Hid (∀W,Below w.heap.size w W->∀jb bf,cT W jb pb bf 0 by'->Calls prog 116 #[ptrTo jb,.string qH] W (qB n pb db W o d L qH es.length)):=aa (fun W hW jb bf hj=>xQ HW (h.below hW) hj hL);have oz:Hid (∀W o' d',aP W pb db n o' d' L->Calls prog 71 #[ptrTo pb,.string out] W (fI n pb db W o' d' L out)):=aa (fun W o' d' hW=>kB hW out (bZ hout));have oy:Hid (∀d':Dsk,cY d' L out=if d'.tick.dead=true then 6 else 0):=aa (fun d'=>by
  unfold cY;rw[hout,hno];rfl)
 have tT:Hid (∀W o' d',aP W pb db n o' d' (aS L out (.inl (([]:List Pg),true)))->Calls prog 62 #[ptrTo pb,.string out] W (GK W pb db n o' d' (aS L out (.inl (([]:List Pg),true))) out)):=aa (fun W o' d' hW=>ua hW (ps:=[]) (fl:=true) (by rw[ay,if_pos rfl]));have hdel:Hid (b7 (aS L out (.inl (([]:List Pg),true))) out=L):=aa (by rw[Db,Ah hno]);have xS:Hid (∀W o' d' cb sb jb bf,aP W pb db n o' d' L->cT W jb pb bf 0 by'->o' jb=none->o' bf=none->bf≠jb->bC W cb sb 0 es.length Ac->aB W sb pb qH 20->o' cb=none->o' sb=none->cb≠jb->cb≠bf->sb≠jb->sb≠cb ->
  Calls prog 117 #[ptrTo jb,ptrTo cb,.string out] W (oC (fun x=>x=cb\/x=jb) n pb db W o' d' L out (aK by' es) es.length)):=aa (fun W o' d' cb sb jb bf a1 a2 a3 a4 a5 a6 a7 a8 a9 b1 b2 b3 b4=>yI a1 hn a2 a3 a4 a5 hL a6 a7 a8 a9 b1 b2 b3 b4 hout hno BD hto hm)
 have hne:(qH.toList == out.toList)=false:=qu hio;have T6:n<=4096:=by
  obtain⟨fb,mb,l,hand,mf,hp,rfl,-⟩:=h;exact hp.most
 have H:=aa h;have hn8:¬(n:Int)<8:=by omega
 clear h hn hL hio hi ho hout hno BD hm hto;have hby:((lT by':Int)=0\/(lT by':Int)=1):=by cases by'<;>simp[lT]
 have UN:Hid (∀v,Below w.heap.size w (w.alloc (.cells #[v] 3))):=aa (fun v=>aj.alloc (Nat.le_refl _) _);have HBC:Hid (∀v,(w.alloc (.cells #[v] 3)).heap[w.heap.size]? = some (.cells #[v] 3)):=aa (fun v=>heap_alloc_new w _);obtain⟨bn,PJ⟩:∃bn:Int,bn=(lT by':Int):=⟨_,rfl⟩;rw[<- PJ]at hby ⊢;have HBN:=aa PJ;clear PJ;unfold ptrTo at *;generalize es.length=N at *;rcases hby with rfl | rfl;all_goals
  go_enter func77,ntmps77;go_wp2_with fail;refine(zu.o _).mono ?_;rintro e w'⟨rfl,rfl⟩;go_wp2_with fail;refine(j5.o _).mono ?_;rintro e w'⟨rfl,rfl⟩;go_wp2_with fail;refine(rC.o _ (UN.o _)).mono ?_;rintro e w'⟨rfl,rfl⟩;go_wp2_with fail
 all_goals
  first
   | (have Zc:Hid (cT ((w.alloc (.cells #[.int .i64 0] 3)).alloc (.cells #[.pointer (some ⟨pb,0,none⟩),.func (.func 115) #[] #[.pointer (some ⟨w.heap.size,0,none⟩)],.int .i64 0] 205)) (w.heap.size+1) pb w.heap.size 0 by'):=aa (Dm w pb 0 by' HBN.o)
      have NH:Hid (Below w.heap.size w ((w.alloc (.cells #[.int .i64 0] 3)).alloc (.cells #[.pointer (some ⟨pb,0,none⟩),.func (.func 115) #[] #[.pointer (some ⟨w.heap.size,0,none⟩)],.int .i64 0] 205))):=aa ((UN.o _).alloc ah _);have hsz:w.heap.size+2=((w.alloc (.cells #[.int .i64 0] 3)).alloc (.cells #[.pointer (some ⟨pb,0,none⟩),.func (.func 115) #[] #[.pointer (some ⟨w.heap.size,0,none⟩)],.int .i64 0] 205)).heap.size:=by simp
      have Bt:=aa hsz;clear hsz;generalize (w.alloc (.cells #[.int .i64 0] 3)).alloc (.cells #[.pointer (some ⟨pb,0,none⟩),.func (.func 115) #[] #[.pointer (some ⟨w.heap.size,0,none⟩)],.int .i64 0] 205)=W1 at *)
   | (have Zc:Hid (cT ((w.alloc (.cells #[.int .i64 1] 3)).alloc (.cells #[.pointer (some ⟨pb,0,none⟩),.func (.func 115) #[] #[.pointer (some ⟨w.heap.size,0,none⟩)],.int .i64 0] 205)) (w.heap.size+1) pb w.heap.size 0 by'):=aa (Dm w pb 1 by' HBN.o)
      have NH:Hid (Below w.heap.size w ((w.alloc (.cells #[.int .i64 1] 3)).alloc (.cells #[.pointer (some ⟨pb,0,none⟩),.func (.func 115) #[] #[.pointer (some ⟨w.heap.size,0,none⟩)],.int .i64 0] 205))):=aa ((UN.o _).alloc ah _);have hsz:w.heap.size+2=((w.alloc (.cells #[.int .i64 1] 3)).alloc (.cells #[.pointer (some ⟨pb,0,none⟩),.func (.func 115) #[] #[.pointer (some ⟨w.heap.size,0,none⟩)],.int .i64 0] 205)).heap.size:=by simp
      have Bt:=aa hsz;clear hsz;generalize (w.alloc (.cells #[.int .i64 1] 3)).alloc (.cells #[.pointer (some ⟨pb,0,none⟩),.func (.func 115) #[] #[.pointer (some ⟨w.heap.size,0,none⟩)],.int .i64 0] 205)=W1 at *)
  have PK:=aa (pQ.o W1 NH.o (w.heap.size+1) w.heap.size Zc.o);refine PK.o.mono ?_;rintro e w2⟨v2,c2,d2,o2,rfl,cP,om,jl⟩;have HC2:=aa cP;have GR:=aa om;have eu:Hid (aw (fun _=>False) n pb db w o d w2 o2 d2 L):=aa ((aw.aU H.o NH.o).trans cP (fun _ _ h=>h));clear cP om PK;by_cases hc2:c2=0
  ·subst hc2;obtain⟨cb,sb,rfl,hs2,oA,Kz,Aj,Vm,Rb⟩:=jl rfl;have eM:=aa hs2;have nz:=aa oA;have RJ:=aa Kz;have Cl:=aa Aj;have Zu:=hs2.lt;have adr:=oA.lt;have Kq:Hid (sb≠cb):=aa (wm hs2 oA);have aoT:w.heap.size+2<=cb:=by rw[Bt.o];exact Vm
   have aoU:w.heap.size+2<=sb:=by rw[Bt.o];exact Rb
   clear jl hs2 oA Kz Aj Vm Rb;unfold ptrTo;have hcc:=aa (oz.o w2 o2 d2 eu.o.aX);unfold fI at hcc;rw[oy.o d2]at hcc;cases Mf:d2.tick.dead with
   |true=>
     rw[Mf,if_pos rfl]at hcc;have oN:=aa Mf;clear Mf;go_wp2_with fail;refine hcc.o.mono ?_;rintro e w3⟨d3,o3,rfl,eA,-,hdd⟩;rw[if_neg af]at eA;have eF:=aa (eu.o.trans eA (fun _ _ h=>h));have uW:=aa (hdd (by first | exact oN.o | trivial));clear eA hdd hcc;go_wp2;go_ret;exact⟨6,d3,o3,L,rfl,eF.o,fun _ _=>rfl,.inr (.inr ⟨rfl,uW.o⟩)⟩
   |false=>
     rw[Mf,if_neg ah]at hcc;clear Mf;go_wp2_with fail;refine hcc.o.mono ?_;rintro e w3⟨d3,o3,rfl,eA,-,-⟩;simp only[if_true]at eA;have Jp:=aa (HC2.o.trans eA (fun _ _ h=>h));have eF:=aa (eu.o.trans eA (fun _ _ h=>h));have fy:Hid (bC w3 cb sb 0 N Ac):=aa (eM.o.kept (eA.block Zu RJ.o (fun h=>h)));have Cm:Hid (aB w3 sb pb qH 20):=aa (nz.o.moved eA Cl.o (fun h=>h));have ads:Hid (o3 cb=none):=aa (eA.free Zu RJ.o);have vX:Hid (o3 sb=none):=aa (eA.free adr Cl.o);have Xp:cb<w3.heap.size:=Nat.lt_of_lt_of_le Zu eA.size;have adt:sb<w3.heap.size:=Nat.lt_of_lt_of_le adr eA.size;have hdd:=aa (tT.o w3 o3 d3 eA.aX);clear eA hcc;go_wp2_with fail;refine hdd.o.mono ?_;rintro e w4⟨c4,d4,o4,L4,rfl,oO,tG,hg4,tY,aiK⟩;have eC:aw (fun _=>False) n pb db w3 o3 d3 w4 o4 d4 L4:=jh oO tG hg4 tY;have fZ:=aa (eF.o.trans eC (fun _ _ h=>h));have Bv:=aa (Jp.o.trans eC (fun _ _ h=>h));have gj:Hid (bC w4 cb sb 0 N Ac):=aa (fy.o.kept (eC.block Xp ads.o (fun h=>h)));have ui:Hid (aB w4 sb pb qH 20):=aa (Cm.o.moved eC vX.o (fun h=>h));have aiL:Hid (o4 cb=none):=aa (eC.free Xp ads.o);have Vh:Hid (o4 sb=none):=aa (eC.free adt vX.o);clear oO tG hg4 tY eC hdd;rcases aiK with⟨rfl,he⟩|⟨rfl,kA,dp,he⟩
     ·have he':=he.trans hdel.o;rw[he']at fZ Bv;have HJ4:Hid (cT w4 (w.heap.size+1) pb w.heap.size 0 by'):=aa (Zc.o.moved Bv.o (H.o.fresh ae) (H.o.fresh (Nat.le_refl _)) (fun h=>h) (fun h=>h));have Nl:=aa (xS.o w4 o4 d4 cb sb (w.heap.size+1) w.heap.size fZ.o.aX HJ4.o (Bv.o.free Zc.o.lt.1 (H.o.fresh ae)) (Bv.o.free Zc.o.lt.2 (H.o.fresh (Nat.le_refl _))) ae gj.o ui.o aiL.o Vh.o ae ae ae Kq.o);clear he he';go_wp2_with fail;refine Nl.o.mono ?_;rintro e w5⟨c5,d5,o5,L5,rfl,j7,adu,Bq⟩;have kV:=aa (fZ.o.trans j7 (fun x hx e=>by omega));have aiM:=aa adu;have Nz:Hid ((c5=0/\∀x,aA L5 x=aA (aS L out (au (aK by' es) true)) x)\/jq d d5 (need L+8*N) c5):=aa (Bq.imp id (fun h=>h.later fZ.o.on.bD));clear j7 adu Bq Nl;go_wp2;go_ret;exact⟨c5,d5,o5,L5,rfl,kV.o,aiM.o,Nz.o⟩
     ·have HE:=aa he;have HD:=aa kA;clear he kA;go_wp2;go_ret;refine⟨6,d4,o4,L4,rfl,fZ.o,fun x hx=>?_,.inr (.inr ⟨rfl,HD.o⟩)⟩;rw[HE.o,ay,if_neg (fun e=>hx (.inl e)),ay,if_neg (fun e=>hx (.inl e))]
  ·have Kh:¬(c2:Int)=0:=by omega
   have B8:Hid (jq d d2 (need L+8*N) c2):=aa ((GR.o.resolve_left hc2).num (Nat.le_add_right _ _));clear hc2 jl;go_wp2;go_ret;exact⟨c2,d2,o2,L,rfl,eu.o,fun _ _=>rfl,.inr B8.o⟩
end
end
section
open Go Go.RowKit
section
variable {P:Program} {C:World->Prop} {Pd:Nat->Value->World->Prop} {l:List Oper} {a0:Act}
structure jS(C:World->Prop)(Pd:Nat->Value->World->Prop)(l:List Oper)(a0:Act)(listed:Array Bool)(a:Act)(w:World):Prop where
 size:listed.size=l.length
 cls:C w
 Xq:a.tmps.size=a0.tmps.size
 dfr:a.defers=a0.defers
 out:∀k,(∀o∈l,o.dst≠some k)->a.tmps[k]? = a0.tmps[k]?
 slot:∀(i:Nat)(o:Oper)(k:Nat),l[i]? = some o->o.dst=some k->listed.getD i true=true->∃v,a.tmps[k]? = some v/\Pd i v w
def mR(Pd:Nat->Value->World->Prop)(l:List Oper)(a0:Act)(o:Oper)(a:Act)(w:World):Prop:=
 (∀k,(∀o∈l,o.dst≠some k)->a.tmps[k]? = a0.tmps[k]?)/\a.tmps.size=a0.tmps.size /\
 ∀e∈o.after,Region.binds .any e=true->∀(oj:Oper)(k:Nat),l[e.on]? = some oj->oj.dst=some k->∃v,a.tmps[k]? = some v/\Pd e.on v w
def uF(P:Program)(Pd:Nat->Value->World->Prop)(i:Nat)(o:Oper)(a:Act)(w:World):Prop:=
 ∀(Q:Exit->Act->World->Prop)(K:Act->World->Prop),(∀v w',Below w.heap.size w w'->Pd i v w'->K (a.put o.dst v) w')->o.wp P a w K Q
theorem Ob{Q:Exit->Act->World->Prop}(hg:∀o∈l,o.guard=none)(hd:∀(i j:Nat)(oi oj:Oper)(k:Nat),l[i]? = some oi->l[j]? = some oj->oi.dst=some k->oj.dst=some k->i=j)(hb:∀o∈l,∀k,o.dst=some k->k<a0.tmps.size)(Ht:∀w w',C w->Below w.heap.size w w'->C w')(hP:∀i v w w',Below w.heap.size w w'->Pd i v w->Pd i v w')(hstep:∀(i:Nat)(o:Oper),l[i]? = some o->∀a w,C w->mR Pd l a0 o a w->uF P Pd i o a w)(hend:∀listed a w,jS C Pd l a0 listed a w->Region.ready .any l.toArray listed=[]->Q .normal a w)(f:Nat) :
 ∀(listed:Array Bool)(a:Act)(w:World),jS C Pd l a0 listed a w->listed.toList.count false<=f->wpAny P .any l.toArray Q f listed a w:=by
 induction f with
 |zero=>
   intro listed a w inv hf;have hall:∀i,listed.getD i true=true:=fun i=>by
    rw[Array.getD_eq_getD_getElem?];grind [List.count_pos_iff]
   have hr:Region.ready .any l.toArray listed=[]:=by
    grind [Region.ready,List.filter_eq_nil_iff]
   exact⟨hr,hend _ _ _ inv hr⟩
 |succ f ih=>
   intro listed a w inv hf;refine⟨hend _ _ _ inv,fun i hi=>?_⟩;obtain⟨vt,o,ho,hall⟩:=mem_ready.1 hi;have kN:l[i]? = some o:=by grind
   have hol:o∈l:=List.mem_of_getElem? kN;have nZ:i<l.length:=(List.getElem?_eq_some_iff.1 kN).1;have adw:mR Pd l a0 o a w:=⟨inv.out,inv.Xq,fun e he PJ oj k lC hk=>inv.slot _ oj k lC hk (by
    grind)⟩
   have hw:Region.wanted o (yielded l.toArray a.tmps)=true:=by
    grind [Region.wanted]
   unfold wpOp;rw[ho];simp only[hw,if_true];refine .inl (hstep i o kN a w inv.cls adw _ _ (fun v w' hbw hv=>ih _ _ _ ⟨?_,Ht _ _ inv.cls hbw,?_,?_,fun k hk=>?_,fun j oj k lC hk hlj=>?_⟩ ?_))
   ·grind [jS.size]
   ·unfold Act.put;grind [jS.Xq]
   ·unfold Act.put;grind [jS.dfr]
   ·unfold Act.put;grind [jS.out]
   ·by_cases e9:i=j
    ·grind [Act.put,jS.Xq]
    ·have aiN:listed.getD j true=true:=by
      rw[Array.getD_eq_getD_getElem?,Array.getElem?_setIfInBounds_ne e9]at hlj;grind [Array.getD_eq_getD_getElem?]
     obtain⟨u,hu1,hu2⟩:=inv.slot j oj k lC hk aiN;refine⟨u,?_,hP _ _ _ _ hbw hu2⟩;unfold Act.put;grind
   ·have tK:listed[i]? = some false:=by
     rw[Array.getD_eq_getD_getElem?]at vt;grind
    grind
theorem Cr{id:Nat}{Q:Exit->Act->World->Prop}{w:World}(C:World->Prop)(Pd:Nat->Value->World->Prop)(hm:P.follows .mixedOrders=true)(hg:∀o∈l,o.guard=none)(hd:∀(i j:Nat)(oi oj:Oper)(k:Nat),l[i]? = some oi->l[j]? = some oj->oi.dst=some k->oj.dst=some k->i=j)(hb:∀o∈l,∀k,o.dst=some k->k<a0.tmps.size)(hC:C w.drew)(Ht:∀w w',C w->Below w.heap.size w w'->C w')(hP:∀i v w w',Below w.heap.size w w'->Pd i v w->Pd i v w')(hstep:∀(i:Nat)(o:Oper),l[i]? = some o->∀a w,C w->mR Pd l a0 o a w->uF P Pd i o a w)(hend:∀listed a w,jS C Pd l a0 listed a w->Region.ready .any l.toArray listed=[]->Q .normal a w):(Code.region id l.toArray true).wp P Q a0 w:=by
 refine wp_region_any hm ?_;refine Ob hg hd hb Ht hP hstep hend _ _ _ _ ⟨ah,hC,rfl,rfl,fun _ _=>rfl,fun i o k ho _ hl=>?_⟩ ?_
 ·have nZ:i<l.length:=(List.getElem?_eq_some_iff.1 ho).1;simp_all
 simp
def Hu(l:List Oper)(n:Nat):Bool:=
 l.all (fun o=>o.guard.isNone) && l.all (fun o=>match o.dst with | some k=>decide (k<n) | none=>true) &&
  (List.range l.length).all fun i=>(List.range l.length).all fun j=>decide (i=j) || (match (l[i]?).bind (·.dst),(l[j]?).bind (·.dst) with | some a,some b=>decide (a≠b) | _,_=>true)
theorem Ar{id:Nat}{Q:Exit->Act->World->Prop}{w:World}(C:World->Prop)(Pd:Nat->Value->World->Prop)(hm:P.follows .mixedOrders=true)(hB:Hu l a0.tmps.size=true)(hC:C w.drew)(Ht:∀w w',C w->Below w.heap.size w w'->C w')(hP:∀i v w w',Below w.heap.size w w'->Pd i v w->Pd i v w')(hstep:∀(i:Nat)(o:Oper),l[i]? = some o->∀a w,C w->mR Pd l a0 o a w->uF P Pd i o a w)(hend:∀listed a w,jS C Pd l a0 listed a w->Region.ready .any l.toArray listed=[]->Q .normal a w):(Code.region id l.toArray true).wp P Q a0 w:=by
 simp only[Hu,Bool.and_eq_true,List.all_eq_true]at hB;obtain⟨⟨h1,h2⟩,h3⟩:=hB;refine Cr C Pd hm (fun o ho=>by simp_all) (fun i j oi oj k hi hj TL hkj=>?_) (fun o ho k hk=>?_) hC Ht hP hstep hend
 ·have h4:=h3 i (List.mem_range.2 (List.getElem?_eq_some_iff.1 hi).1) j (List.mem_range.2 (List.getElem?_eq_some_iff.1 hj).1);grind
 grind
theorem oD{i:Nat}{o:Oper}{a:Act}{w w':World}{v:Value}(h:(execOp a.eval o).run P w=.ok (.value v) w')(hb:Below w.heap.size w w')(hp:Pd i v w'):uF P Pd i o a w:=by
 intro Q K hK;unfold Oper.wp;rw[h];exact hK v w' hb hp
theorem Oc{i:Nat}{o:Oper}{a:Act}{w:World}{f:FuncId}{args:Array Value}(h:(execOp a.eval o).run P w=.ok (.enter f args) w)(hc:Calls P f args w fun e w'=>∃v,e=.returned v/\Below w.heap.size w w'/\Pd i v w'):uF P Pd i o a w:=by
 intro Q K hK;unfold Oper.wp;rw[h];refine Calls.mono hc ?_;grind
theorem mR.get{o:Oper}{a:Act}{w:World}(h:mR Pd l a0 o a w)(j:Nat){oj:Oper}{k:Nat}(hj:(o.after.toList.any fun e=>decide (e.on=j) && Region.binds .any e)=true)(ho:l[j]? = some oj)(hk:oj.dst=some k):∃v,a.tmps[k]? = some v/\Pd j v w:=by
 rw[List.any_eq_true]at hj;obtain⟨e,he,h1⟩:=hj;rw[Bool.and_eq_true,decide_eq_true_eq]at h1;obtain⟨rfl,h2⟩:=h1;obtain⟨v,h3,h4⟩:=h.2.2 e (by grind) h2 oj k ho hk;grind
theorem mR.old{o:Oper}{a:Act}{w:World}(h:mR Pd l a0 o a w)(k:Nat){v:Value}(hk:(l.all fun o=>decide (o.dst≠some k))=true)(h0:a0.tmps[k]? = some v):a.tmps[k]? = some v:=by
 refine(h.1 k fun o ho=>?_).trans h0;grind
theorem Vq{C:World->Prop}{listed:Array Bool}{a:Act}{w:World}(h:jS C Pd l a0 listed a w)(hr:Region.ready .any l.toArray listed=[])(hB:((List.range l.length).all fun i=>match l[i]? with | some o=>o.after.toList.all (fun e=>decide (e.on<i)) | none=>true)=true) :
 ∀(i:Nat)(o:Oper)(k:Nat),l[i]? = some o->o.dst=some k->∃v,a.tmps[k]? = some v/\Pd i v w:=by
 have hall:∀i,i<l.length->listed.getD i true=true:=by
  intro i;induction i using Nat.strongRecOn with
  |_ i ih=>
    intro hi;by_cases hd:listed.getD i true=true
    ·exact hd
    ·exfalso
     have hd':listed.getD i true=false:=by grind
     have hm:i∈Region.ready .any l.toArray listed:=by
      refine mem_ready.2 ⟨hd',l[i],ah,fun e he _=>?_⟩;rw[List.all_eq_true]at hB;have h1:=hB i (List.mem_range.2 hi);grind
     grind
 grind [jS.slot]
theorem xW{a b:Act}(hs:a.tmps.size=b.tmps.size)(hd:a.defers=b.defers)(he:∀k,k<b.tmps.size->a.tmps[k]? = b.tmps[k]?):a=b:=by
 obtain⟨ta,da⟩:=a;obtain⟨tb,db⟩:=b;grind [Array.ext]
def nI(a:Act):List Oper->List Value->Act
 |o::l,v::vs=>nI (a.put o.dst v) l vs
 |_,_=>a
theorem qI(a:Act)(d:Option Tmp)(v:Value):(a.put d v).tmps.size=a.tmps.size:=by
 unfold Act.put;grind
theorem sq(a:Act)(d:Option Tmp)(v:Value):(a.put d v).defers=a.defers:=by
 unfold Act.put;grind
theorem pD(a:Act)(d:Option Tmp)(v:Value)(k:Nat)(h:d≠some k):(a.put d v).tmps[k]? = a.tmps[k]? := by
 unfold Act.put;grind
theorem qJ(l:List Oper):∀(a:Act)(vs:List Value),(nI a l vs).tmps.size=a.tmps.size/\(nI a l vs).defers=a.defers/\∀k,(∀o:Oper,o∈l->o.dst≠some k)->(nI a l vs).tmps[k]? = a.tmps[k]? := by
 induction l with
 |nil=>intro a vs;cases vs<;>exact⟨rfl,rfl,fun _ _=>rfl⟩
 |cons o l ih=>
   intro a vs;cases vs with
   |nil=>exact⟨rfl,rfl,fun _ _=>rfl⟩
   |cons v vs=>
     obtain⟨h1,h2,h3⟩:=ih (a.put o.dst v) vs;exact⟨h1.trans (qI _ _ _),h2.trans (sq _ _ _),fun k hk=>(h3 k (fun o' kN=>hk o' (by grind))).trans (pD _ _ _ _ (hk o ah))⟩
theorem Dq(l:List Oper):∀(a:Act)(vs:List Value)(i:Nat)(o:Oper)(k:Nat)(v:Value),l[i]? = some o->o.dst=some k->vs[i]? = some v->k<a.tmps.size->(∀(j:Nat)(oj:Oper),l[j]? = some oj->oj.dst=some k->j=i)->(nI a l vs).tmps[k]? = some v:=by
 induction l with
 |nil=>simp
 |cons o' l ih=>
   intro a vs i o k v ho hk hv hb hu;cases vs with
   |nil=>cases hv
   |cons v' vs=>
     cases i with
     |zero=>
       cases ho;cases hv;refine((qJ l (a.put _ v) vs).2.2 k (fun x hx e=>?_)).trans ?_
       ·obtain⟨j,hj⟩:=List.mem_iff_getElem?.1 hx;have:=hu (j+1) x (by grind) e;omega
       grind [Act.put]
     |succ i=>
       refine ih (a.put o'.dst v') vs i o k v (by grind) hk (by grind) (by grind [qI]) (fun j oj hj he=>?_);have:=hu (j+1) oj (by grind) he;omega
theorem Vr{C:World->Prop}{listed:Array Bool}{a:Act}{w:World}(h:jS C Pd l a0 listed a w)(hr:Region.ready .any l.toArray listed=[])(hB:Hu l a0.tmps.size=true)(hA:((List.range l.length).all fun i=>match l[i]? with | some o=>o.after.toList.all (fun e=>decide (e.on<i)) && o.dst.isSome | none=>true)=true) :
 ∃vs:List Value,vs.length=l.length/\(∀i v,vs[i]? = some v->Pd i v w)/\a=nI a0 l vs:=by
 rw[List.all_eq_true]at hA;have hA':∀(i:Nat)(o:Oper),l[i]? = some o->(o.after.toList.all (fun e=>decide (e.on<i)))=true/\∃k,o.dst=some k:=fun i o ho=>by
  grind [Option.isSome_iff_exists]
 have qa:=Vq h hr (by
  grind)
 simp only[Hu,Bool.and_eq_true,List.all_eq_true]at hB;obtain⟨⟨_,h2⟩,h3⟩:=hB;have alH:∀(i j:Nat)(oi oj:Oper)(k:Nat),l[i]? = some oi->l[j]? = some oj->oi.dst=some k->oj.dst=some k->i=j:=fun i j oi oj k hi hj TL hkj=>by
  grind
 refine⟨l.map fun o=>(o.dst.bind (a.tmps[·]?)).getD undef,List.length_map _,fun i v hv=>?_,?_⟩
 ·grind
 ·obtain⟨k1,k2,k3⟩:=qJ l a0 (l.map fun o=>(o.dst.bind (a.tmps[·]?)).getD undef);refine xW (by rw[k1,h.Xq]) (by rw[k2,h.dfr]) (fun k hk=>?_);rw[k1]at hk;by_cases he:∃o∈l,o.dst=some k
  ·obtain⟨o,ho,fw⟩:=he;obtain⟨i,hi⟩:=List.mem_iff_getElem?.1 ho;grind [Dq]
  grind [jS.out]
end
end
section
open Go.RowKit Go.Maps Go.MapKept
def aJ(c:UInt8)(k:Nat):Name:=⟨([c,46]++Lib.decDigits k).toArray⟩
def qK(w:World):Prop:=Lib.TabIs prog w "internal/strconv.uint64pow10" .u64 Lib.pow10Tab
theorem Mw:prog.globalNamed "internal/strconv.uint64pow10"=some 0:=by rfl
theorem qK.kept{w w':World}(h:qK w)(hb:w'.heap[(0:Nat)]? = w.heap[(0:Nat)]?):qK w':=by
 grind [qK,Lib.TabIs,World.var?,Mw]
theorem qK.lt{w:World}(h:qK w):0<w.heap.size:=by
 grind [qK,Lib.TabIs,World.var?,Mw]
def js(w:World)(o:ar)(gen:Nat):Prop:=gen<100\/(gen<=1048576/\qK w/\o 0=none)
theorem js.le{w:World}{o:ar}{gen:Nat}(h:js w o gen):gen<=1048576:=h.elim (fun h=>by omega) (fun h=>h.1)
theorem js.below{w w':World}{o:ar}{gen:Nat}(h:js w o gen)(hb:Below w.heap.size w w'):js w' o gen:=
 h.imp id fun⟨h1,h2,h3⟩=>⟨h1,h2.kept (hb.block _ h2.lt),h3⟩
theorem js.moved{S:Nat->Prop}{n pb db gen:Nat}{w w':World}{o o':ar}{d d':Dsk}{L':aC}(h:js w o gen)(hm:aw S n pb db w o d w' o' d' L')(hs:∀x,¬S x):js w' o' gen:=
 h.imp id fun⟨h1,h2,h3⟩=>⟨h1,h2.kept (hm.block h2.lt h3 (hs _)),hm.free h2.lt h3⟩
theorem Dr:∀(n k:Nat),k<10^(n+1)->(Lib.decDigits k).all iY=true/\(Lib.decDigits k).length<=n+1:=by
 have hb:∀j,j<10->iY (UInt8.ofNat (48+j))=true:=by decide
 intro n;induction n with
 |zero=>
   grind [Lib.decDigits]
 |succ n ih=>
   grind [Lib.decDigits]
theorem yJ(c:UInt8)(k:Nat)(hk:k<100)(w:World) :
 Calls prog 18 #[.int .u8 (c.toNat:Int),.int .i64 (k:Int)] w fun e w'=>e=.returned (.string (aJ c k))/\Below w.heap.size w w':=by
 have hit:=aa (fun W=>Any.strconv_Itoa_small (P:=prog) (ρ:=Tryz.um) { Tryz.itoa with } k hk W);have JI:¬(k:Int)<0:=by omega
 have TM:(Lib.decDigits k).length<=2:=by
  grind [Lib.decDigits_one,Lib.decDigits_two]
 have HT:Hid ((⟨#[c,46]⟩:ByteArray)++⟨(Lib.decDigits k).toArray⟩=aJ c k):=aa (by
  rfl)
 have hcv:Sem.run prog (convert 39 9 (.slice (some ⟨w.heap.size,0,none⟩) 2 2)) (w.alloc (.cells #[.int .u8 (c.toNat:Int),.int .u8 46] 5)).drew=.ok (.string ⟨#[c,46]⟩) (w.alloc (.cells #[.int .u8 (c.toNat:Int),.int .u8 46] 5)).drew:=
  run_convert_bytes_back (P:=prog) _ 39 9 5 ⟨w.heap.size,0,none⟩ 2 [c,46] Tryz.underlying39 Tryz.underlying5 Tryz.underlying9 (fun j hj=>by
   rw[bG,Nat.zero_add];match j,hj with
   |0,_=>simp
   |1,_=>simp)
 generalize Lib.decDigits k=dg at *;go_enter func18,ntmps18;go_wp2;go_region_with (go_at_call 51;refine(hit.o _).mono ?_;rintro e w'⟨rfl,rfl⟩)
 all_goals
  go_wp2;go_ret;exact⟨by rw[<- HT.o];rfl,ai.drew⟩
def EP(c:UInt8)(k:Nat)(dg:List UInt8)(full:Name):Nat->Value->World->Prop
 |0,v,_=>v=.int .u8 (c.toNat:Int)
 |1,v,W=>∃g,v=.slice (some ⟨g,0,none⟩) 2 2/\W.cell? ⟨g,0,none⟩=some (.int .u8 (c.toNat:Int))/\W.cell? ⟨g,1,none⟩=some (.int .u8 46)
 |2,v,_=>v=.string ⟨#[c,46]⟩
 |3,v,_=>v=.int .i64 (k:Int)
 |4,v,_=>v=.string ⟨dg.toArray⟩
 |_,v,_=>v=.string full
theorem KB{c:UInt8}{k:Nat}{dg:List UInt8}{full:Name}(i:Nat)(v:Value)(w w':World)(hb:Below w.heap.size w w')(h:EP c k dg full i v w):EP c k dg full i v w':=by
 match i,h with
 |0,h=>exact h
 |1,⟨g,h1,h2,h3⟩=>exact⟨g,h1,(hb.cell (World.block_lt_of_cell? w _ h2)).trans h2,(hb.cell (World.block_lt_of_cell? w _ h3)).trans h3⟩
 |2,h=>exact h
 |3,h=>exact h
 |4,h=>exact h
 |_+5,h=>exact h
theorem Hv(w:World)(k:Nat)(os:Array Obj):Below w.heap.size w (Go.Sort.grow (w.drewN k) os):=
 ⟨rfl,rfl,rfl,ah,fun j hj=>by show(w.heap++os)[j]? = w.heap[j]?;grind⟩
theorem yK(c:UInt8)(k:Nat)(hk:k<=1048576)(w:World)(hp:qK w) :
 Calls prog 18 #[.int .u8 (c.toNat:Int),.int .i64 (k:Int)] w fun e w'=>e=.returned (.string (aJ c k))/\Below w.heap.size w w':=by
 have hit:Hid (∀W,Below w.heap.size w W->Calls prog 51 #[.int .i64 (k:Int)] W fun e w'=>∃v,e=.returned v/\Below W.heap.size W w'/\v=.string ⟨(Lib.decDigits k).toArray⟩):=aa (fun W hW=>by
  refine(Any.strconv_Itoa (P:=prog) (ρ:=Tryz.um) { Tryz.itoa with } (k:Int) ae ae W (hp.kept (hW.block _ hp.lt))).mono ?_;grind [Lib.itoa_nonneg,Hv])
 have JI:¬(k:Int)<0:=by omega
 have HT:Hid ((⟨#[c,46]⟩:ByteArray)++⟨(Lib.decDigits k).toArray⟩=aJ c k):=aa (by
  rfl)
 have hcv:Hid (∀(W:World)(g:Nat),W.cell? ⟨g,0,none⟩=some (.int .u8 (c.toNat:Int))->W.cell? ⟨g,1,none⟩=some (.int .u8 46)->Sem.run prog (convert 39 9 (.slice (some ⟨g,0,none⟩) 2 2)) W=.ok (.string ⟨#[c,46]⟩) W):=aa (fun W g h0 h1=>
  run_convert_bytes_back (P:=prog) _ 39 9 5 ⟨g,0,none⟩ 2 [c,46] Tryz.underlying39 Tryz.underlying5 Tryz.underlying9 (fun j hj=>by
   rw[bG,Nat.zero_add];match j,hj with
   |0,_=>exact h0
   |1,_=>exact h1))
 have TM:(Lib.decDigits k).length<=7:=(Dr 6 k ae).2;clear hp;generalize Lib.decDigits k=dg at *;generalize aJ c k=full at *;go_enter func18,ntmps18;go_wp2;refine Ar (Below w.heap.size w) (EP c k dg full) (by rfl) (by rfl) aj.drew (fun w1 w2 h1 h2=>h1.trans (h2.mono h1.size)) KB ?_ ?_
 ·intro i o ho a W hC Hw;match i,ho with
  |0,ho=>
    cases ho;have h0:=Hw.old 0 rfl rfl;refine oD (v:=.int .u8 (c.toNat:Int)) (w':=W) ?_ aj rfl;go_simp
  |1,ho=>
    cases ho;obtain⟨v7,h7,rfl⟩:=Hw.get 0 rfl rfl rfl;refine oD (v:=.slice (some ⟨W.heap.size,0,none⟩) 2 2) (w':=W.alloc (.cells #[.int .u8 (c.toNat:Int),.int .u8 46] 5)) ?_ ai ⟨W.heap.size,rfl,ah,ah⟩;go_simp
  |2,ho=>
    cases ho;obtain⟨v8,h8,g,rfl,c0,c1⟩:=Hw.get 1 rfl rfl rfl;have hc:=hcv.o W g c0 c1;refine oD (v:=.string ⟨#[c,46]⟩) (w':=W) ?_ aj rfl;go_simp
  |3,ho=>
    cases ho;have h1:=Hw.old 1 rfl rfl;refine oD (v:=.int .i64 (k:Int)) (w':=W) ?_ aj rfl;go_simp
  |4,ho=>
    cases ho;obtain⟨v10,h10,rfl⟩:=Hw.get 3 rfl rfl rfl;refine Oc (f:=51) (args:=#[.int .i64 (k:Int)]) ?_ (hit.o W hC);go_simp
  |5,ho=>
    cases ho;obtain⟨v9,h9,rfl⟩:=Hw.get 2 rfl rfl rfl;obtain⟨v11,h11,rfl⟩:=Hw.get 4 rfl rfl rfl;refine oD (v:=.string full) (w':=W) ?_ aj rfl;rw[<- HT.o];go_simp;omega
  |6,ho=>
    cases ho;obtain⟨v12,Eo,rfl⟩:=Hw.get 5 rfl rfl rfl;refine oD (v:=.string full) (w':=W) ?_ aj rfl;go_simp
  |_+7,ho=>cases ho
 ·intro listed a W inv hr;have HB:=aa inv.cls;obtain⟨vs,hl,hp,rfl⟩:=Vr inv hr (by rfl) (by rfl);match vs,hl with
  | [v0,v1,v2,v3,v4,v5,v6],_=>
    obtain rfl:=hp 6 v6 rfl;clear hp hl hr inv;simp only[nI];go_simp;go_wp2;go_ret;exact⟨rfl,HB.o⟩
theorem cG(c:UInt8)(k:Nat){w:World}{o:ar}(h:js w o k) :
 Calls prog 18 #[.int .u8 (c.toNat:Int),.int .i64 (k:Int)] w fun e w'=>e=.returned (.string (aJ c k))/\Below w.heap.size w w':=by
 rcases h with h |⟨h1,h2,_⟩
 ·exact yJ c k h w
 ·exact yK c k h1 w h2
theorem qL(k:Nat)(hk:k<=1048576)(w:World):Calls prog 66 #[.int .i64 (k:Int)] w fun e w'=>e=.returned (.bool true)/\w=w':=by
 have h1:(k:Int)<=1048576:=by omega
 have h2:(k:Int) >= 0:=by omega
 go_enter func66,ntmps66;go_wp2;go_ret;simp
end
section
open Go.RowKit Go.Maps Go.MapKept
def b6(vs:List cr)(fl:Bool):gR:=.inl (bz (eL 12) (vs.map cr.bytes),fl)
theorem qM(vs:List cr):gB 12 (vs.map cr.bytes):=fun r hr=>by
 obtain⟨e,_,rfl⟩:=List.mem_map.1 hr;exact e.eB
theorem fR(vs:List cr)(fl:Bool):(b6 vs fl).need<=4*vs.length:=by
 unfold b6 gR.need;dsimp only;rw[dU,List.length_map];have:cy (eL 12) vs.length<=vs.length:=by
  unfold cy;have Eo:eL 12=20:=by decide
  rw[Eo];omega
 omega
def eD(w:World)(v:Value)(vs:List cr):Prop:=
 ∃a cap,v=.slice a vs.length cap/\vs.length<=cap/\cap<=maxLen/\(vs.length=0\/∃b off,a=some ⟨b,off,none⟩/\∀i(h:i<vs.length),w.cell? ⟨b,off+i*3,none⟩=some (.int .u32 (vs[i].r.toNat:Int))/\w.cell? ⟨b,off+i*3+1,none⟩=some (.int .u32 (vs[i].l.toNat:Int))/\w.cell? ⟨b,off+i*3+2,none⟩=some (.int .u32 (vs[i].g.toNat:Int)))
theorem uG(c:UInt8)(hc:iY c=true){k:Nat}(h:k<=1048576):bM (aJ c k)=true:=by
 obtain⟨h1,h2⟩:=Dr 6 k ae;unfold bM aJ;have hs:(ByteArray.mk ([c,46]++Lib.decDigits k).toArray).size=2+(Lib.decDigits k).length:=by
  show Array.size _=_;simp;omega
 rw[hs];simp only[List.cons_append,List.nil_append,List.all_cons,h1,hc,Bool.and_eq_true,decide_eq_true_eq];refine⟨⟨⟨trivial,af,trivial⟩,ae⟩,ae⟩
theorem rF(c:UInt8)(hc:c≠116)(k:Nat):ownName (aJ c k)=false:=by
 unfold ownName aJ Zt Lib.hasPrefix;simp[List.isPrefixOf];intro h;exact absurd h.symm hc
theorem iq{c c':UInt8}(hc:c≠c')(k k':Nat):aJ c k≠aJ c' k':=by
 unfold aJ;intro h;have h1:=congrArg (fun x:ByteArray=>x.data.toList) h;simp only[List.cons_append,List.cons.injEq]at h1;exact hc h1.1
theorem bm(c:UInt8)(hc:c≠116)(k j:Nat):aJ c k≠dw j:=fun e=>by
 have h1:=rF c hc k;rw[e,rE]at h1;cases h1
noncomputable def fN(L:aC)(gen:Nat)(es:List aF)(vs:List cr):aC:=
 aS (aS (aS L (aJ 101 gen) (au (aK false es) true)) (aJ 114 gen) (au (aK true es) true)) (aJ 118 gen) (b6 vs true)
def ER(gen:Nat)(x:Name):Prop:=x=aJ 101 gen\/x=aJ 114 gen\/x=aJ 118 gen\/∃k,k<128/\x=dw k
def R6(n pb db:Nat)(w:World)(o:ar)(d:Dsk)(L:aC)(gen:Nat)(es:List aF)(vs:List cr)(e:Ending)(w':World):Prop:=
 ∃c d' o' L',e=.returned (.int .i64 ((c:Nat):Int))/\aw (fun _=>False) n pb db w o d w' o' d' L'/\(∀x,¬ER gen x->aA L' x=aA L x)/\((c=0/\L'=fN L gen es vs)\/jq d d' (need L+20*es.length+4*vs.length) c)
section
variable {w w':World} {pb db n:Nat} {name:Name} {o o':ar} {d d':Dsk} {L L':aC}
theorem sr(HW:aQ){m:Nat}(yI:dX m)(h:aP w pb db n o d L)(hn:8<=n){es:List aF}{fl:Bool}{raw:Name}{gen:Nat}(hg:js w o gen)(hL:aA L raw=some (au es fl))(Cs:ownName raw=false)(hm:es.length<=m)(he:aA L (aJ 101 gen)=none)(hr:aA L (aJ 114 gen)=none)(hv:aA L (aJ 118 gen)=none)(BD:∀k,aA L (dw k)=none){v:Value}{vs:List cr}(hvs:eD w v vs)(mm:∀x,v.ownBlock=some x->o x=none)(WS:vs.length<65535) :
 Calls prog 45 #[ptrTo pb,.string raw,.int .i64 (gen:Int),v] w (R6 n pb db w o d L gen es vs):=by
 have Zv:raw≠aJ 101 gen:=fun e=>by rw[e,he]at hL;cases hL
 have pq:raw≠aJ 114 gen:=fun e=>by rw[e,hr]at hL;cases hL
 have KC:=aa (qL gen hg.le);have Zw:=aa (fun W o'(hW:js W o' gen)=>cG 101 gen hW);have Zx:=aa (fun W o'(hW:js W o' gen)=>cG 114 gen hW);have Zy:=aa (fun W o'(hW:js W o' gen)=>cG 118 gen hW);have hs1:Hid (∀W o' d',aP W pb db n o' d' L->Calls prog 77 #[ptrTo pb,.string raw,.string (aJ 101 gen),.int .i64 0] W (oC (fun _=>False) n pb db W o' d' L (aJ 101 gen) (aK false es) es.length)):=aa (fun W o' d' hW=>
  Dp (by':=false) HW yI hW hn hL Zv Cs (rF 101 af gen) (uG 101 af hg.le) he BD hm)
 obtain⟨L1,Mt⟩:∃L1,L1=aS L (aJ 101 gen) (au (aK false es) true):=⟨_,rfl⟩;have Xr:aA L1 raw=some (au es fl):=by rw[Mt,ay,if_neg Zv,hL]
 have hr1:aA L1 (aJ 114 gen)=none:=by rw[Mt,ay,if_neg (iq af _ _),hr]
 have adx:∀k,aA L1 (dw k)=none:=fun k=>by rw[Mt,ay,if_neg (fun e=>bm 101 af gen k e.symm),BD]
 have hs2:Hid (∀W o' d',aP W pb db n o' d' L1->Calls prog 77 #[ptrTo pb,.string raw,.string (aJ 114 gen),.int .i64 1] W (oC (fun _=>False) n pb db W o' d' L1 (aJ 114 gen) (aK true es) es.length)):=aa (fun W o' d' hW=>
  Dp (by':=true) HW yI hW hn Xr pq Cs (rF 114 af gen) (uG 114 af hg.le) hr1 adx hm)
 obtain⟨L2,hL2⟩:∃L2,L2=aS L1 (aJ 114 gen) (au (aK true es) true):=⟨_,rfl⟩;have hv2:aA L2 (aJ 118 gen)=none:=by rw[hL2,ay,if_neg (iq af _ _),Mt,ay,if_neg (iq af _ _),hv]
 have Vs:=uG 118 af hg.le;have KD:=aa hg;have oz:Hid (∀W o' d',aP W pb db n o' d' L2->Calls prog 71 #[ptrTo pb,.string (aJ 118 gen)] W (fI n pb db W o' d' L2 (aJ 118 gen))):=aa (fun W o' d' hW=>kB hW _ (bZ Vs));have oy:Hid (∀d':Dsk,cY d' L2 (aJ 118 gen)=if d'.tick.dead=true then 6 else 0):=aa (fun d'=>by
  unfold cY;rw[Vs,hv2];rfl)
 have pQ:Hid (∀W o' d' L',aP W pb db n o' d' L'->Calls prog 67 #[ptrTo pb,.string (aJ 118 gen),.int .i64 12] W (dC W pb (aJ 118 gen) 12 (cA d' (aJ 118 gen)))):=aa (fun W o' d' L' hW=>dD (sz:=12) hW _ (bZ Vs) af af);have k9:Hid (∀W o' d' sb rs,aP W pb db n o' d' (aS L2 (aJ 118 gen) (b6 rs false))->aB W sb pb (aJ 118 gen) 12->o' sb=none->rs.length<65535->∀rv(x:cr),Rd W rv x.bytes->(∀b,rv.ownBlock=some b->o' b=none) ->
  Calls prog 72 #[ptrTo sb,rv] W (jk (fun _=>False) n pb db W o' d' (aS L2 (aJ 118 gen) (b6 rs false)) (aS L2 (aJ 118 gen) (b6 (rs++[x]) false)))):=aa (fun W o' d' sb rs hW hst kN hl rv x hr hro=>by
  have:=j6 HW hW hst kN af af (by rw[ay,if_pos rfl];rfl) (qM rs) (by rw[List.length_map];exact hl) hr x.eB hro;rw[iM]at this;unfold b6 at this ⊢;rw[List.map_append];exact this)
 have Mc:Hid (∀W o' d',aP W pb db n o' d' (aS L2 (aJ 118 gen) (b6 vs false))->Calls prog 79 #[ptrTo pb,.string (aJ 118 gen)] W (jk (fun _=>False) n pb db W o' d' (aS L2 (aJ 118 gen) (b6 vs false)) (aS L2 (aJ 118 gen) (b6 vs true)))):=aa (fun W o' d' hW=>by
  have:=pB HW hW (name:=aJ 118 gen) (ps:=bz (eL 12) (vs.map cr.bytes)) (fl:=false) (by rw[ay,if_pos rfl];rfl);rw[iM]at this;exact this)
 have HK1:Hid ((L1.map (·.1)).Nodup):=aa (by rw[Mt];exact cD h.keys);have HK2:Hid ((L2.map (·.1)).Nodup):=aa (by rw[hL2,Mt];exact cD (cD h.keys));have Gc:Hid (need L1<=need L+4*es.length):=aa (by
  have h1:=cN L (aJ 101 gen) (au (aK false es) true);have h2:=cF (aK false es) true;have h3:=b9 false es;rw[Mt];omega)
 have T1:Hid (∀rs:List cr,rs.length<=vs.length->need (aS L2 (aJ 118 gen) (b6 rs false))<=need L+20*es.length+4*vs.length):=aa (fun rs hrs=>by
  have h1:=cN L1 (aJ 114 gen) (au (aK true es) true);have h2:=cF (aK true es) true;have h3:=b9 true es;have h4:=cN L2 (aJ 118 gen) (b6 rs false);have h5:=fR rs false;have h6:=Gc.o;rw[<- hL2]at h1;omega)
 have De:Hid (∀x,¬ER gen x->aA L1 x=aA L x):=aa (fun x hx=>by rw[Mt,ay,if_neg (fun e=>hx (.inl e))]);have p7:Hid (∀x,¬ER gen x->aA L2 x=aA L x):=aa (fun x hx=>by rw[hL2,ay,if_neg (fun e=>hx (.inr (.inl e))),De.o x hx]);have Zz:Hid (fN L gen es vs=aS L2 (aJ 118 gen) (b6 vs true)):=aa (by unfold fN;rw[hL2,Mt]);have rz:Hid (∀x,¬ER gen x->¬gT (aJ 101 gen) x/\¬gT (aJ 114 gen) x/\x≠aJ 118 gen):=aa (fun x hx=>⟨fun e=>hx (e.imp id (fun h=>.inr (.inr h))),fun e=>hx (.inr (e.imp id .inr)),fun e=>hx (.inr (.inr (.inl e)))⟩);have aiO:Hid (∀x,aA L1 x=aA (aS L (aJ 101 gen) (au (aK false es) true)) x):=aa (fun x=>by rw[Mt]);have aiP:Hid (∀x,aA L2 x=aA (aS L1 (aJ 114 gen) (au (aK true es) true)) x):=aa (fun x=>by rw[hL2]);have H:=aa h;have HVS:=aa hvs;have vQ:=aa mm;obtain⟨va,vc,rfl,aoX,aiQ,-⟩:=hvs;unfold maxLen at aiQ;have hvw:Hid (∀(x:cr)W,Calls prog 78 #[.agg #[.int .u32 (x.r.toNat:Int),.int .u32 (x.l.toNat:Int),.int .u32 (x.g.toNat:Int)]] W (iX W x.bytes)):=aa (fun x W=>Em x W);clear h hg hL Cs hm he hr hv BD mm Zv pq Xr hr1 adx hv2 Vs Mt hL2;unfold ptrTo at *;generalize aJ 101 gen=nE at *;generalize aJ 114 gen=nR at *;generalize aJ 118 gen=nV at *;go_enter func45,ntmps45;go_wp2_with fail;refine(KC.o _).mono ?_;rintro e w'⟨rfl,rfl⟩;go_wp2_with fail;refine(Zw.o _ o KD.o).mono ?_;rintro e w1⟨rfl,hb1⟩;have cS:=aa hb1;clear hb1;go_wp2_with fail;refine(hs1.o w1 o d (H.o.below cS.o)).mono ?_;rintro e w2⟨c2,d2,o2,L2',rfl,cP,ady,hc2⟩;have eu:=aa ((aw.aU H.o cS.o).trans cP (fun _ _ h=>h));have N9:=aa ady;clear cP ady;rcases hc2 with⟨rfl,hl2⟩| om
 ·have JZ:Hid (aw (fun _=>False) n pb db w o d w2 o2 d2 L1):=aa (eu.o.congr HK1.o (fun x=>(aiO.o x).trans (hl2 x).symm));clear hl2 eu N9;go_wp2_with fail;refine(Zx.o _ o2 (KD.o.moved JZ.o (fun _ h=>h))).mono ?_;rintro e w3⟨rfl,hb3⟩;have eF:=aa (JZ.o.below hb3);clear hb3;go_wp2_with fail;refine(hs2.o w3 o2 d2 eF.o.aX).mono ?_;rintro e w4⟨c4,d4,o4,L4',rfl,eC,Cq,gZ⟩;have fZ:=aa (eF.o.trans eC (fun _ _ h=>h));have Oa:=aa Cq;clear eC Cq;rcases gZ with⟨rfl,hl4⟩| u6
  ·have adz:Hid (aw (fun _=>False) n pb db w o d w4 o4 d4 L2):=aa (fZ.o.congr HK2.o (fun x=>(aiP.o x).trans (hl4 x).symm));clear hl4 fZ Oa;go_wp2_with fail;refine(Zy.o _ o4 (KD.o.moved adz.o (fun _ h=>h))).mono ?_;rintro e w5⟨rfl,nT⟩;have kV:=aa (adz.o.below nT);clear nT;have hcc:=aa (oz.o w5 o4 d4 kV.o.aX);unfold fI at hcc;rw[oy.o d4]at hcc;cases Pn:d4.tick.dead with
   |true=>
     rw[Pn,if_pos rfl]at hcc;have P8:=aa Pn;clear Pn;go_wp2_with fail;refine hcc.o.mono ?_;rintro e w6⟨d6,o6,rfl,nO,-,hdd⟩;rw[if_neg af]at nO;have xV:=aa (kV.o.trans nO (fun _ _ h=>h));have uW:=aa (hdd (by first | exact P8.o | trivial));clear nO hdd hcc;go_wp2;go_ret;exact⟨6,d6,o6,L2,rfl,xV.o,p7.o,.inr (.inr ⟨rfl,uW.o⟩)⟩
   |false=>
     rw[Pn,if_neg ah]at hcc;clear Pn;go_wp2_with fail;refine hcc.o.mono ?_;rintro e w6⟨d6,o6,rfl,nO,adA,-⟩;simp only[if_true]at nO;have iR:aA (aS L2 nV (.inl (([]:List Pg),true))) nV=some (.inl (([]:List Pg),true)):=by rw[ay,if_pos rfl]
     have JQ:cA d6 nV=0:=by
      rw[gQ nO.aX iR,adA (by trivial)];rfl
     have RP:aw (fun _=>False) n pb db w5 o4 d4 w6 o6 d6 (aS L2 nV (b6 [] false)):=
      ⟨(nO.aX.weaken iR).congr (cD HK2.o) (fun x=>by
        show aA (aS L2 nV (.inl (([]:List Pg),false))) x=_;rw[ay,ay,ay];by_cases e:x=nV
        ·rw[if_pos e,if_pos e]
        ·rw[if_neg e,if_neg e,if_neg e]),nO.turn,nO.grow,nO.on⟩
     have xV:=aa (kV.o.trans RP (fun _ _ h=>h));have PK:=aa (pQ.o w6 o6 d6 _ nO.aX);rw[JQ]at PK;have HF6:=aa (fun x(hx:w6.heap.size<=x)=>nO.aX.fresh hx);clear nO RP adA JQ iR hcc;go_wp2_with fail;refine PK.o.mono ?_;rintro e w7⟨v7,rfl,Ma,Od,-⟩;obtain⟨sb,rfl,R7,yU⟩:=Od rfl;have Bz:=aa (xV.o.below Ma);have RS:=aa R7;have ZA:Hid (o6 sb=none):=aa (HF6.o _ yU);clear Ma R7 Od PK;unfold ptrTo;generalize hV:vs.length=V at *;have HV:=aa hV;clear hV;go_wp2;go_loopw [60] (fun i wr=>∃(k:Nat)(d':Dsk)(o':ar),k<=V/\i=.int .i64 (k:Int)/\aw (fun _=>False) n pb db w o d wr o' d' (aS L2 nV (b6 (vs.take k) false))/\aB wr sb pb nV 12/\o' sb=none) (fun i _=>V-(intOf i).toNat)
     case atStart=>exact⟨0,d6,o6,Nat.zero_le _,rfl,by simpa using Bz.o,RS.o,ZA.o⟩
     case round=>
      obtain⟨k,d8,o8,hk,rfl,EH,Vt,ZB⟩:=hrel;have rY:=aa EH;have aiR:=aa Vt;have ZC:=aa ZB;have ao0:=Vt.lt;by_cases hlt:k<V
      ·have hkv:k<vs.length:=by rw[HV.o];exact hlt
       obtain⟨a',c',Cc,-,-,hcs⟩:=HVS.o;cases Cc;obtain hcs |⟨b,off,rfl,hcs⟩:=hcs
       ·omega
       obtain⟨g0,g1,g2⟩:=hcs k hkv;have e0:=EH.cell g0 (vQ.o b rfl) (fun h=>h);have e1:=EH.cell g1 (vQ.o b rfl) (fun h=>h);have e2:=EH.cell g2 (vQ.o b rfl) (fun h=>h);have hbl:b<wr.heap.size:=World.block_lt_of_cell? _ _ e0;have oT:Hid (vs.take k++[vs[k]]=vs.take (k+1)):=aa (by rw[List.take_succ_eq_append_getElem hkv]);have JE:(vs.take k).length<65535:=by rw[List.length_take,HV.o];omega
       have R9:=aa (fun W=>hvw.o vs[k] W);have Sa:=aa (fun W rv(hW:aP W pb db n o8 d8 (aS L2 nV (b6 (vs.take k) false)))(hst:aB W sb pb nV 12)(hr:Rd W rv vs[k].bytes)(hro:∀b,rv.ownBlock=some b->o8 b=none)=>k9.o W o8 d8 sb (vs.take k) hW hst ZC.o JE rv vs[k] hr hro);have qa:Hid (∀ob:Obj,aw (fun _=>False) n pb db w o d (wr.alloc ob) o8 d8 (aS L2 nV (b6 (vs.take k) false))):=aa (fun ob=>rY.o.alloc ob);have aiS:Hid ((vs.take k).length<=vs.length):=aa (by rw[List.length_take];omega);clear g0 g1 g2 hcs EH Vt ZB;generalize vs[k]=y at *;go_wp2_with fail;refine(R9.o _).mono ?_;rintro e w9⟨v9,rfl,ho9,Oe⟩;have Mx:=aa ((qa.o _).below Oe);have ZE:aB w9 sb pb nV 12:=(aiR.o.below ai).below Oe;have adB:∀b,v9.ownBlock=some b->o8 b=none:=fun b hb=>rY.o.aX.fresh (Nat.le_trans ah (aG ho9 b hb));have T8:=aa (Sa.o w9 v9 Mx.o.aX ZE (fp ho9) adB);have adC:=aa ZE;clear ho9 Oe ZE adB e0 e1 e2 Sa R9;go_wp2_with fail;refine T8.o.mono ?_;rintro e T9⟨c10,d10,o10,rfl,qN,ZF⟩;have adD:Hid (aB T9 sb pb nV 12):=aa (adC.o.moved qN ZC.o (fun h=>h));have adE:Hid (o10 sb=none):=aa (qN.free adC.o.lt ZC.o);by_cases hc:c10=0
       ·subst hc;rw[if_pos rfl,oT.o]at qN;have Sb:=aa (Mx.o.trans qN (fun _ _ h=>h));clear qN ZF T8;go_wp2;go_roundw
        case rel=>exact⟨k+1,d10,o10,ae,by go_num,Sb.o,adD.o,adE.o⟩
        case measure=>simp[intOf];omega
       ·have hc':¬(c10:Int)=0:=by omega
        rw[if_neg hc]at qN;have Sb:=aa (Mx.o.trans qN (fun _ _ h=>h));have aiU:Hid (jq d d10 (need L+20*es.length+4*vs.length) c10):=aa (((ZF.resolve_left hc).num (T1.o (vs.take k) aiS.o)).later Mx.o.on.bD);clear qN ZF T8 hc;go_wp2;go_ret;exact⟨c10,d10,o10,_,rfl,Sb.o,fun x hx=>by rw[ay,if_neg (rz.o x hx).2.2,p7.o x hx],.inr aiU.o⟩
      ·have htk:vs.take k=vs:=List.take_of_length_le (by rw[HV.o];omega);rw[htk]at rY;have Gz:=aa (Mc.o wr o8 d8 rY.o.aX);clear htk EH Vt ZB;go_wp2_with fail;refine Gz.o.mono ?_;rintro e w9⟨c9,d9,o9,rfl,Ut,he9⟩;have Mx:=aa (rY.o.trans Ut (fun _ _ h=>h));have HE9:=aa he9;clear Ut he9 Gz;go_wp2;go_ret;refine⟨c9,d9,o9,_,rfl,Mx.o,fun x hx=>?_,?_⟩
       ·split
        ·rw[ay,if_neg (rz.o x hx).2.2,p7.o x hx]
        ·rw[ay,if_neg (rz.o x hx).2.2,p7.o x hx]
       ·rcases HE9.o with h | h
        ·subst h;exact .inl ⟨rfl,by rw[if_pos rfl];exact Zz.o.symm⟩
        ·exact .inr (by rw[HV.o];exact(h.num (T1.o vs (by rw[HV.o];exact Nat.le_refl _))).later rY.o.on.bD)
  ·have tZ:¬(c4:Int)=0:=by have:=u6.ne;omega
   have B0:Hid (jq d d4 (need L+20*es.length+4*vs.length) c4):=aa ((u6.mono (by have:=Gc.o;omega)).later eF.o.on.bD);clear u6;go_wp2;go_ret;exact⟨c4,d4,o4,L4',rfl,fZ.o,fun x hx=>(Oa.o x (rz.o x hx).2.1).trans (De.o x hx),.inr B0.o⟩
 ·have Kh:¬(c2:Int)=0:=by have:=om.ne;omega
  have GR:Hid (jq d d2 (need L+20*es.length+4*vs.length) c2):=aa (om.mono ae);clear om;go_wp2;go_ret;exact⟨c2,d2,o2,L2',rfl,eu.o,fun x hx=>N9.o x (rz.o x hx).1,.inr GR.o⟩
end
end
section
open Go.RowKit Go.Maps Go.MapKept
def bT(w:World)(gb:Nat)(x0 x1 x2 x3:Value):Prop:=∃t,w.heap[gb]? = some (.cells #[x0,x1,x2,x3] t)
section
variable {S:Nat->Prop} {w w':World} {pb db n gb:Nat} {name:Name} {o o':ar} {d d':Dsk} {L L':aC} {x0 x1 x2 x3:Value}
theorem bT.kept(h:bT w gb x0 x1 x2 x3)(hb:w'.heap[gb]? = w.heap[gb]?):bT w' gb x0 x1 x2 x3:=by
 obtain⟨t,h⟩:=h;exact⟨t,hb.trans h⟩
theorem bT.lt(h:bT w gb x0 x1 x2 x3):gb<w.heap.size:=by
 obtain⟨t,h⟩:=h;exact(Array.getElem?_eq_some_iff.1 h).1
theorem bT.below(h:bT w gb x0 x1 x2 x3)(hb:Below w.heap.size w w'):bT w' gb x0 x1 x2 x3:=h.kept (hb.block _ h.lt)
theorem bT.moved(h:bT w gb x0 x1 x2 x3)(hm:aw S n pb db w o d w' o' d' L')(ho:o gb=none)(hs:¬S gb):bT w' gb x0 x1 x2 x3:=h.kept (hm.block h.lt ho hs)
theorem bT.cells(h:bT w gb x0 x1 x2 x3):w.cell? ⟨gb,0,none⟩=some x0/\w.cell? ⟨gb,1,none⟩=some x1/\w.cell? ⟨gb,2,none⟩=some x2/\w.cell? ⟨gb,3,none⟩=some x3/\∀j,w.frozen? ⟨gb,j,none⟩=false:=by
 obtain⟨t,h⟩:=h;refine⟨?_,?_,?_,?_,fun j=>aO h j⟩<;>rw[aq h]<;>rfl
theorem bT.aiV(h:bT w gb x0 x1 x2 x3)(v:Value):bT (w.setCell ⟨gb,0,none⟩ v) gb v x1 x2 x3:=by
 obtain⟨t,h⟩:=h;exact⟨t,aT h 0 v⟩
theorem bT.aiW(h:bT w gb x0 x1 x2 x3)(v:Value):bT (w.setCell ⟨gb,1,none⟩ v) gb x0 v x2 x3:=by
 obtain⟨t,h⟩:=h;exact⟨t,aT h 1 v⟩
theorem bT.aiX(h:bT w gb x0 x1 x2 x3)(v:Value):bT (w.setCell ⟨gb,2,none⟩ v) gb x0 x1 v x3:=by
 obtain⟨t,h⟩:=h;exact⟨t,aT h 2 v⟩
theorem bT.aiY(h:bT w gb x0 x1 x2 x3)(v:Value):bT (w.setCell ⟨gb,3,none⟩ v) gb x0 x1 x2 v:=by
 obtain⟨t,h⟩:=h;exact⟨t,aT h 3 v⟩
structure cW(w:World)(o:ar)(gb pb gen N:Nat)(ob ib vb:Nat):Prop where
 raw:bT w gb (ptrTo ob) (ptrTo ib) (ptrTo vb) (.int .i64 (N:Int))
 out:aB w ob pb (aJ 101 gen) 20
 qH:aB w ib pb (aJ 114 gen) 20
 qO:aB w vb pb (aJ 118 gen) 12
 Vu:o gb=none
 PL:o ob=none
 Ua:o ib=none
 Jv:o vb=none
theorem cW.moved{gen N ob ib vb:Nat}(h:cW w o gb pb gen N ob ib vb)(hm:aw (fun _=>False) n pb db w o d w' o' d' L'):cW w' o' gb pb gen N ob ib vb:=
 ⟨h.raw.moved hm h.Vu (fun h=>h),h.out.moved hm h.PL (fun h=>h),h.qH.moved hm h.Ua (fun h=>h),h.qO.moved hm h.Jv (fun h=>h),hm.free h.raw.lt h.Vu,hm.free h.out.lt h.PL,hm.free h.qH.lt h.Ua,hm.free h.qO.lt h.Jv⟩
theorem cW.below{gen N ob ib vb:Nat}(h:cW w o gb pb gen N ob ib vb)(hb:Below w.heap.size w w'):cW w' o gb pb gen N ob ib vb:=
 ⟨h.raw.below hb,h.out.below hb,h.qH.below hb,h.qO.below hb,h.Vu,h.PL,h.Ua,h.Jv⟩
theorem aB.lY{sb sz b j:Nat}{v:Value}(h:aB w sb pb name sz)(hne:sb≠b):aB (w.setCell ⟨b,j,none⟩ v) sb pb name sz:=h.kept (Below.heap_setCell _ _ _ _ hne)
def sy(n pb db:Nat)(w:World)(o:ar)(d:Dsk)(L:aC)(gen N:Nat)(e:Ending)(w':World):Prop:=
 ∃v c d' o',e=.returned (.tuple #[v,.int .i64 ((c:Nat):Int)])/\aw (fun _=>False) n pb db w o d w' o' d' L/\(c=0\/kJ d d' L c)/\(c=0->∃gb ob ib vb,v=ptrTo gb/\cW w' o' gb pb gen N ob ib vb)/\(c≠0->v=.pointer none)
theorem pE(h:aP w pb db n o d L){ps:List Pg}{fl:Bool}(hL:aA L name=some (.inl (ps,fl))){c:Nat}(hc:cA d name=c)(h0:c≠0):c=6/\d.dead=true:=by
 rw[gQ h hL]at hc;split at hc
 ·exact⟨hc.symm,by assumption⟩
 ·exact absurd hc.symm h0
theorem Ct(HW:aQ)(h:aP w pb db n o d L){gen:Nat}(hg:js w o gen){vs:List cr}{es1 Xs:List aF}{fl0 fl1 fl2:Bool}(hv:aA L (aJ 118 gen)=some (b6 vs fl0))(he:aA L (aJ 101 gen)=some (au es1 fl1))(hr:aA L (aJ 114 gen)=some (au Xs fl2)) :
 Calls prog 34 #[ptrTo pb,.int .i64 (gen:Int)] w (sy n pb db w o d L gen vs.length):=by
 have KC:=aa (qL gen hg.le);have Zw:=aa (fun W o'(hW:js W o' gen)=>cG 101 gen hW);have Zx:=aa (fun W o'(hW:js W o' gen)=>cG 114 gen hW);have Zy:=aa (fun W o'(hW:js W o' gen)=>cG 118 gen hW);have hoV:Hid (∀W o' d',aP W pb db n o' d' L->Calls prog 67 #[ptrTo pb,.string (aJ 118 gen),.int .i64 12] W (dC W pb (aJ 118 gen) 12 (cA d' (aJ 118 gen)))/\∀c,cA d' (aJ 118 gen)=c->c≠0->c=6/\d'.dead=true):=aa (fun W o' d' hW=>⟨dD (sz:=12) hW _ (bZ (h.ok hv)) af af,fun c h1 h2=>pE hW hv h1 h2⟩);have hoE:Hid (∀W o' d',aP W pb db n o' d' L->Calls prog 67 #[ptrTo pb,.string (aJ 101 gen),.int .i64 20] W (dC W pb (aJ 101 gen) 20 (cA d' (aJ 101 gen)))/\∀c,cA d' (aJ 101 gen)=c->c≠0->c=6/\d'.dead=true):=aa (fun W o' d' hW=>⟨dD (sz:=20) hW _ (bZ (h.ok he)) af af,fun c h1 h2=>pE hW he h1 h2⟩);have hoR:Hid (∀W o' d',aP W pb db n o' d' L->Calls prog 67 #[ptrTo pb,.string (aJ 114 gen),.int .i64 20] W (dC W pb (aJ 114 gen) 20 (cA d' (aJ 114 gen)))/\∀c,cA d' (aJ 114 gen)=c->c≠0->c=6/\d'.dead=true):=aa (fun W o' d' hW=>⟨dD (sz:=20) hW _ (bZ (h.ok hr)) af af,fun c h1 h2=>pE hW hr h1 h2⟩);have hlen:Hid (∀W o' d' sb,aP W pb db n o' d' L->aB W sb pb (aJ 118 gen) 12->o' sb=none->Calls prog 59 #[ptrTo sb] W (xK n pb db W o' d' L (xL vs.length))):=aa (fun W o' d' sb hW hst kN=>by
  have:=ik HW hW hst kN af af hv (qM vs);rw[List.length_map]at this;exact this)
 have H:=aa h;have KD:=aa hg;clear h hg hv he hr;unfold ptrTo at *;generalize vs.length=N at *;go_enter func34,ntmps34;go_wp2_with fail;refine(KC.o _).mono ?_;rintro e w'⟨rfl,rfl⟩;have HG0:Hid (bT (w.alloc (.cells #[.pointer none,.pointer none,.pointer none,.int .i64 0] 121)) w.heap.size (.pointer none) (.pointer none) (.pointer none) (.int .i64 0)):=aa ⟨_,heap_alloc_new w _⟩;have jQ:Hid (Below w.heap.size w (w.alloc (.cells #[.pointer none,.pointer none,.pointer none,.int .i64 0] 121))):=aa ai;have HOG:Hid (o w.heap.size=none):=aa (H.o.fresh (Nat.le_refl _));go_wp2_with fail;generalize w.alloc (.cells #[.pointer none,.pointer none,.pointer none,.int .i64 0] 121)=W0 at *;refine(Zy.o _ o (KD.o.below jQ.o)).mono ?_;rintro e w1⟨rfl,hb1⟩;have Jm:=aa (HG0.o.below hb1);have cS:Hid (Below w.heap.size w w1):=aa (jQ.o.trans (hb1.mono jQ.o.size));clear hb1;go_wp2_with fail;obtain⟨hcV,hbV⟩:=hoV.o w1 o d (H.o.below cS.o);have HCV:=aa hcV;have HBV:=aa hbV;clear hcV hbV;generalize j5:cA d (aJ 118 gen)=c2 at *;have pP:=aa j5;clear j5;refine HCV.o.mono ?_;rintro e w2⟨v2,rfl,hb2,jl,Sc⟩;have yv:=aa (Jm.o.below hb2);have cX:Hid (Below w.heap.size w w2):=aa (cS.o.trans (hb2.mono cS.o.size));have ag0:w.heap.size<w1.heap.size:=Jm.o.lt;have JZ:Hid (∀v,aw (fun _=>False) n pb db w o d (w2.setCell ⟨w.heap.size,2,none⟩ v) o d L):=aa (fun v=>(aw.aU H.o cX.o).setCell _ _ HOG.o (.inr (Nat.le_refl _)));clear hb2;obtain⟨g0,g1,g2,g3,gz⟩:=yv.o.cells;have gz2:=gz 2;clear gz;by_cases hc2:c2=0
 ·subst hc2;obtain⟨vb,rfl,oA,hvb⟩:=jl rfl;have pq:vb≠w.heap.size:=by omega
  have FE:Hid (aB (w2.setCell ⟨w.heap.size,2,none⟩ (.pointer (some ⟨vb,0,none⟩))) vb pb (aJ 118 gen) 12):=aa (oA.lY pq);have Xt:Hid (bT (w2.setCell ⟨w.heap.size,2,none⟩ (.pointer (some ⟨vb,0,none⟩))) w.heap.size (.pointer none) (.pointer none) (.pointer (some ⟨vb,0,none⟩)) (.int .i64 0)):=aa (yv.o.aiX _);have eF:=aa (JZ.o (.pointer (some ⟨vb,0,none⟩)));have HOV:Hid (o vb=none):=aa (H.o.fresh ae);clear jl Sc oA;unfold ptrTo;go_wp2_with fail;generalize w2.setCell ⟨w.heap.size,2,none⟩ (.pointer (some ⟨vb,0,none⟩))=w3 at *;have uY:=aa (hlen.o w3 o d vb eF.o.aX FE.o HOV.o);refine uY.o.mono ?_;rintro e w4⟨c4,d4,o4,⟨x4,rfl,Xu⟩,eC,u6⟩;have xR:=aa Xu;have B0:=aa u6;have fZ:=aa (eF.o.trans eC (fun _ _ h=>h));have tq:=aa (Xt.o.moved eC HOG.o (fun h=>h));have J7:=aa (FE.o.moved eC HOV.o (fun h=>h));have Vv:Hid (o4 w.heap.size=none):=aa (eC.free Xt.o.lt HOG.o);have Vw:Hid (o4 vb=none):=aa (eC.free FE.o.lt HOV.o);clear eC u6 Xu uY g0 g1 g2 g3 gz2;obtain⟨g0,g1,g2,g3,gz⟩:=tq.o.cells;have gz3:=gz 3;clear gz;have kV:Hid (aw (fun _=>False) n pb db w o d (w4.setCell ⟨w.heap.size,3,none⟩ (.int .i64 (x4:Int))) o4 d4 L):=aa (fZ.o.setCell _ _ Vv.o (.inr (Nat.le_refl _)));have Ny:Hid (bT (w4.setCell ⟨w.heap.size,3,none⟩ (.int .i64 (x4:Int))) w.heap.size (.pointer none) (.pointer none) (.pointer (some ⟨vb,0,none⟩)) (.int .i64 (x4:Int))):=aa (tq.o.aiY _);have ND:Hid (aB (w4.setCell ⟨w.heap.size,3,none⟩ (.int .i64 (x4:Int))) vb pb (aJ 118 gen) 12):=aa (J7.o.lY pq);by_cases gZ:c4=0
  ·subst gZ;have HX:=aa (xR.o rfl);go_wp2_with fail;generalize w4.setCell ⟨w.heap.size,3,none⟩ (.int .i64 (x4:Int))=w5 at *;clear g0 g1 g2 g3 gz3;refine(Zw.o _ o4 (KD.o.moved kV.o (fun _ h=>h))).mono ?_;rintro e w6⟨rfl,yw⟩;have xV:=aa (kV.o.below yw);have TS:=aa (Ny.o.below yw);have HV6:=aa (ND.o.below yw);clear yw;go_wp2_with fail;obtain⟨hcE,hbE⟩:=hoE.o w6 o4 d4 xV.o.aX;have HCE:=aa hcE;have Rg:=aa hbE;clear hcE hbE;generalize hp7:cA d4 (aJ 101 gen)=c7 at *;clear hp7;refine HCE.o.mono ?_;rintro e w7⟨v7,rfl,Ma,Od,Sd⟩;have Bz:=aa (xV.o.below Ma);have Xv:=aa (TS.o.below Ma);have HV7:=aa (HV6.o.below Ma);have T5:w.heap.size<w6.heap.size:=TS.o.lt;clear Ma;obtain⟨g0,g1,g2,g3,gz⟩:=Xv.o.cells;have gz0:=gz 0;clear gz;have adG:Hid (∀v,aw (fun _=>False) n pb db w o d (w7.setCell ⟨w.heap.size,0,none⟩ v) o4 d4 L):=aa (fun v=>Bz.o.setCell _ _ Vv.o (.inr (Nat.le_refl _)));by_cases Np:c7=0
   ·subst Np;obtain⟨ob,rfl,R7,Cn⟩:=Od rfl;have adH:ob≠w.heap.size:=by omega
    have HO8:Hid (aB (w7.setCell ⟨w.heap.size,0,none⟩ (.pointer (some ⟨ob,0,none⟩))) ob pb (aJ 101 gen) 20):=aa (R7.lY adH);have Xk:Hid (aB (w7.setCell ⟨w.heap.size,0,none⟩ (.pointer (some ⟨ob,0,none⟩))) vb pb (aJ 118 gen) 12):=aa (HV7.o.lY pq);have ZG:Hid (bT (w7.setCell ⟨w.heap.size,0,none⟩ (.pointer (some ⟨ob,0,none⟩))) w.heap.size (.pointer (some ⟨ob,0,none⟩)) (.pointer none) (.pointer (some ⟨vb,0,none⟩)) (.int .i64 (x4:Int))):=aa (Xv.o.aiV _);have rY:=aa (adG.o (.pointer (some ⟨ob,0,none⟩)));have Vk:Hid (o4 ob=none):=aa (xV.o.aX.fresh Cn);clear Od Sd R7;unfold ptrTo;go_wp2_with fail;generalize w7.setCell ⟨w.heap.size,0,none⟩ (.pointer (some ⟨ob,0,none⟩))=w8 at *;clear g0 g1 g2 g3 gz0;refine(Zx.o _ o4 (KD.o.moved rY.o (fun _ h=>h))).mono ?_;rintro e w9⟨rfl,Oe⟩;have Mx:=aa (rY.o.below Oe);have Vx:=aa (ZG.o.below Oe);have HV9:=aa (Xk.o.below Oe);have HO9:=aa (HO8.o.below Oe);clear Oe;go_wp2_with fail;obtain⟨hcR,hbR⟩:=hoR.o w9 o4 d4 Mx.o.aX;have HCR:=aa hcR;have HBR:=aa hbR;clear hcR hbR;generalize ai3:cA d4 (aJ 114 gen)=c10 at *;clear ai3;refine HCR.o.mono ?_;rintro e T9⟨v10,rfl,Hx,Sg,KE⟩;have Sb:=aa (Mx.o.below Hx);have ES:=aa (Vx.o.below Hx);have ai4:=aa (HV9.o.below Hx);have ai5:=aa (HO9.o.below Hx);have hs9:w.heap.size<w9.heap.size:=Vx.o.lt;clear Hx;obtain⟨g0,g1,g2,g3,gz⟩:=ES.o.cells;have gz1:=gz 1;clear gz;have Xw:Hid (∀v,aw (fun _=>False) n pb db w o d (T9.setCell ⟨w.heap.size,1,none⟩ v) o4 d4 L):=aa (fun v=>Sb.o.setCell _ _ Vv.o (.inr (Nat.le_refl _)));by_cases Vy:c10=0
    ·subst Vy;obtain⟨ib,rfl,Xx,hib⟩:=Sg rfl;have adI:ib≠w.heap.size:=by omega
     have adJ:=aa (Xx.lY (j:=1) (v:=.pointer (some ⟨ib,0,none⟩)) adI);have HOI:Hid (o4 ib=none):=aa (Mx.o.aX.fresh hib);clear Sg KE Xx;unfold ptrTo;go_wp2;go_ret2;refine⟨_,0,d4,o4,rfl,Xw.o _,.inl rfl,fun _=>⟨w.heap.size,ob,ib,vb,rfl,⟨?_,ai5.o.lY adH,adJ.o,ai4.o.lY pq,Vv.o,Vk.o,HOI.o,Vw.o⟩⟩,fun h=>absurd rfl h⟩;rw[<- HX.o];exact ES.o.aiW _
    ·obtain rfl:=KE Vy;obtain⟨h6,hdd⟩:=HBR.o c10 rfl Vy;have uW:=aa hdd;subst h6;clear Sg KE Vy hdd;go_wp2;go_ret2;exact⟨_,6,d4,o4,rfl,Xw.o _,.inr (.inr ⟨rfl,uW.o⟩),fun h=>absurd h af,fun _=>rfl⟩
   ·obtain rfl:=Sd Np;obtain⟨h6,hdd⟩:=Rg.o c7 rfl Np;have uW:=aa hdd;subst h6;clear Od Sd Np hdd;go_wp2;go_ret2;exact⟨_,6,d4,o4,rfl,adG.o _,.inr (.inr ⟨rfl,uW.o⟩),fun h=>absurd h af,fun _=>rfl⟩
  ·have tZ:¬(c4:Int)=0:=by omega
   have QO:Hid (kJ d d4 L c4):=aa (B0.o.resolve_left gZ);have Bv:=aa gZ;clear gZ;go_wp2;go_ret2;exact⟨_,c4,d4,o4,rfl,kV.o,.inr QO.o,fun h=>absurd h Bv.o,fun _=>rfl⟩
 ·obtain rfl:=Sc hc2;obtain⟨h6,hdd⟩:=HBV.o c2 rfl hc2;have uW:=aa hdd;subst h6;clear jl Sc hc2 hdd;go_wp2;go_ret2;exact⟨_,6,d,o,rfl,JZ.o _,.inr (.inr ⟨rfl,uW.o⟩),fun h=>absurd h af,fun _=>rfl⟩
end
end
section
open Go.RowKit Go.Maps Go.MapKept
section
variable {w w':World} {pb db n gb gen N ob ib vb:Nat} {name:Name} {o o':ar} {d d':Dsk} {L L':aC}
theorem Cu(hg:cW w o gb pb gen N ob ib vb):Calls prog 20 #[ptrTo gb] w fun e w'=>e=.returned (.int .i64 (N:Int))/\w=w':=by
 obtain⟨-,-,-,g3,-⟩:=hg.raw.cells;clear hg;unfold ptrTo;go_enter func20,ntmps20;go_wp2;go_ret;exact⟨rfl,rfl⟩
def KF(x:cr):Value:=.agg #[.int .u32 (x.r.toNat:Int),.int .u32 (x.l.toNat:Int),.int .u32 (x.g.toNat:Int)]
def ai7:cr:=⟨0,0,0⟩
def Sh(n pb db:Nat)(w:World)(o:ar)(d:Dsk)(L:aC)(x:cr)(e:Ending)(w':World):Prop:=
 ∃c d' o',e=.returned (.tuple #[KF (if c=0 then x else ai7),.int .i64 ((c:Nat):Int)])/\aw (fun _=>False) n pb db w o d w' o' d' L/\(c=0\/kJ d d' L c)
theorem ET(HW:aQ)(h:aP w pb db n o d L)(hg:cW w o gb pb gen N ob ib vb){vs:List cr}{fl:Bool}(hL:aA L (aJ 118 gen)=some (b6 vs fl))(hN:N=vs.length)(v:Nat)(hv:v<vs.length)(hv':v<4294967296) :
 Calls prog 23 #[ptrTo gb,.int .u32 (v:Int)] w (Sh n pb db w o d L vs[v]):=by
 have iR:Hid (∀W,Below w.heap.size w W->Calls prog 57 #[ptrTo vb,.int .i64 (v:Int)] W (ug n pb db W o d L vs[v].bytes)):=aa (fun W hW=>by
  have:=ji HW (h.below hW) (hg.qO.below hW) hg.Jv af af hL (qM vs) (i:=v) (by rw[List.length_map];exact hv);rw[List.getElem_map]at this;exact this)
 obtain⟨-,-,g2,g3,-⟩:=hg.raw.cells;have hgl:=hg.raw.lt;have H:=aa h;have hlt:¬((v:Int) >= (N:Int)):=by omega
 generalize vs[v]=x at *;clear h hg hL hN hv;unfold ptrTo at *;have jQ:Hid (Below w.heap.size w (w.alloc (.cells #[.int .u32 0,.int .u32 0,.int .u32 0] 55))):=aa ai;have my:Hid ((w.alloc (.cells #[.int .u32 0,.int .u32 0,.int .u32 0] 55)).heap[w.heap.size]? = some (.cells #[.int .u32 0,.int .u32 0,.int .u32 0] 55)):=aa (heap_alloc_new w _);have Jw:Hid (o w.heap.size=none):=aa (H.o.fresh (Nat.le_refl _));go_enter func23,ntmps23;go_wp2_with fail;generalize w.alloc (.cells #[.int .u32 0,.int .u32 0,.int .u32 0] 55)=W0 at *;refine(iR.o W0 jQ.o).mono ?_;rintro e w1⟨v1,c1,d1,o1,rfl,dY,tu,uh,Au⟩;have hbl:w.heap.size<W0.heap.size:=(Array.getElem?_eq_some_iff.1 my.o).1;have eo:=aa ((aw.aU H.o jQ.o).trans dY (fun _ _ h=>h));have kK:=aa (dY.heap my.o Jw.o (fun h=>h));have Da:=aa tu;have oF:Hid (o1 w.heap.size=none):=aa (dY.free hbl Jw.o);clear dY tu;by_cases hc1:c1=0
 ·subst hc1;obtain⟨k8,tK⟩:=uh rfl;obtain⟨a1,k1,rfl⟩:=az k8;have nu:=aa (fp k8);clear uh Au k8 tK;go_wp2_with fail;refine(GY _ x _ nu.o).mono ?_;rintro e w2⟨rfl,hb2⟩;have eu:=aa (eo.o.below hb2);have hx2:w2.heap[w.heap.size]? = some (.cells #[.int .u32 0,.int .u32 0,.int .u32 0] 55):=by rw[hb2.block _ (Array.getElem?_eq_some_iff.1 kK.o).1];exact kK.o
  have k0:w2.cell? ⟨w.heap.size,0,none⟩=some (.int .u32 0):=by rw[aq hx2];rfl
  have Vz:w2.cell? ⟨w.heap.size,1,none⟩=some (.int .u32 0):=by rw[aq hx2];rfl
  have VA:w2.cell? ⟨w.heap.size,2,none⟩=some (.int .u32 0):=by rw[aq hx2];rfl
  have z0:=aO hx2 0;have z1:=aO hx2 1;have z2:=aO hx2 2;have apl:w.heap.size<w2.heap.size:=(Array.getElem?_eq_some_iff.1 hx2).1;have hx3:(((w2.setCell ⟨w.heap.size,0,none⟩ (.int .u32 (x.r.toNat:Int))).setCell ⟨w.heap.size,1,none⟩ (.int .u32 (x.l.toNat:Int))).setCell ⟨w.heap.size,2,none⟩ (.int .u32 (x.g.toNat:Int))).heap[w.heap.size]? = some (.cells #[.int .u32 (x.r.toNat:Int),.int .u32 (x.l.toNat:Int),.int .u32 (x.g.toNat:Int)] 55):=aT (aT (aT hx2 0 _) 1 _) 2 _;have eF:Hid (aw (fun _=>False) n pb db w o d (((w2.setCell ⟨w.heap.size,0,none⟩ (.int .u32 (x.r.toNat:Int))).setCell ⟨w.heap.size,1,none⟩ (.int .u32 (x.l.toNat:Int))).setCell ⟨w.heap.size,2,none⟩ (.int .u32 (x.g.toNat:Int))) o1 d1 L):=aa (((eu.o.setCell ⟨w.heap.size,0,none⟩ _ oF.o (.inr (Nat.le_refl _))).setCell ⟨w.heap.size,1,none⟩ _ oF.o (.inr (Nat.le_refl _))).setCell ⟨w.heap.size,2,none⟩ _ oF.o (.inr (Nat.le_refl _)));have im:=aa hx3;clear hb2 hx2 hx3;go_wp2;generalize (((w2.setCell ⟨w.heap.size,0,none⟩ (.int .u32 (x.r.toNat:Int))).setCell ⟨w.heap.size,1,none⟩ (.int .u32 (x.l.toNat:Int))).setCell ⟨w.heap.size,2,none⟩ (.int .u32 (x.g.toNat:Int)))=w3 at *;have q0:w3.cell? ⟨w.heap.size,0,none⟩=some (.int .u32 (x.r.toNat:Int)):=by rw[aq im.o];rfl
  have q1:w3.cell? ⟨w.heap.size,1,none⟩=some (.int .u32 (x.l.toNat:Int)):=by rw[aq im.o];rfl
  have q2:w3.cell? ⟨w.heap.size,2,none⟩=some (.int .u32 (x.g.toNat:Int)):=by rw[aq im.o];rfl
  clear k0 Vz VA z0 z1 z2;exact bodyPost_ret (v:=.tuple #[.agg #[.int .u32 (x.r.toNat:Int),.int .u32 (x.l.toNat:Int),.int .u32 (x.g.toNat:Int)],.int .i64 0]) (by simp[results,Tryz.results23,go_sem,q0,q1,q2]) rfl ⟨0,d1,o1,rfl,eF.o,.inl rfl⟩
 ·obtain rfl:=Au hc1;have zr:¬(c1:Int)=0:=by omega
  have QZ:=aa hc1;have k0:w1.cell? ⟨w.heap.size,0,none⟩=some (.int .u32 0):=by rw[aq kK.o];rfl
  have Vz:w1.cell? ⟨w.heap.size,1,none⟩=some (.int .u32 0):=by rw[aq kK.o];rfl
  have VA:w1.cell? ⟨w.heap.size,2,none⟩=some (.int .u32 0):=by rw[aq kK.o];rfl
  have z0:=aO kK.o 0;have z1:=aO kK.o 1;have z2:=aO kK.o 2;have ai8:w.heap.size<w1.heap.size:=(Array.getElem?_eq_some_iff.1 kK.o).1;have hx3:(((w1.setCell ⟨w.heap.size,0,none⟩ (.int .u32 0)).setCell ⟨w.heap.size,1,none⟩ (.int .u32 0)).setCell ⟨w.heap.size,2,none⟩ (.int .u32 0)).heap[w.heap.size]? = some (.cells #[.int .u32 0,.int .u32 0,.int .u32 0] 55):=aT (aT (aT kK.o 0 _) 1 _) 2 _;have eF:Hid (aw (fun _=>False) n pb db w o d (((w1.setCell ⟨w.heap.size,0,none⟩ (.int .u32 0)).setCell ⟨w.heap.size,1,none⟩ (.int .u32 0)).setCell ⟨w.heap.size,2,none⟩ (.int .u32 0)) o1 d1 L):=aa (((eo.o.setCell ⟨w.heap.size,0,none⟩ _ oF.o (.inr (Nat.le_refl _))).setCell ⟨w.heap.size,1,none⟩ _ oF.o (.inr (Nat.le_refl _))).setCell ⟨w.heap.size,2,none⟩ _ oF.o (.inr (Nat.le_refl _)));have im:=aa hx3;clear uh Au hc1 hx3;go_wp2;generalize (((w1.setCell ⟨w.heap.size,0,none⟩ (.int .u32 0)).setCell ⟨w.heap.size,1,none⟩ (.int .u32 0)).setCell ⟨w.heap.size,2,none⟩ (.int .u32 0))=w3 at *;have q0:w3.cell? ⟨w.heap.size,0,none⟩=some (.int .u32 0):=by rw[aq im.o];rfl
  have q1:w3.cell? ⟨w.heap.size,1,none⟩=some (.int .u32 0):=by rw[aq im.o];rfl
  have q2:w3.cell? ⟨w.heap.size,2,none⟩=some (.int .u32 0):=by rw[aq im.o];rfl
  clear k0 Vz VA z0 z1 z2;exact bodyPost_ret (v:=.tuple #[.agg #[.int .u32 0,.int .u32 0,.int .u32 0],.int .i64 (c1:Int)]) (by simp[results,Tryz.results23,go_sem,q0,q1,q2]) rfl ⟨c1,d1,o1,by rw[if_neg QZ.o];rfl,eF.o,Da.o⟩
end
end
section
open Go.RowKit Go.Maps Go.MapKept
section
variable {w w':World} {pb db n gb gen N sb:Nat} {name:Name} {o o':ar} {d d':Dsk} {L L':aC}
def pF(E:Nat->Dsk->Prop)(n pb db:Nat)(w:World)(o:ar)(d:Dsk)(L:aC)(x:aF)(e:Ending)(w':World):Prop:=
 ∃c d' o' y,e=.returned (.tuple #[.agg #[.int .u32 (y.t.toNat:Int),.int .u32 (y.h.toNat:Int),.int .u64 (y.x.toNat:Int),.int .u32 (y.m.toNat:Int)],.int .i64 ((c:Nat):Int)])/\aw (fun _=>False) n pb db w o d w' o' d' L/\E c d'/\(c=0->y=x)/\(c≠0->y=Ac)
def Ds(n pb db:Nat)(w:World)(o:ar)(d:Dsk)(L:aC)(x:aF)(e:Ending)(w':World):Prop:=
 ∃c d' o' y,e=.returned (.tuple #[.agg #[.int .u32 (y.t.toNat:Int),.int .u32 (y.h.toNat:Int),.int .u64 (y.x.toNat:Int),.int .u32 (y.m.toNat:Int)],.int .i64 ((c:Nat):Int)])/\aw (fun _=>False) n pb db w o d w' o' d' L/\(c=0\/kJ d d' L c)/\(c=0->y=x)
def Hy(E:Nat->Dsk->Prop)(n pb db:Nat)(w:World)(o:ar)(d:Dsk)(L:aC)(r:Rec)(e:Ending)(w':World):Prop:=
 ∃v c d' o',e=.returned (.tuple #[v,.int .i64 ((c:Nat):Int)])/\aw (fun _=>False) n pb db w o d w' o' d' L/\E c d' /\
  (c=0->w'.ownsRow w.heap.size 5 1 v r.length (r.map bv)/\∀x,v.ownBlock=some x->o' x=none)/\(c≠0->v=.slice none 0 0)
theorem sA(E:Nat->Dsk->Prop)(h:aP w pb db n o d L){i:Int}{x:aF}(H7:∀W,Below w.heap.size w W->Calls prog 57 #[ptrTo sb,.int .i64 i] W (Hy E n pb db W o d L x.bytes)) :
 Calls prog 60 #[ptrTo sb,.int .i64 i] w (pF E n pb db w o d L x):=by
 have iR:=aa H7;have H:=aa h;clear h H7;unfold ptrTo at *;have jQ:Hid (Below w.heap.size w (w.alloc (.cells #[.int .u32 0,.int .u32 0,.int .u64 0,.int .u32 0] 64))):=aa ai;have my:Hid ((w.alloc (.cells #[.int .u32 0,.int .u32 0,.int .u64 0,.int .u32 0] 64)).heap[w.heap.size]? = some (.cells #[.int .u32 0,.int .u32 0,.int .u64 0,.int .u32 0] 64)):=aa (heap_alloc_new w _);have Jw:Hid (o w.heap.size=none):=aa (H.o.fresh (Nat.le_refl _));go_enter func60,ntmps60;go_wp2_with fail;generalize w.alloc (.cells #[.int .u32 0,.int .u32 0,.int .u64 0,.int .u32 0] 64)=W0 at *;refine(iR.o W0 jQ.o).mono ?_;rintro e w1⟨v1,c1,d1,o1,rfl,dY,tu,uh,Au⟩;have hbl:w.heap.size<W0.heap.size:=(Array.getElem?_eq_some_iff.1 my.o).1;have eo:=aa ((aw.aU H.o jQ.o).trans dY (fun _ _ h=>h));have kK:=aa (dY.heap my.o Jw.o (fun h=>h));have Da:=aa tu;have oF:Hid (o1 w.heap.size=none):=aa (dY.free hbl Jw.o);clear dY tu;have y7:Hid (∀(w2:World)(a b c e:Value),w2.heap[w.heap.size]? = some (.cells #[.int .u32 0,.int .u32 0,.int .u64 0,.int .u32 0] 64)->((((w2.setCell ⟨w.heap.size,0,none⟩ a).setCell ⟨w.heap.size,1,none⟩ b).setCell ⟨w.heap.size,2,none⟩ c).setCell ⟨w.heap.size,3,none⟩ e).heap[w.heap.size]? = some (.cells #[a,b,c,e] 64)):=aa (fun w2 a b c e hx=>aT (aT (aT (aT hx 0 _) 1 _) 2 _) 3 _);by_cases hc1:c1=0
 ·subst hc1;obtain⟨k8,tK⟩:=uh rfl;obtain⟨a1,k1,rfl⟩:=az k8;have nu:=aa (fp k8);clear uh Au k8 tK;go_wp2_with fail;refine(qy _ x _ nu.o).mono ?_;rintro e w2⟨rfl,hb2⟩;have eu:=aa (eo.o.below hb2);have hx2:w2.heap[w.heap.size]? = some (.cells #[.int .u32 0,.int .u32 0,.int .u64 0,.int .u32 0] 64):=by grind [Below.block,Hid.out]
  have k0:w2.cell? ⟨w.heap.size,0,none⟩=some (.int .u32 0):=by rw[aq hx2];rfl
  have Vz:w2.cell? ⟨w.heap.size,1,none⟩=some (.int .u32 0):=by rw[aq hx2];rfl
  have VA:w2.cell? ⟨w.heap.size,2,none⟩=some (.int .u64 0):=by rw[aq hx2];rfl
  have k3':w2.cell? ⟨w.heap.size,3,none⟩=some (.int .u32 0):=by rw[aq hx2];rfl
  have z0:=aO hx2 0;have z1:=aO hx2 1;have z2:=aO hx2 2;have z3:=aO hx2 3;have im:=aa (y7.o w2 (.int .u32 (x.t.toNat:Int)) (.int .u32 (x.h.toNat:Int)) (.int .u64 (x.x.toNat:Int)) (.int .u32 (x.m.toNat:Int)) hx2);have eF:Hid (aw (fun _=>False) n pb db w o d ((((w2.setCell ⟨w.heap.size,0,none⟩ (.int .u32 (x.t.toNat:Int))).setCell ⟨w.heap.size,1,none⟩ (.int .u32 (x.h.toNat:Int))).setCell ⟨w.heap.size,2,none⟩ (.int .u64 (x.x.toNat:Int))).setCell ⟨w.heap.size,3,none⟩ (.int .u32 (x.m.toNat:Int))) o1 d1 L):=aa ((((eu.o.setCell ⟨w.heap.size,0,none⟩ _ oF.o (.inr (Nat.le_refl _))).setCell ⟨w.heap.size,1,none⟩ _ oF.o (.inr (Nat.le_refl _))).setCell ⟨w.heap.size,2,none⟩ _ oF.o (.inr (Nat.le_refl _))).setCell ⟨w.heap.size,3,none⟩ _ oF.o (.inr (Nat.le_refl _)));clear hb2 hx2;go_wp2;generalize ((((w2.setCell ⟨w.heap.size,0,none⟩ (.int .u32 (x.t.toNat:Int))).setCell ⟨w.heap.size,1,none⟩ (.int .u32 (x.h.toNat:Int))).setCell ⟨w.heap.size,2,none⟩ (.int .u64 (x.x.toNat:Int))).setCell ⟨w.heap.size,3,none⟩ (.int .u32 (x.m.toNat:Int)))=w3 at *;have q0:w3.cell? ⟨w.heap.size,0,none⟩=some (.int .u32 (x.t.toNat:Int)):=by rw[aq im.o];rfl
  have q1:w3.cell? ⟨w.heap.size,1,none⟩=some (.int .u32 (x.h.toNat:Int)):=by rw[aq im.o];rfl
  have q2:w3.cell? ⟨w.heap.size,2,none⟩=some (.int .u64 (x.x.toNat:Int)):=by rw[aq im.o];rfl
  have q3:w3.cell? ⟨w.heap.size,3,none⟩=some (.int .u32 (x.m.toNat:Int)):=by rw[aq im.o];rfl
  clear k0 Vz VA k3' z0 z1 z2 z3;exact bodyPost_ret (v:=.tuple #[.agg #[.int .u32 (x.t.toNat:Int),.int .u32 (x.h.toNat:Int),.int .u64 (x.x.toNat:Int),.int .u32 (x.m.toNat:Int)],.int .i64 0]) (by simp[results,Tryz.results60,go_sem,q0,q1,q2,q3]) rfl ⟨0,d1,o1,x,rfl,eF.o,Da.o,fun _=>rfl,fun h=>absurd rfl h⟩
 ·obtain rfl:=Au hc1;have zr:¬(c1:Int)=0:=by omega
  have QZ:=aa hc1;have k0:w1.cell? ⟨w.heap.size,0,none⟩=some (.int .u32 0):=by rw[aq kK.o];rfl
  have Vz:w1.cell? ⟨w.heap.size,1,none⟩=some (.int .u32 0):=by rw[aq kK.o];rfl
  have VA:w1.cell? ⟨w.heap.size,2,none⟩=some (.int .u64 0):=by rw[aq kK.o];rfl
  have k3':w1.cell? ⟨w.heap.size,3,none⟩=some (.int .u32 0):=by rw[aq kK.o];rfl
  have z0:=aO kK.o 0;have z1:=aO kK.o 1;have z2:=aO kK.o 2;have z3:=aO kK.o 3;have im:=aa (y7.o w1 (.int .u32 0) (.int .u32 0) (.int .u64 0) (.int .u32 0) kK.o);have eF:Hid (aw (fun _=>False) n pb db w o d ((((w1.setCell ⟨w.heap.size,0,none⟩ (.int .u32 0)).setCell ⟨w.heap.size,1,none⟩ (.int .u32 0)).setCell ⟨w.heap.size,2,none⟩ (.int .u64 0)).setCell ⟨w.heap.size,3,none⟩ (.int .u32 0)) o1 d1 L):=aa ((((eo.o.setCell ⟨w.heap.size,0,none⟩ _ oF.o (.inr (Nat.le_refl _))).setCell ⟨w.heap.size,1,none⟩ _ oF.o (.inr (Nat.le_refl _))).setCell ⟨w.heap.size,2,none⟩ _ oF.o (.inr (Nat.le_refl _))).setCell ⟨w.heap.size,3,none⟩ _ oF.o (.inr (Nat.le_refl _)));clear uh Au hc1;go_wp2;generalize ((((w1.setCell ⟨w.heap.size,0,none⟩ (.int .u32 0)).setCell ⟨w.heap.size,1,none⟩ (.int .u32 0)).setCell ⟨w.heap.size,2,none⟩ (.int .u64 0)).setCell ⟨w.heap.size,3,none⟩ (.int .u32 0))=w3 at *;have q0:w3.cell? ⟨w.heap.size,0,none⟩=some (.int .u32 0):=by rw[aq im.o];rfl
  have q1:w3.cell? ⟨w.heap.size,1,none⟩=some (.int .u32 0):=by rw[aq im.o];rfl
  have q2:w3.cell? ⟨w.heap.size,2,none⟩=some (.int .u64 0):=by rw[aq im.o];rfl
  have q3:w3.cell? ⟨w.heap.size,3,none⟩=some (.int .u32 0):=by rw[aq im.o];rfl
  clear k0 Vz VA k3' z0 z1 z2 z3;exact bodyPost_ret (v:=.tuple #[.agg #[.int .u32 0,.int .u32 0,.int .u64 0,.int .u32 0],.int .i64 (c1:Int)]) (by simp[results,Tryz.results60,go_sem,q0,q1,q2,q3]) rfl ⟨c1,d1,o1,Ac,rfl,eF.o,Da.o,fun h=>absurd h QZ.o,fun _=>rfl⟩
theorem uH(HW:aQ)(h:aP w pb db n o d L)(hst:aB w sb pb name 20)(ho:o sb=none){es:List aF}{fl:Bool}(hL:aA L name=some (au es fl)){i:Nat}{x:aF}(hi:es[i]? = some x) :
 Calls prog 60 #[ptrTo sb,.int .i64 (i:Int)] w (Ds n pb db w o d L x):=by
 have nZ:=aN hi;refine(sA (fun c d'=>c=0\/kJ d d' L c) h (x:=x) (fun W hW=>?_)).mono fun e w' ⟨c,d',o',y,h1,h2,h3,h4,_⟩=>⟨c,d',o',y,h1,h2,h3,h4⟩;have:=ji HW (h.below hW) (hst.below hW) ho af af hL (dW es) (i:=i) (by grind);rw[List.getElem_map]at this;rw[List.getElem?_eq_getElem nZ]at hi;rw[Option.some.inj hi]at this;exact this
def pT(b:Bool):FuncId:=if b then 56 else 55
theorem KG(x:aF)(w:World):Calls prog 55 #[.agg #[.int .u32 (x.t.toNat:Int),.int .u32 (x.h.toNat:Int),.int .u64 (x.x.toNat:Int),.int .u32 (x.m.toNat:Int)]] w fun e w'=>e=.returned (.int .u32 (x.t.toNat:Int))/\Below w.heap.size w w':=by
 go_enter func55,ntmps55;go_wp2;go_ret;exact⟨rfl,aj.alloc (Nat.le_refl _) _⟩
theorem Og(x:aF)(w:World):Calls prog 56 #[.agg #[.int .u32 (x.t.toNat:Int),.int .u32 (x.h.toNat:Int),.int .u64 (x.x.toNat:Int),.int .u32 (x.m.toNat:Int)]] w fun e w'=>e=.returned (.int .u32 (x.h.toNat:Int))/\Below w.heap.size w w':=by
 go_enter func56,ntmps56;go_wp2;go_ret;exact⟨rfl,aj.alloc (Nat.le_refl _) _⟩
theorem My(b:Bool)(x:aF)(w:World):Calls prog (pT b) #[.agg #[.int .u32 (x.t.toNat:Int),.int .u32 (x.h.toNat:Int),.int .u64 (x.x.toNat:Int),.int .u32 (x.m.toNat:Int)]] w fun e w'=>e=.returned (.int .u32 (fT b x:Int))/\Below w.heap.size w w':=by
 cases b
 ·exact KG x w
 ·exact Og x w
end
end
section
open Go.RowKit Go.Maps Go.MapKept
structure fe(w:World)(o:ar)(xb kb fb vb sb:Nat)(b:Bool)(v bc:Nat):Prop where
 xs:∃t,w.heap[xb]? = some (.cells #[ptrTo sb] t)
 bad:∃t,w.heap[kb]? = some (.cells #[.int .i64 (bc:Int)] t)
 fn:∃t,w.heap[fb]? = some (.cells #[.func (.func (pT b)) #[] #[]] t)
 vtx:∃t,w.heap[vb]? = some (.cells #[.int .u32 (v:Int)] t)
 oxb:o xb=none
 okb:o kb=none
 r7:o fb=none
 Jv:o vb=none
 xk:xb≠kb
 fk:fb≠kb
 vk:vb≠kb
section
variable {w w':World} {pb db n sb xb kb fb vb v bc:Nat} {b:Bool} {name:Name} {o o':ar} {d d':Dsk} {L L':aC}
theorem eE{w:World}{x:Nat}{ob:Obj}(h:w.heap[x]? = some ob):x<w.heap.size:=(Array.getElem?_eq_some_iff.1 h).1
theorem bh{w w':World}(hb:Below w.heap.size w w'){a:Addr}{v:Value}(hc:w.cell? a=some v):w'.cell? a=some v:=(hb.cell (World.block_lt_of_cell? w a hc)).trans hc
theorem fe.lts(h:fe w o xb kb fb vb sb b v bc):xb<w.heap.size/\kb<w.heap.size/\fb<w.heap.size/\vb<w.heap.size:=by
 obtain⟨_,h1⟩:=h.xs;obtain⟨_,h2⟩:=h.bad;obtain⟨_,h3⟩:=h.fn;obtain⟨_,h4⟩:=h.vtx;exact⟨eE h1,eE h2,eE h3,eE h4⟩
theorem fe.cells(h:fe w o xb kb fb vb sb b v bc):w.cell? ⟨xb,0,none⟩=some (ptrTo sb)/\w.cell? ⟨kb,0,none⟩=some (.int .i64 (bc:Int))/\w.cell? ⟨fb,0,none⟩=some (.func (.func (pT b)) #[] #[])/\w.cell? ⟨vb,0,none⟩=some (.int .u32 (v:Int))/\w.frozen? ⟨kb,0,none⟩=false:=by
 obtain⟨_,h1⟩:=h.xs;obtain⟨_,h2⟩:=h.bad;obtain⟨_,h3⟩:=h.fn;obtain⟨_,h4⟩:=h.vtx;refine⟨?_,?_,?_,?_,aO h2 _⟩
 ·rw[aq h1];rfl
 ·rw[aq h2];rfl
 ·rw[aq h3];rfl
 ·rw[aq h4];rfl
theorem fe.moved(h:fe w o xb kb fb vb sb b v bc)(hm:aw (fun _=>False) n pb db w o d w' o' d' L'):fe w' o' xb kb fb vb sb b v bc:=by
 obtain⟨l1,l2,l3,l4⟩:=h.lts;obtain⟨t1,h1⟩:=h.xs;obtain⟨t2,h2⟩:=h.bad;obtain⟨t3,h3⟩:=h.fn;obtain⟨t4,h4⟩:=h.vtx;exact⟨⟨t1,hm.heap h1 h.oxb (fun h=>h)⟩,⟨t2,hm.heap h2 h.okb (fun h=>h)⟩,⟨t3,hm.heap h3 h.r7 (fun h=>h)⟩,⟨t4,hm.heap h4 h.Jv (fun h=>h)⟩,hm.free l1 h.oxb,hm.free l2 h.okb,hm.free l3 h.r7,hm.free l4 h.Jv,h.xk,h.fk,h.vk⟩
theorem fe.below(h:fe w o xb kb fb vb sb b v bc)(hb:Below w.heap.size w w'):fe w' o xb kb fb vb sb b v bc:=by
 obtain⟨l1,l2,l3,l4⟩:=h.lts;obtain⟨t1,h1⟩:=h.xs;obtain⟨t2,h2⟩:=h.bad;obtain⟨t3,h3⟩:=h.fn;obtain⟨t4,h4⟩:=h.vtx;exact⟨⟨t1,(hb.block _ l1).trans h1⟩,⟨t2,(hb.block _ l2).trans h2⟩,⟨t3,(hb.block _ l3).trans h3⟩,⟨t4,(hb.block _ l4).trans h4⟩,h.oxb,h.okb,h.r7,h.Jv,h.xk,h.fk,h.vk⟩
theorem fe.set(h:fe w o xb kb fb vb sb b v bc)(c:Nat):fe (w.setCell ⟨kb,0,none⟩ (.int .i64 (c:Int))) o xb kb fb vb sb b v c:=by
 obtain⟨t1,h1⟩:=h.xs;obtain⟨t2,h2⟩:=h.bad;obtain⟨t3,h3⟩:=h.fn;obtain⟨t4,h4⟩:=h.vtx;refine⟨⟨t1,(Below.heap_setCell _ _ _ _ h.xk).trans h1⟩,⟨t2,aT h2 0 _⟩,⟨t3,(Below.heap_setCell _ _ _ _ h.fk).trans h3⟩,⟨t4,(Below.heap_setCell _ _ _ _ h.vk).trans h4⟩,h.oxb,h.okb,h.r7,h.Jv,h.xk,h.fk,h.vk⟩
theorem wy(b:Bool)(args:Array Value)(w:World):Sem.run prog (callFunc (pT b) args) w=.ok (.enter (pT b) args) w:=by
 cases b
 ·show Sem.run prog (callFunc 55 args) w=.ok (.enter 55 args) w;go_simp
 ·show Sem.run prog (callFunc 56 args) w=.ok (.enter 56 args) w;go_simp
def Av(n pb db:Nat)(w:World)(o:ar)(d:Dsk)(L:aC)(xb kb fb vb sb:Nat)(b:Bool)(v bc:Nat)(x:aF)(e:Ending)(w':World):Prop:=
 ∃r c d' o',e=.returned (.bool r)/\aw (·=kb) n pb db w o d w' o' d' L/\fe w' o' xb kb fb vb sb b v c/\((c=bc/\r=decide (v<=fT b x))\/kJ d d' L c)
theorem KH(HW:aQ)(h:aP w pb db n o d L)(hst:aB w sb pb name 20)(ho:o sb=none){es:List aF}{fl:Bool}(hL:aA L name=some (au es fl))(hm:fe w o xb kb fb vb sb b v bc){i:Nat}{x:aF}(hi:es[i]? = some x) :
 Calls prog 89 #[.int .i64 (i:Int),.pointer (some ⟨xb,0,none⟩),.pointer (some ⟨kb,0,none⟩),.pointer (some ⟨fb,0,none⟩),.pointer (some ⟨vb,0,none⟩)] w (Av n pb db w o d L xb kb fb vb sb b v bc x):=by
 have mG:=aa (uH HW h hst ho hL hi);have HO:=aa hm;obtain⟨c1,c2,c3,c4,-⟩:=hm.cells;obtain⟨l1,l2,l3,l4⟩:=hm.lts;have HE:Hid (∀(y:aF)(W:World),Calls prog (pT b) #[.agg #[.int .u32 (y.t.toNat:Int),.int .u32 (y.h.toNat:Int),.int .u64 (y.x.toNat:Int),.int .u32 (y.m.toNat:Int)]] W fun e w'=>e=.returned (.int .u32 (fT b y:Int))/\Below W.heap.size W w'):=aa (fun y W=>My b y W);clear h hst ho hL hi hm;unfold ptrTo at *;go_enter func89,ntmps89;go_wp2_with fail;refine mG.o.mono ?_;rintro e w1⟨c,d1,o1,y,rfl,dY,tu,Si⟩;have eo:=aa dY;have Da:=aa tu;have Xy:=aa Si;have De:=aa (HO.o.moved dY);clear dY tu Si c1 c2 c3 c4;have cS:Hid (Below w1.heap.size w1 (w1.alloc (.cells #[.int .u32 (y.t.toNat:Int),.int .u32 (y.h.toNat:Int),.int .u64 (y.x.toNat:Int),.int .u32 (y.m.toNat:Int)] 64))):=aa ai;have kK:Hid ((w1.alloc (.cells #[.int .u32 (y.t.toNat:Int),.int .u32 (y.h.toNat:Int),.int .u64 (y.x.toNat:Int),.int .u32 (y.m.toNat:Int)] 64)).heap[w1.heap.size]? = some (.cells #[.int .u32 (y.t.toNat:Int),.int .u32 (y.h.toNat:Int),.int .u64 (y.x.toNat:Int),.int .u32 (y.m.toNat:Int)] 64)):=aa (heap_alloc_new w1 _);have Ub:=aa (De.o.below cS.o);have Xz:Hid (aw (·=kb) n pb db w o d (w1.alloc (.cells #[.int .u32 (y.t.toNat:Int),.int .u32 (y.h.toNat:Int),.int .u64 (y.x.toNat:Int),.int .u32 (y.m.toNat:Int)] 64)) o1 d1 L):=aa ((eo.o.below cS.o).mono (fun _ _ h=>h.elim));have m2:=De.o.lts.2.1;have m5:=Ub.o.cells.2.2.2.2;have m6:=Ub.o.cells.2.1;have m7:=De.o.cells.2.1;obtain⟨-,-,-,-,c5⟩:=De.o.cells;have rz:Hid (w1.heap.size≠kb):=aa ae;have kY:∀(W:World)(bc':Nat),aw (·=kb) n pb db w o d W o1 d1 L->fe W o1 xb kb fb vb sb b v bc'->(bc'=bc/\y=x\/kJ d d1 L bc')->∀W' r,Below W.heap.size W W'->r=decide (v<=fT b y)->Av n pb db w o d L xb kb fb vb sb b v bc x (.returned (.bool r)) W':=by
  intro W bc' g1 g2 g3 W' r g4 g5;refine⟨r,bc',d1,o1,rfl,g1.below g4,g2.below g4,g3.imp (fun⟨a1,a2⟩=>⟨a1,by rw[g5,a2]⟩) id⟩
 have H8:=aa kY;clear kY;by_cases hc:c=0
 ·subst hc;have HF:Hid (bc=bc/\y=x\/kJ d d1 L bc):=aa (.inl ⟨rfl,Xy.o rfl⟩);have eM:=aa (H8.o _ _ Xz.o Ub.o HF.o);go_wp2;generalize w1.alloc (.cells #[.int .u32 (y.t.toNat:Int),.int .u32 (y.h.toNat:Int),.int .u64 (y.x.toNat:Int),.int .u32 (y.m.toNat:Int)] 64)=W at *;have q0:W.cell? ⟨w1.heap.size,0,none⟩=some (.int .u32 (y.t.toNat:Int)):=by rw[aq kK.o];rfl
  have q1:W.cell? ⟨w1.heap.size,1,none⟩=some (.int .u32 (y.h.toNat:Int)):=by rw[aq kK.o];rfl
  have q2:W.cell? ⟨w1.heap.size,2,none⟩=some (.int .u64 (y.x.toNat:Int)):=by rw[aq kK.o];rfl
  have q3:W.cell? ⟨w1.heap.size,3,none⟩=some (.int .u32 (y.m.toNat:Int)):=by rw[aq kK.o];rfl
  obtain⟨-,-,k3,k4,-⟩:=(show fe W o1 xb kb fb vb sb b v _ from Ub.o).cells;have m9:w1.heap.size<W.heap.size:=eE kK.o;have Q0:=aa q0;have Q1:=aa q1;have Q2:=aa q2;have Q3:=aa q3;have K3:=aa k3;have K4:=aa k4;clear q0 q1 q2 q3 k3 k4;refine wq W ?_;refine qz ?_ (fun w' hw'=>by have z3:=bh hw' K3.o;go_simp<;>rfl);refine qz ?_ (fun w' hw'=>by have z0:=bh hw' Q0.o;have z1:=bh hw' Q1.o;have z2:=bh hw' Q2.o;have z3:=bh hw' Q3.o;go_simp<;>rfl);refine sK rfl (fun w' hw'=>(by go_simp;exact wy b _ _)) (fun w' hw'=>((HE.o y w').mono (fun e w'' h=>⟨h.1,hw'.trans (h.2.mono hw'.size)⟩))) (fun K hK=>?_);go_simp;refine hK _ ?_;clear hK K;refine qz ?_ (fun w' hw'=>by have z4:=bh hw' K4.o;go_simp<;>rfl);iterate 2 (refine qz ?_)
  refine wpQuiet_nil ?_;intro w4 hw4;have HW4:=aa hw4;clear hw4;go_wp2;go_ret;refine eM.o _ _ HW4.o ?_;simp
 ·have hc':¬(c:Int)=0:=by omega
  have HF:Hid (c=bc/\y=x\/kJ d d1 L c):=aa (.inr (Da.o.resolve_left hc));have apm:((c:Int) != 0)=true:=by simp;exact hc
  have mz:Hid (((w1.setCell ⟨kb,0,none⟩ (.int .i64 (c:Int))).alloc (.cells #[.int .u32 (y.t.toNat:Int),.int .u32 (y.h.toNat:Int),.int .u64 (y.x.toNat:Int),.int .u32 (y.m.toNat:Int)] 64)).heap[w1.heap.size]? = some (.cells #[.int .u32 (y.t.toNat:Int),.int .u32 (y.h.toNat:Int),.int .u64 (y.x.toNat:Int),.int .u32 (y.m.toNat:Int)] 64)):=aa (by
   have:=heap_alloc_new (w1.setCell ⟨kb,0,none⟩ (.int .i64 (c:Int))) (.cells #[.int .u32 (y.t.toNat:Int),.int .u32 (y.h.toNat:Int),.int .u64 (y.x.toNat:Int),.int .u32 (y.m.toNat:Int)] 64);rw[World.size_setCell]at this;exact this)
  have Oh:=aa (((eo.o.mono (S':=(·=kb)) (fun _ _ h=>h.elim)).setCell ⟨kb,0,none⟩ (.int .i64 (c:Int)) De.o.okb (.inl rfl)).alloc (.cells #[.int .u32 (y.t.toNat:Int),.int .u32 (y.h.toNat:Int),.int .u64 (y.x.toNat:Int),.int .u32 (y.m.toNat:Int)] 64));have Vk:=aa ((De.o.set c).below (aj.alloc (Nat.le_refl _) (.cells #[.int .u32 (y.t.toNat:Int),.int .u32 (y.h.toNat:Int),.int .u64 (y.x.toNat:Int),.int .u32 (y.m.toNat:Int)] 64)));have eM:=aa (H8.o _ _ Oh.o Vk.o HF.o);clear kK cS Ub Xz;go_wp2;generalize (w1.setCell ⟨kb,0,none⟩ (.int .i64 (c:Int))).alloc (.cells #[.int .u32 (y.t.toNat:Int),.int .u32 (y.h.toNat:Int),.int .u64 (y.x.toNat:Int),.int .u32 (y.m.toNat:Int)] 64)=W at *;have q0:W.cell? ⟨w1.heap.size,0,none⟩=some (.int .u32 (y.t.toNat:Int)):=by rw[aq mz.o];rfl
  have q1:W.cell? ⟨w1.heap.size,1,none⟩=some (.int .u32 (y.h.toNat:Int)):=by rw[aq mz.o];rfl
  have q2:W.cell? ⟨w1.heap.size,2,none⟩=some (.int .u64 (y.x.toNat:Int)):=by rw[aq mz.o];rfl
  have q3:W.cell? ⟨w1.heap.size,3,none⟩=some (.int .u32 (y.m.toNat:Int)):=by rw[aq mz.o];rfl
  obtain⟨-,-,k3,k4,-⟩:=(show fe W o1 xb kb fb vb sb b v _ from Vk.o).cells;have m9:w1.heap.size<W.heap.size:=eE mz.o;have Q0:=aa q0;have Q1:=aa q1;have Q2:=aa q2;have Q3:=aa q3;have K3:=aa k3;have K4:=aa k4;clear q0 q1 q2 q3 k3 k4;refine wq W ?_;refine qz ?_ (fun w' hw'=>by have z3:=bh hw' K3.o;go_simp<;>rfl);refine qz ?_ (fun w' hw'=>by have z0:=bh hw' Q0.o;have z1:=bh hw' Q1.o;have z2:=bh hw' Q2.o;have z3:=bh hw' Q3.o;go_simp<;>rfl);refine sK rfl (fun w' hw'=>(by go_simp;exact wy b _ _)) (fun w' hw'=>((HE.o y w').mono (fun e w'' h=>⟨h.1,hw'.trans (h.2.mono hw'.size)⟩))) (fun K hK=>?_);go_simp;refine hK _ ?_;clear hK K;refine qz ?_ (fun w' hw'=>by have z4:=bh hw' K4.o;go_simp<;>rfl);iterate 2 (refine qz ?_)
  refine wpQuiet_nil ?_;intro w4 hw4;have HW4:=aa hw4;clear hw4;go_wp2;go_ret;refine eM.o _ _ HW4.o ?_;simp
def EU(b:Bool)(es:List aF):Prop:=∀(i j:Nat)(x y:aF),es[i]? = some x->es[j]? = some y->i<=j->fT b x<=fT b y
def Split(b:Bool)(v:Nat)(es:List aF)(lo hi:Nat):Prop:=(∀(j:Nat)(x:aF),es[j]? = some x->j<lo->fT b x<v)/\(∀(j:Nat)(x:aF),es[j]? = some x->hi<=j->v<=fT b x)
theorem Split.up{b:Bool}{v:Nat}{es:List aF}{lo hi m:Nat}{x:aF}(h:Split b v es lo hi)(hr:EU b es)(hm:es[m]? = some x)(hx:fT b x<v):Split b v es (m+1) hi:=
 ⟨fun j y hy hj=>Nat.lt_of_le_of_lt (hr j m y x hy hm ae) hx,h.2⟩
theorem Split.down{b:Bool}{v:Nat}{es:List aF}{lo hi m:Nat}{x:aF}(h:Split b v es lo hi)(hr:EU b es)(hm:es[m]? = some x)(hx:v<=fT b x):Split b v es lo m:=
 ⟨h.1,fun j y hy hj=>Nat.le_trans hx (hr m j x y hm hy hj)⟩
theorem kJ.more{d d' gw:Dsk}{L:aC}{c:Nat}(h:kJ d d' L c)(ho:bK d' gw):kJ d gw L c:=h.imp id (fun⟨h1,h2⟩=>⟨h1,ho.dead h2⟩)
def Aw(n pb db:Nat)(w:World)(o:ar)(d:Dsk)(L:aC)(xb kb fb vb sb:Nat)(b:Bool)(v:Nat)(es:List aF)(e:Ending)(w':World):Prop:=
 ∃k c d' o',e=.returned (.int .i64 ((k:Nat):Int))/\k<=es.length/\aw (·=kb) n pb db w o d w' o' d' L/\fe w' o' xb kb fb vb sb b v c/\((c=0/\Split b v es k k)\/kJ d d' L c)
theorem KI(HW:aQ)(h:aP w pb db n o d L)(hst:aB w sb pb name 20)(ho:o sb=none){es:List aF}{fl:Bool}(hL:aA L name=some (au es fl))(hk:sb≠kb)(hm:fe w o xb kb fb vb sb b v 0)(hr:EU b es)(hN:es.length<1000000) :
 Calls prog 88 #[.int .i64 (es.length:Int),.func (.func 89) #[] #[.pointer (some ⟨xb,0,none⟩),.pointer (some ⟨kb,0,none⟩),.pointer (some ⟨fb,0,none⟩),.pointer (some ⟨vb,0,none⟩)]] w (Aw n pb db w o d L xb kb fb vb sb b v es):=by
 have adN:Hid (∀W o' d' c(m:Nat)x,aP W pb db n o' d' L->aB W sb pb name 20->o' sb=none->fe W o' xb kb fb vb sb b v c->es[m]? = some x->Calls prog 89 #[.int .i64 (m:Int),.pointer (some ⟨xb,0,none⟩),.pointer (some ⟨kb,0,none⟩),.pointer (some ⟨fb,0,none⟩),.pointer (some ⟨vb,0,none⟩)] W (Av n pb db W o' d' L xb kb fb vb sb b v c x)):=aa (fun W o' d' c m x a1 a2 a3 a4 a5=>KH HW a1 a2 a3 hL a4 a5);have H:=aa h;have HST:=aa hst;have VB:=aa ho;have HM:=aa hm;have HR:=aa hr;have HES:Hid (∀m,m<es.length->∃x,es[m]? = some x):=aa (fun m hm=>⟨_,List.getElem?_eq_getElem hm⟩);have hsp:Hid (Split b v es 0 es.length):=aa ⟨fun j x _ hj=>absurd hj (Nat.not_lt_zero _),fun j x hx hj=>absurd (aN hx) ae⟩;obtain⟨N,hNe⟩:∃N,N=es.length:=⟨_,rfl⟩;rw[<- hNe]at HES hsp hN ⊢;have rz:=aa hNe;clear h hst ho hL hm hr hNe;go_enter func88,ntmps88;go_wp2;go_loopw [5,6] (fun i j wr=>∃(lo hi c:Nat)(d':Dsk)(o':ar),lo<=hi/\hi<=N/\i=.int .i64 (lo:Int)/\j=.int .i64 (hi:Int)/\aw (·=kb) n pb db w o d wr o' d' L/\fe wr o' xb kb fb vb sb b v c/\((c=0/\Split b v es lo hi)\/kJ d d' L c)) (fun i j _=>(intOf j).toNat-(intOf i).toNat)
 case atStart=>exact⟨0,N,0,d,o,Nat.zero_le _,Nat.le_refl _,rfl,rfl,aw.refl _ H.o,HM.o,.inl ⟨rfl,hsp.o⟩⟩
 case round=>
  obtain⟨lo,hi,c,d1,o1,hlh,hhN,rfl,rfl,dY,adO,hs1⟩:=hrel;have eo:=aa dY;have De:=aa adO;have iU:=aa hs1;clear dY adO hs1;by_cases hlt:lo<hi
  ·obtain⟨m,hme⟩:∃m,m=(lo+hi)/2:=⟨_,rfl⟩;have dY:lo<=m:=by omega
   have cP:m<hi:=by omega
   have hmi:((lo:Int)+(hi:Int))/2=(m:Int):=by omega
   clear hme;obtain⟨x,hx⟩:=HES.o m ae;have T8:=aa (adN.o wr o1 d1 c m _ eo.o.aX (HST.o.moved eo.o VB.o hk) (eo.o.free HST.o.lt VB.o) De.o hx);have HX:=aa hx;clear hx;go_wp2_with fail;clear hmi;refine T8.o.mono ?_;rintro e w2⟨r,c2,d2,o2,rfl,eA,adP,hs3⟩;have eF:Hid (aw (·=kb) n pb db w o d w2 o2 d2 L):=aa (eo.o.trans eA (fun _ _ h=>h));have mB:=aa adP;have fy:Hid ((c2=0/\(r=true->Split b v es lo m)/\(r=false->Split b v es (m+1) hi))\/kJ d d2 L c2):=aa (by
    rcases hs3 with⟨h1,h2⟩| h2
    ·rcases iU.o with⟨h3,h4⟩| h4
     ·refine .inl ⟨h1.trans h3,fun hr=>?_,fun hr=>?_⟩
      ·rw[hr]at h2;exact h4.down HR.o HX.o (of_decide_eq_true h2.symm)
      ·rw[hr]at h2;exact h4.up HR.o HX.o (Nat.lt_of_not_le (of_decide_eq_false h2.symm))
     ·rw[h1];exact .inr (h4.more eA.on)
    ·exact .inr (h2.later eo.o.on.bD))
   clear eA adP hs3 T8;cases r with
   |false=>
     have gj:Hid (c2=0/\Split b v es (m+1) hi\/kJ d d2 L c2):=aa (fy.o.imp (fun h=>⟨h.1,h.2.2 rfl⟩) id);clear fy;go_wp2;go_roundw
     case rel=>exact⟨m+1,hi,c2,d2,o2,ae,hhN,by go_num,rfl,eF.o,mB.o,gj.o⟩
     case measure=>simp[intOf];omega
   |true=>
     have gj:Hid (c2=0/\Split b v es lo m\/kJ d d2 L c2):=aa (fy.o.imp (fun h=>⟨h.1,h.2.1 rfl⟩) id);clear fy;go_wp2;go_roundw
     case rel=>exact⟨lo,m,c2,d2,o2,ae,ae,rfl,rfl,eF.o,mB.o,gj.o⟩
     case measure=>simp[intOf];omega
  ·obtain rfl:lo=hi:=by omega
   go_wp2;go_ret;exact⟨lo,c,d1,o1,rfl,by rw[<- rz.o];exact hhN,eo.o,De.o,iU.o⟩
end
end
end Go.Proofs.YthkkgdpomhhjjaaGreatDoor
