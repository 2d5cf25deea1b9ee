/-
  Joined.
-/
import Derived.Test.YthkkgdpomhhjjaaGreatDoorD08
import Derived.Below
import Derived.Deep.RegionWith
import Derived.Laws.IdiomStrings
set_option maxRecDepth 100000
set_option maxHeartbeats 8000000
namespace Go.Proofs.YthkkgdpomhhjjaaGreatDoor
open Go.Proofs.Tryz
section
open Go.RowKit Go.Maps Go.MapKept
def ZL:ByteArray:=⟨#[116,46]⟩
def ownName(x:Name):Bool:=Lib.hasPrefix x.data.toList ZL.data.toList
theorem rG(k:Nat):ownName (dz k)=true:=by
 unfold ownName dz ZL Lib.hasPrefix;simp
section
variable {w w':World} {pb db n cb kb sb jb bf made:Nat} {by':Bool} {name:Name} {o o':ar} {d d':Dsk} {L L':aD}
theorem AH(s:ByteArray)(w:World):Calls prog 114 #[.string s,.string ⟨#[116,46]⟩] w fun e w'=>e=.returned (.bool (ownName s))/\w=w':=
 (Any.strings_HasPrefix (P:=prog) (ρ:=Tryz.Ao) { Tryz.Zh with } s ⟨#[116,46]⟩ w).mono fun _ _ ⟨h1,h2⟩=>⟨h1,h2.symm⟩
theorem wG{i N:Nat}{x:aJ}{sz:Nat}(h:bC w cb sb i N x)(hs:aC w sb pb name sz):sb≠cb:=by
 rintro rfl;obtain⟨t,h1⟩:=h;obtain⟨t',h2⟩:=hs;rw[h1]at h2;have:=Option.some.inj h2;injection this with a b;have:=congrArg Array.size a;simp at this
theorem Dx(w:World)(pb:Nat)(x:Int)(b:Bool)(hx:x=(lY b:Int)):cU ((w.alloc (.cells #[.int .i64 x] 3)).alloc (.cells #[.pointer (some ⟨pb,0,none⟩),.func (.func 115) #[] #[.pointer (some ⟨w.heap.size,0,none⟩)],.int .i64 0] 205)) (w.heap.size+1) pb w.heap.size 0 b:=by
 subst hx;refine⟨⟨205,?_⟩,⟨3,?_⟩⟩
 ·have:=heap_alloc_new (w.alloc (.cells #[.int .i64 (lY b:Int)] 3)) (.cells #[.pointer (some ⟨pb,0,none⟩),.func (.func 115) #[] #[.pointer (some ⟨w.heap.size,0,none⟩)],.int .i64 0] 205);rw[show(w.alloc (.cells #[.int .i64 (lY b:Int)] 3)).heap.size=w.heap.size+1 by simp]at this;exact this
 ·rw[(MapKept.heap_alloc _ _).2 _ ah];exact heap_alloc_new w _
theorem Dy(HW:aP){m:Nat}(yS:dZ m)(h:aQ w pb db n o d L)(hn:8<=n){es:List aJ}{fl:Bool}{rE out:Name}(hL:aB L rE=some (aw es fl))(hio:rE≠out)(hi:ownName rE=false)(ho:ownName out=false)(hout:bM out=true)(hno:aB L out=none)(BQ:∀k,aB L (dz k)=none)(hm:es.length<=m) :
 Calls prog 77 #[ptrTo pb,.string rE,.string out,.int .i64 (lY by':Int)] w (oD (fun _=>False) n pb db w o d L out (aK by' es) es.length):=by
 have hto:∀k,out≠dz k:=fun k e=>by rw[e,rG]at ho;cases ho
 have zE:=aa (AH rE);have j7:=aa (AH out);simp only[hi]at zE;simp only[ho]at j7;have rF:=aa (fun W(hW:Below w.heap.size w W)=>jv (h.below hW));have pW:Hid (∀W,Below w.heap.size w W->∀jb bf,cU W jb pb bf 0 by'->Calls prog 116 #[ptrTo jb,.string rE] W (qG n pb db W o d L rE es.length)):=aa (fun W hW jb bf hj=>xX HW (h.below hW) hj hL);have nH:Hid (∀W o' d',aQ W pb db n o' d' L->Calls prog 71 #[ptrTo pb,.string out] W (fK n pb db W o' d' L out)):=aa (fun W o' d' hW=>kD hW out (b6 hout));have oA:Hid (∀d':Dsk,dh d' L out=if d'.tick.dead=true then 6 else 0):=aa (fun d'=>by
  unfold dh;rw[hout,hno];rfl)
 have tY:Hid (∀W o' d',aQ W pb db n o' d' (aS L out (.inl (([]:List Pg),true)))->Calls prog 62 #[ptrTo pb,.string out] W (G1 W pb db n o' d' (aS L out (.inl (([]:List Pg),true))) out)):=aa (fun W o' d' hW=>uj hW (ps:=[]) (fl:=true) (by rw[ay,if_pos rfl]));have hdel:Hid (b8 (aS L out (.inl (([]:List Pg),true))) out=L):=aa (by rw[Dl,Ax hno]);have xZ:Hid (∀W o' d' cb sb jb bf,aQ W pb db n o' d' L->cU W jb pb bf 0 by'->o' jb=none->o' bf=none->bf≠jb->bC W cb sb 0 es.length Aq->aC W sb pb rE 20->o' cb=none->o' sb=none->cb≠jb->cb≠bf->sb≠jb->sb≠cb ->
  Calls prog 117 #[ptrTo jb,ptrTo cb,.string out] W (oD (fun x=>x=cb\/x=jb) n pb db W o' d' L out (aK by' es) es.length)):=aa (fun W o' d' cb sb jb bf a1 a2 a3 a4 a5 a6 a7 a8 a9 b1 b2 b3 b4=>yS a1 hn a2 a3 a4 a5 hL a6 a7 a8 a9 b1 b2 b3 b4 hout hno BQ hto hm)
 have hne:(rE.toList == out.toList)=false:=qC hio;have Uh:n<=4096:=by
  obtain⟨fb,mb,l,hand,mf,hp,rfl,-⟩:=h;exact hp.most
 have H:=aa h;have hn8:¬(n:Int)<8:=by omega
 clear h hn hL hio hi ho hout hno BQ hm hto;have hby:((lY by':Int)=0\/(lY by':Int)=1):=by cases by'<;>simp[lY]
 have Y9:Hid (∀v,Below w.heap.size w (w.alloc (.cells #[v] 3))):=aa (fun v=>aj.alloc (Nat.le_refl _) _);have HBC:Hid (∀v,(w.alloc (.cells #[v] 3)).heap[w.heap.size]? = some (.cells #[v] 3)):=aa (fun v=>heap_alloc_new w _);obtain⟨bn,PV⟩:∃bn:Int,bn=(lY by':Int):=⟨_,rfl⟩;rw[<- PV]at hby ⊢;have HBN:=aa PV;clear PV;unfold ptrTo at *;generalize es.length=N at *;rcases hby with rfl | rfl;all_goals
  go_enter func77,ntmps77;go_wp2_with fail;refine(zE.o _).mono ?_;rintro e w'⟨rfl,rfl⟩;go_wp2_with fail;refine(j7.o _).mono ?_;rintro e w'⟨rfl,rfl⟩;go_wp2_with fail;refine(rF.o _ (Y9.o _)).mono ?_;rintro e w'⟨rfl,rfl⟩;go_wp2_with fail
 all_goals
  first
   | (have Zu:Hid (cU ((w.alloc (.cells #[.int .i64 0] 3)).alloc (.cells #[.pointer (some ⟨pb,0,none⟩),.func (.func 115) #[] #[.pointer (some ⟨w.heap.size,0,none⟩)],.int .i64 0] 205)) (w.heap.size+1) pb w.heap.size 0 by'):=aa (Dx w pb 0 by' HBN.o)
      have NU:Hid (Below w.heap.size w ((w.alloc (.cells #[.int .i64 0] 3)).alloc (.cells #[.pointer (some ⟨pb,0,none⟩),.func (.func 115) #[] #[.pointer (some ⟨w.heap.size,0,none⟩)],.int .i64 0] 205))):=aa ((Y9.o _).alloc ah _);have hsz:w.heap.size+2=((w.alloc (.cells #[.int .i64 0] 3)).alloc (.cells #[.pointer (some ⟨pb,0,none⟩),.func (.func 115) #[] #[.pointer (some ⟨w.heap.size,0,none⟩)],.int .i64 0] 205)).heap.size:=by simp
      have Mz:=aa hsz;clear hsz;generalize (w.alloc (.cells #[.int .i64 0] 3)).alloc (.cells #[.pointer (some ⟨pb,0,none⟩),.func (.func 115) #[] #[.pointer (some ⟨w.heap.size,0,none⟩)],.int .i64 0] 205)=W1 at *)
   | (have Zu:Hid (cU ((w.alloc (.cells #[.int .i64 1] 3)).alloc (.cells #[.pointer (some ⟨pb,0,none⟩),.func (.func 115) #[] #[.pointer (some ⟨w.heap.size,0,none⟩)],.int .i64 0] 205)) (w.heap.size+1) pb w.heap.size 0 by'):=aa (Dx w pb 1 by' HBN.o)
      have NU:Hid (Below w.heap.size w ((w.alloc (.cells #[.int .i64 1] 3)).alloc (.cells #[.pointer (some ⟨pb,0,none⟩),.func (.func 115) #[] #[.pointer (some ⟨w.heap.size,0,none⟩)],.int .i64 0] 205))):=aa ((Y9.o _).alloc ah _);have hsz:w.heap.size+2=((w.alloc (.cells #[.int .i64 1] 3)).alloc (.cells #[.pointer (some ⟨pb,0,none⟩),.func (.func 115) #[] #[.pointer (some ⟨w.heap.size,0,none⟩)],.int .i64 0] 205)).heap.size:=by simp
      have Mz:=aa hsz;clear hsz;generalize (w.alloc (.cells #[.int .i64 1] 3)).alloc (.cells #[.pointer (some ⟨pb,0,none⟩),.func (.func 115) #[] #[.pointer (some ⟨w.heap.size,0,none⟩)],.int .i64 0] 205)=W1 at *)
  have hco:=aa (pW.o W1 NU.o (w.heap.size+1) w.heap.size Zu.o);refine hco.o.mono ?_;rintro e w2⟨v2,c2,d2,o2,rfl,cQ,pV,jr⟩;have HC2:=aa cQ;have G6:=aa pV;have eB:Hid (au (fun _=>False) n pb db w o d w2 o2 d2 L):=aa ((au.aW H.o NU.o).trans cQ (fun _ _ h=>h));clear cQ pV hco;by_cases hc2:c2=0
  ·subst hc2;obtain⟨cb,sb,rfl,hs2,oB,KO,Az,Vw,Rp⟩:=jr rfl;have eR:=aa hs2;have nC:=aa oB;have RZ:=aa KO;have Cv:=aa Az;have ZM:=hs2.lt;have adP:=oB.lt;have KE:Hid (sb≠cb):=aa (wG hs2 oB);have apE:w.heap.size+2<=cb:=by rw[Mz.o];exact Vw
   have apF:w.heap.size+2<=sb:=by rw[Mz.o];exact Rp
   clear jr hs2 oB KO Az Vw Rp;unfold ptrTo;have hcc:=aa (nH.o w2 o2 d2 eB.o.aX);unfold fK at hcc;rw[oA.o d2]at hcc;cases Mw:d2.tick.dead with
   |true=>
     rw[Mw,if_pos rfl]at hcc;have oV:=aa Mw;clear Mw;go_wp2_with fail;refine hcc.o.mono ?_;rintro e w3⟨d3,o3,rfl,ej,-,hdd⟩;rw[if_neg af]at ej;have eC:=aa (eB.o.trans ej (fun _ _ h=>h));have u6:=aa (hdd (by first | exact oV.o | trivial));clear ej hdd hcc;go_wp2;go_ret;exact⟨6,d3,o3,L,rfl,eC.o,fun _ _=>rfl,.inr (.inr ⟨rfl,u6.o⟩)⟩
   |false=>
     rw[Mw,if_neg ah]at hcc;clear Mw;go_wp2_with fail;refine hcc.o.mono ?_;rintro e w3⟨d3,o3,rfl,ej,-,-⟩;simp only[if_true]at ej;have JD:=aa (HC2.o.trans ej (fun _ _ h=>h));have eC:=aa (eB.o.trans ej (fun _ _ h=>h));have fB:Hid (bC w3 cb sb 0 N Aq):=aa (eR.o.kept (ej.block ZM RZ.o (fun h=>h)));have Cw:Hid (aC w3 sb pb rE 20):=aa (nC.o.moved ej Cv.o (fun h=>h));have adQ:Hid (o3 cb=none):=aa (ej.free ZM RZ.o);have wy:Hid (o3 sb=none):=aa (ej.free adP Cv.o);have XE:cb<w3.heap.size:=Nat.lt_of_lt_of_le ZM ej.size;have adR:sb<w3.heap.size:=Nat.lt_of_lt_of_le adP ej.size;have hdd:=aa (tY.o w3 o3 d3 ej.aX);clear ej hcc;go_wp2_with fail;refine hdd.o.mono ?_;rintro e w4⟨c4,d4,o4,L4,rfl,oW,tK,hg4,uh,ajd⟩;have eG:au (fun _=>False) n pb db w3 o3 d3 w4 o4 d4 L4:=jn oW tK hg4 uh;have gp:=aa (eC.o.trans eG (fun _ _ h=>h));have BG:=aa (JD.o.trans eG (fun _ _ h=>h));have gq:Hid (bC w4 cb sb 0 N Aq):=aa (fB.o.kept (eG.block XE adQ.o (fun h=>h)));have ur:Hid (aC w4 sb pb rE 20):=aa (Cw.o.moved eG wy.o (fun h=>h));have aje:Hid (o4 cb=none):=aa (eG.free XE adQ.o);have Vr:Hid (o4 sb=none):=aa (eG.free adR wy.o);clear oW tK hg4 uh eG hdd;rcases ajd with⟨rfl,he⟩|⟨rfl,kC,dp,he⟩
     ·have he':=he.trans hdel.o;rw[he']at gp BG;have HJ4:Hid (cU w4 (w.heap.size+1) pb w.heap.size 0 by'):=aa (Zu.o.moved BG.o (H.o.fresh ae) (H.o.fresh (Nat.le_refl _)) (fun h=>h) (fun h=>h));have Nz:=aa (xZ.o w4 o4 d4 cb sb (w.heap.size+1) w.heap.size gp.o.aX HJ4.o (BG.o.free Zu.o.lt.1 (H.o.fresh ae)) (BG.o.free Zu.o.lt.2 (H.o.fresh (Nat.le_refl _))) ae gq.o ur.o aje.o Vr.o ae ae ae KE.o);clear he he';go_wp2_with fail;refine Nz.o.mono ?_;rintro e w5⟨c5,d5,o5,L5,rfl,lD,adS,BC⟩;have lF:=aa (gp.o.trans lD (fun x hx e=>by omega));have ajf:=aa adS;have NL:Hid ((c5=0/\∀x,aB L5 x=aB (aS L out (aw (aK by' es) true)) x)\/ju d d5 (need L+8*N) c5):=aa (BC.imp id (fun h=>h.later gp.o.on.bD));clear lD adS BC Nz;go_wp2;go_ret;exact⟨c5,d5,o5,L5,rfl,lF.o,ajf.o,NL.o⟩
     ·have HE:=aa he;have HD:=aa kC;clear he kC;go_wp2;go_ret;refine⟨6,d4,o4,L4,rfl,gp.o,fun x hx=>?_,.inr (.inr ⟨rfl,HD.o⟩)⟩;rw[HE.o,ay,if_neg (fun e=>hx (.inl e)),ay,if_neg (fun e=>hx (.inl e))]
  ·have Ku:¬(c2:Int)=0:=by omega
   have Ck:Hid (ju d d2 (need L+8*N) c2):=aa ((G6.o.resolve_left hc2).num (Nat.le_add_right _ _));clear hc2 jr;go_wp2;go_ret;exact⟨c2,d2,o2,L,rfl,eB.o,fun _ _=>rfl,.inr Ck.o⟩
end
end
section
open Go Go.RowKit
section
variable {P:Program} {C:World->Prop} {Pd:Nat->Value->World->Prop} {l:List Oper} {a0:Act}
structure jV(C:World->Prop)(Pd:Nat->Value->World->Prop)(l:List Oper)(a0:Act)(listed:Array Bool)(a:Act)(w:World):Prop where
 size:listed.size=l.length
 cls:C w
 XF:a.tmps.size=a0.tmps.size
 dfr:a.defers=a0.defers
 out:∀k,(∀o∈l,o.dst≠some k)->a.tmps[k]? = a0.tmps[k]?
 slot:∀(i:Nat)(o:Oper)(k:Nat),l[i]? = some o->o.dst=some k->listed.getD i true=true->∃v,a.tmps[k]? = some v/\Pd i v w
def mX(Pd:Nat->Value->World->Prop)(l:List Oper)(a0:Act)(o:Oper)(a:Act)(w:World):Prop:=
 (∀k,(∀o∈l,o.dst≠some k)->a.tmps[k]? = a0.tmps[k]?)/\a.tmps.size=a0.tmps.size /\
 ∀e∈o.after,Region.binds .any e=true->∀(oj:Oper)(k:Nat),l[e.on]? = some oj->oj.dst=some k->∃v,a.tmps[k]? = some v/\Pd e.on v w
def uK(P:Program)(Pd:Nat->Value->World->Prop)(i:Nat)(o:Oper)(a:Act)(w:World):Prop:=
 ∀(Q:Exit->Act->World->Prop)(K:Act->World->Prop),(∀v w',Below w.heap.size w w'->Pd i v w'->K (a.put o.dst v) w')->o.wp P a w K Q
theorem Oq{Q:Exit->Act->World->Prop}(hg:∀o∈l,o.guard=none)(hd:∀(i j:Nat)(oi oj:Oper)(k:Nat),l[i]? = some oi->l[j]? = some oj->oi.dst=some k->oj.dst=some k->i=j)(hb:∀o∈l,∀k,o.dst=some k->k<a0.tmps.size)(Ih:∀w w',C w->Below w.heap.size w w'->C w')(hP:∀i v w w',Below w.heap.size w w'->Pd i v w->Pd i v w')(hstep:∀(i:Nat)(o:Oper),l[i]? = some o->∀a w,C w->mX Pd l a0 o a w->uK P Pd i o a w)(hend:∀listed a w,jV C Pd l a0 listed a w->Region.ready .any l.toArray listed=[]->Q .normal a w)(f:Nat) :
 ∀(listed:Array Bool)(a:Act)(w:World),jV C Pd l a0 listed a w->listed.toList.count false<=f->wpAny P .any l.toArray Q f listed a w:=by
 induction f with
 |zero=>
   intro listed a w inv hf;have hall:∀i,listed.getD i true=true:=fun i=>by
    rw[Array.getD_eq_getD_getElem?];grind [List.count_pos_iff]
   have hr:Region.ready .any l.toArray listed=[]:=by
    grind [Region.ready,List.filter_eq_nil_iff]
   exact⟨hr,hend _ _ _ inv hr⟩
 |succ f ih=>
   intro listed a w inv hf;refine⟨hend _ _ _ inv,fun i hi=>?_⟩;obtain⟨vA,o,ho,hall⟩:=mem_ready.1 hi;have kN:l[i]? = some o:=by grind
   have hol:o∈l:=List.mem_of_getElem? kN;have kB:i<l.length:=(List.getElem?_eq_some_iff.1 kN).1;have adU:mX Pd l a0 o a w:=⟨inv.out,inv.XF,fun e he PV oj k lI hk=>inv.slot _ oj k lI hk (by
    grind)⟩
   have hw:Region.wanted o (yielded l.toArray a.tmps)=true:=by
    grind [Region.wanted]
   unfold wpOp;rw[ho];simp only[hw,if_true];refine .inl (hstep i o kN a w inv.cls adU _ _ (fun v w' hbw hv=>ih _ _ _ ⟨?_,Ih _ _ inv.cls hbw,?_,?_,fun k hk=>?_,fun j oj k lI hk hlj=>?_⟩ ?_))
   ·grind [jV.size]
   ·unfold Act.put;grind [jV.XF]
   ·unfold Act.put;grind [jV.dfr]
   ·unfold Act.put;grind [jV.out]
   ·by_cases fg:i=j
    ·grind [Act.put,jV.XF]
    ·have ajg:listed.getD j true=true:=by
      rw[Array.getD_eq_getD_getElem?,Array.getElem?_setIfInBounds_ne fg]at hlj;grind [Array.getD_eq_getD_getElem?]
     obtain⟨u,hu1,hu2⟩:=inv.slot j oj k lI hk ajg;refine⟨u,?_,hP _ _ _ _ hbw hu2⟩;unfold Act.put;grind
   ·have tP:listed[i]? = some false:=by
     rw[Array.getD_eq_getD_getElem?]at vA;grind
    grind
theorem CB{id:Nat}{Q:Exit->Act->World->Prop}{w:World}(C:World->Prop)(Pd:Nat->Value->World->Prop)(hm:P.follows .mixedOrders=true)(hg:∀o∈l,o.guard=none)(hd:∀(i j:Nat)(oi oj:Oper)(k:Nat),l[i]? = some oi->l[j]? = some oj->oi.dst=some k->oj.dst=some k->i=j)(hb:∀o∈l,∀k,o.dst=some k->k<a0.tmps.size)(hC:C w.drew)(Ih:∀w w',C w->Below w.heap.size w w'->C w')(hP:∀i v w w',Below w.heap.size w w'->Pd i v w->Pd i v w')(hstep:∀(i:Nat)(o:Oper),l[i]? = some o->∀a w,C w->mX Pd l a0 o a w->uK P Pd i o a w)(hend:∀listed a w,jV C Pd l a0 listed a w->Region.ready .any l.toArray listed=[]->Q .normal a w):(Code.region id l.toArray true).wp P Q a0 w:=by
 refine wp_region_any hm ?_;refine Oq hg hd hb Ih hP hstep hend _ _ _ _ ⟨ah,hC,rfl,rfl,fun _ _=>rfl,fun i o k ho _ hl=>?_⟩ ?_
 ·have kB:i<l.length:=(List.getElem?_eq_some_iff.1 ho).1;simp_all
 simp
def Ii(l:List Oper)(n:Nat):Bool:=
 l.all (fun o=>o.guard.isNone) && l.all (fun o=>match o.dst with | some k=>decide (k<n) | none=>true) &&
  (List.range l.length).all fun i=>(List.range l.length).all fun j=>decide (i=j) || (match (l[i]?).bind (·.dst),(l[j]?).bind (·.dst) with | some a,some b=>decide (a≠b) | _,_=>true)
theorem AJ{id:Nat}{Q:Exit->Act->World->Prop}{w:World}(C:World->Prop)(Pd:Nat->Value->World->Prop)(hm:P.follows .mixedOrders=true)(hB:Ii l a0.tmps.size=true)(hC:C w.drew)(Ih:∀w w',C w->Below w.heap.size w w'->C w')(hP:∀i v w w',Below w.heap.size w w'->Pd i v w->Pd i v w')(hstep:∀(i:Nat)(o:Oper),l[i]? = some o->∀a w,C w->mX Pd l a0 o a w->uK P Pd i o a w)(hend:∀listed a w,jV C Pd l a0 listed a w->Region.ready .any l.toArray listed=[]->Q .normal a w):(Code.region id l.toArray true).wp P Q a0 w:=by
 simp only[Ii,Bool.and_eq_true,List.all_eq_true]at hB;obtain⟨⟨h1,h2⟩,h3⟩:=hB;refine CB C Pd hm (fun o ho=>by simp_all) (fun i j oi oj k hi hj TZ hkj=>?_) (fun o ho k hk=>?_) hC Ih hP hstep hend
 ·have h4:=h3 i (List.mem_range.2 (List.getElem?_eq_some_iff.1 hi).1) j (List.mem_range.2 (List.getElem?_eq_some_iff.1 hj).1);grind
 grind
theorem oF{i:Nat}{o:Oper}{a:Act}{w w':World}{v:Value}(h:(execOp a.eval o).run P w=.ok (.value v) w')(hb:Below w.heap.size w w')(hp:Pd i v w'):uK P Pd i o a w:=by
 intro Q K hK;unfold Oper.wp;rw[h];exact hK v w' hb hp
theorem Ot{i:Nat}{o:Oper}{a:Act}{w:World}{f:FuncId}{args:Array Value}(h:(execOp a.eval o).run P w=.ok (.enter f args) w)(hc:Calls P f args w fun e w'=>∃v,e=.returned v/\Below w.heap.size w w'/\Pd i v w'):uK P Pd i o a w:=by
 intro Q K hK;unfold Oper.wp;rw[h];refine Calls.mono hc ?_;grind
theorem mX.get{o:Oper}{a:Act}{w:World}(h:mX Pd l a0 o a w)(j:Nat){oj:Oper}{k:Nat}(hj:(o.after.toList.any fun e=>decide (e.on=j) && Region.binds .any e)=true)(ho:l[j]? = some oj)(hk:oj.dst=some k):∃v,a.tmps[k]? = some v/\Pd j v w:=by
 rw[List.any_eq_true]at hj;obtain⟨e,he,h1⟩:=hj;rw[Bool.and_eq_true,decide_eq_true_eq]at h1;obtain⟨rfl,h2⟩:=h1;obtain⟨v,h3,h4⟩:=h.2.2 e (by grind) h2 oj k ho hk;grind
theorem mX.old{o:Oper}{a:Act}{w:World}(h:mX Pd l a0 o a w)(k:Nat){v:Value}(hk:(l.all fun o=>decide (o.dst≠some k))=true)(h0:a0.tmps[k]? = some v):a.tmps[k]? = some v:=by
 refine(h.1 k fun o ho=>?_).trans h0;grind
theorem VA{C:World->Prop}{listed:Array Bool}{a:Act}{w:World}(h:jV C Pd l a0 listed a w)(hr:Region.ready .any l.toArray listed=[])(hB:((List.range l.length).all fun i=>match l[i]? with | some o=>o.after.toList.all (fun e=>decide (e.on<i)) | none=>true)=true) :
 ∀(i:Nat)(o:Oper)(k:Nat),l[i]? = some o->o.dst=some k->∃v,a.tmps[k]? = some v/\Pd i v w:=by
 have hall:∀i,i<l.length->listed.getD i true=true:=by
  intro i;induction i using Nat.strongRecOn with
  |_ i ih=>
    intro hi;by_cases hd:listed.getD i true=true
    ·exact hd
    ·exfalso
     have hd':listed.getD i true=false:=by grind
     have hm:i∈Region.ready .any l.toArray listed:=by
      refine mem_ready.2 ⟨hd',l[i],ah,fun e he _=>?_⟩;rw[List.all_eq_true]at hB;have h1:=hB i (List.mem_range.2 hi);grind
     grind
 grind [jV.slot]
theorem yf{a b:Act}(hs:a.tmps.size=b.tmps.size)(hd:a.defers=b.defers)(he:∀k,k<b.tmps.size->a.tmps[k]? = b.tmps[k]?):a=b:=by
 obtain⟨ta,da⟩:=a;obtain⟨tb,db⟩:=b;grind [Array.ext]
def nM(a:Act):List Oper->List Value->Act
 |o::l,v::vs=>nM (a.put o.dst v) l vs
 |_,_=>a
theorem qM(a:Act)(d:Option Tmp)(v:Value):(a.put d v).tmps.size=a.tmps.size:=by
 unfold Act.put;grind
theorem sr(a:Act)(d:Option Tmp)(v:Value):(a.put d v).defers=a.defers:=by
 unfold Act.put;grind
theorem pH(a:Act)(d:Option Tmp)(v:Value)(k:Nat)(h:d≠some k):(a.put d v).tmps[k]? = a.tmps[k]? := by
 unfold Act.put;grind
theorem qN(l:List Oper):∀(a:Act)(vs:List Value),(nM a l vs).tmps.size=a.tmps.size/\(nM a l vs).defers=a.defers/\∀k,(∀o:Oper,o∈l->o.dst≠some k)->(nM a l vs).tmps[k]? = a.tmps[k]? := by
 induction l with
 |nil=>intro a vs;cases vs<;>exact⟨rfl,rfl,fun _ _=>rfl⟩
 |cons o l ih=>
   intro a vs;cases vs with
   |nil=>exact⟨rfl,rfl,fun _ _=>rfl⟩
   |cons v vs=>
     obtain⟨h1,h2,h3⟩:=ih (a.put o.dst v) vs;exact⟨h1.trans (qM _ _ _),h2.trans (sr _ _ _),fun k hk=>(h3 k (fun o' kN=>hk o' (by grind))).trans (pH _ _ _ _ (hk o ah))⟩
theorem Dz(l:List Oper):∀(a:Act)(vs:List Value)(i:Nat)(o:Oper)(k:Nat)(v:Value),l[i]? = some o->o.dst=some k->vs[i]? = some v->k<a.tmps.size->(∀(j:Nat)(oj:Oper),l[j]? = some oj->oj.dst=some k->j=i)->(nM a l vs).tmps[k]? = some v:=by
 induction l with
 |nil=>simp
 |cons o' l ih=>
   intro a vs i o k v ho hk hv hb hu;cases vs with
   |nil=>cases hv
   |cons v' vs=>
     cases i with
     |zero=>
       cases ho;cases hv;refine((qN l (a.put _ v) vs).2.2 k (fun x hx e=>?_)).trans ?_
       ·obtain⟨j,hj⟩:=List.mem_iff_getElem?.1 hx;have:=hu (j+1) x (by grind) e;omega
       grind [Act.put]
     |succ i=>
       refine ih (a.put o'.dst v') vs i o k v (by grind) hk (by grind) (by grind [qM]) (fun j oj hj he=>?_);have:=hu (j+1) oj (by grind) he;omega
theorem VB{C:World->Prop}{listed:Array Bool}{a:Act}{w:World}(h:jV C Pd l a0 listed a w)(hr:Region.ready .any l.toArray listed=[])(hB:Ii l a0.tmps.size=true)(hA:((List.range l.length).all fun i=>match l[i]? with | some o=>o.after.toList.all (fun e=>decide (e.on<i)) && o.dst.isSome | none=>true)=true) :
 ∃vs:List Value,vs.length=l.length/\(∀i v,vs[i]? = some v->Pd i v w)/\a=nM a0 l vs:=by
 rw[List.all_eq_true]at hA;have hA':∀(i:Nat)(o:Oper),l[i]? = some o->(o.after.toList.all (fun e=>decide (e.on<i)))=true/\∃k,o.dst=some k:=fun i o ho=>by
  grind [Option.isSome_iff_exists]
 have qi:=VA h hr (by
  grind)
 simp only[Ii,Bool.and_eq_true,List.all_eq_true]at hB;obtain⟨⟨_,h2⟩,h3⟩:=hB;have amt:∀(i j:Nat)(oi oj:Oper)(k:Nat),l[i]? = some oi->l[j]? = some oj->oi.dst=some k->oj.dst=some k->i=j:=fun i j oi oj k hi hj TZ hkj=>by
  grind
 refine⟨l.map fun o=>(o.dst.bind (a.tmps[·]?)).getD undef,List.length_map _,fun i v hv=>?_,?_⟩
 ·grind
 ·obtain⟨k1,k2,k3⟩:=qN l a0 (l.map fun o=>(o.dst.bind (a.tmps[·]?)).getD undef);refine yf (by rw[k1,h.XF]) (by rw[k2,h.dfr]) (fun k hk=>?_);rw[k1]at hk;by_cases he:∃o∈l,o.dst=some k
  ·obtain⟨o,ho,eD⟩:=he;obtain⟨i,hi⟩:=List.mem_iff_getElem?.1 ho;grind [Dz]
  grind [jV.out]
end
end
section
open Go.RowKit Go.Maps Go.MapKept
def aG(c:UInt8)(k:Nat):Name:=⟨([c,46]++Lib.decDigits k).toArray⟩
def qO(w:World):Prop:=Lib.TabIs prog w "internal/strconv.uint64pow10" .u64 Lib.pow10Tab
theorem MM:prog.globalNamed "internal/strconv.uint64pow10"=some 0:=by rfl
theorem qO.kept{w w':World}(h:qO w)(hb:w'.heap[(0:Nat)]? = w.heap[(0:Nat)]?):qO w':=by
 grind [qO,Lib.TabIs,World.var?,MM]
theorem qO.lt{w:World}(h:qO w):0<w.heap.size:=by
 grind [qO,Lib.TabIs,World.var?,MM]
def jw(w:World)(o:ar)(gen:Nat):Prop:=gen<100\/(gen<=1048576/\qO w/\o 0=none)
theorem jw.le{w:World}{o:ar}{gen:Nat}(h:jw w o gen):gen<=1048576:=h.elim (fun h=>by omega) (fun h=>h.1)
theorem jw.below{w w':World}{o:ar}{gen:Nat}(h:jw w o gen)(hb:Below w.heap.size w w'):jw w' o gen:=
 h.imp id fun⟨h1,h2,h3⟩=>⟨h1,h2.kept (hb.block _ h2.lt),h3⟩
theorem jw.moved{S:Nat->Prop}{n pb db gen:Nat}{w w':World}{o o':ar}{d d':Dsk}{L':aD}(h:jw w o gen)(hm:au S n pb db w o d w' o' d' L')(hs:∀x,¬S x):jw w' o' gen:=
 h.imp id fun⟨h1,h2,h3⟩=>⟨h1,h2.kept (hm.block h2.lt h3 (hs _)),hm.free h2.lt h3⟩
theorem DA:∀(n k:Nat),k<10^(n+1)->(Lib.decDigits k).all jd=true/\(Lib.decDigits k).length<=n+1:=by
 have hb:∀j,j<10->jd (UInt8.ofNat (48+j))=true:=by decide
 intro n;induction n with
 |zero=>
   grind [Lib.decDigits]
 |succ n ih=>
   grind [Lib.decDigits]
theorem yT(c:UInt8)(k:Nat)(hk:k<100)(w:World) :
 Calls prog 18 #[.int .u8 (c.toNat:Int),.int .i64 (k:Int)] w fun e w'=>e=.returned (.string (aG c k))/\Below w.heap.size w w':=by
 have hit:=aa (fun W=>Any.strconv_Itoa_small (P:=prog) (ρ:=Tryz.uw) { Tryz.itoa with } k hk W);have JP:¬(k:Int)<0:=by omega
 have Mj:(Lib.decDigits k).length<=2:=by
  grind [Lib.decDigits_one,Lib.decDigits_two]
 have HT:Hid ((⟨#[c,46]⟩:ByteArray)++⟨(Lib.decDigits k).toArray⟩=aG c k):=aa (by
  rfl)
 have hcv:Sem.run prog (convert 39 9 (.slice (some ⟨w.heap.size,0,none⟩) 2 2)) (w.alloc (.cells #[.int .u8 (c.toNat:Int),.int .u8 46] 5)).drew=.ok (.string ⟨#[c,46]⟩) (w.alloc (.cells #[.int .u8 (c.toNat:Int),.int .u8 46] 5)).drew:=
  run_convert_bytes_back (P:=prog) _ 39 9 5 ⟨w.heap.size,0,none⟩ 2 [c,46] Tryz.underlying39 Tryz.underlying5 Tryz.underlying9 (fun j hj=>by
   rw[bG,Nat.zero_add];match j,hj with
   |0,_=>simp
   |1,_=>simp)
 generalize Lib.decDigits k=dg at *;go_enter func18,ntmps18;go_wp2;go_region_with (go_at_call 51;refine(hit.o _).mono ?_;rintro e w'⟨rfl,rfl⟩)
 all_goals
  go_wp2;go_ret;exact⟨by rw[<- HT.o];rfl,ai.drew⟩
def E3(c:UInt8)(k:Nat)(dg:List UInt8)(full:Name):Nat->Value->World->Prop
 |0,v,_=>v=.int .u8 (c.toNat:Int)
 |1,v,W=>∃g,v=.slice (some ⟨g,0,none⟩) 2 2/\W.cell? ⟨g,0,none⟩=some (.int .u8 (c.toNat:Int))/\W.cell? ⟨g,1,none⟩=some (.int .u8 46)
 |2,v,_=>v=.string ⟨#[c,46]⟩
 |3,v,_=>v=.int .i64 (k:Int)
 |4,v,_=>v=.string ⟨dg.toArray⟩
 |_,v,_=>v=.string full
theorem KQ{c:UInt8}{k:Nat}{dg:List UInt8}{full:Name}(i:Nat)(v:Value)(w w':World)(hb:Below w.heap.size w w')(h:E3 c k dg full i v w):E3 c k dg full i v w':=by
 match i,h with
 |0,h=>exact h
 |1,⟨g,h1,h2,h3⟩=>exact⟨g,h1,(hb.cell (World.block_lt_of_cell? w _ h2)).trans h2,(hb.cell (World.block_lt_of_cell? w _ h3)).trans h3⟩
 |2,h=>exact h
 |3,h=>exact h
 |4,h=>exact h
 |_+5,h=>exact h
theorem Ij(w:World)(k:Nat)(os:Array Obj):Below w.heap.size w (Go.Sort.grow (w.drewN k) os):=
 ⟨rfl,rfl,rfl,ah,fun j hj=>by show(w.heap++os)[j]? = w.heap[j]?;grind⟩
theorem yU(c:UInt8)(k:Nat)(hk:k<=1048576)(w:World)(hp:qO w) :
 Calls prog 18 #[.int .u8 (c.toNat:Int),.int .i64 (k:Int)] w fun e w'=>e=.returned (.string (aG c k))/\Below w.heap.size w w':=by
 have hit:Hid (∀W,Below w.heap.size w W->Calls prog 51 #[.int .i64 (k:Int)] W fun e w'=>∃v,e=.returned v/\Below W.heap.size W w'/\v=.string ⟨(Lib.decDigits k).toArray⟩):=aa (fun W hW=>by
  refine(Any.strconv_Itoa (P:=prog) (ρ:=Tryz.uw) { Tryz.itoa with } (k:Int) ae ae W (hp.kept (hW.block _ hp.lt))).mono ?_;grind [Lib.itoa_nonneg,Ij])
 have JP:¬(k:Int)<0:=by omega
 have HT:Hid ((⟨#[c,46]⟩:ByteArray)++⟨(Lib.decDigits k).toArray⟩=aG c k):=aa (by
  rfl)
 have hcv:Hid (∀(W:World)(g:Nat),W.cell? ⟨g,0,none⟩=some (.int .u8 (c.toNat:Int))->W.cell? ⟨g,1,none⟩=some (.int .u8 46)->Sem.run prog (convert 39 9 (.slice (some ⟨g,0,none⟩) 2 2)) W=.ok (.string ⟨#[c,46]⟩) W):=aa (fun W g h0 h1=>
  run_convert_bytes_back (P:=prog) _ 39 9 5 ⟨g,0,none⟩ 2 [c,46] Tryz.underlying39 Tryz.underlying5 Tryz.underlying9 (fun j hj=>by
   rw[bG,Nat.zero_add];match j,hj with
   |0,_=>exact h0
   |1,_=>exact h1))
 have Mj:(Lib.decDigits k).length<=7:=(DA 6 k ae).2;clear hp;generalize Lib.decDigits k=dg at *;generalize aG c k=full at *;go_enter func18,ntmps18;go_wp2;refine AJ (Below w.heap.size w) (E3 c k dg full) (by rfl) (by rfl) aj.drew (fun w1 w2 h1 h2=>h1.trans (h2.mono h1.size)) KQ ?_ ?_
 ·intro i o ho a W hC Ik;match i,ho with
  |0,ho=>
    cases ho;have h0:=Ik.old 0 rfl rfl;refine oF (v:=.int .u8 (c.toNat:Int)) (w':=W) ?_ aj rfl;go_simp
  |1,ho=>
    cases ho;obtain⟨v7,h7,rfl⟩:=Ik.get 0 rfl rfl rfl;refine oF (v:=.slice (some ⟨W.heap.size,0,none⟩) 2 2) (w':=W.alloc (.cells #[.int .u8 (c.toNat:Int),.int .u8 46] 5)) ?_ ai ⟨W.heap.size,rfl,ah,ah⟩;go_simp
  |2,ho=>
    cases ho;obtain⟨v8,h8,g,rfl,c0,c1⟩:=Ik.get 1 rfl rfl rfl;have hc:=hcv.o W g c0 c1;refine oF (v:=.string ⟨#[c,46]⟩) (w':=W) ?_ aj rfl;go_simp
  |3,ho=>
    cases ho;have h1:=Ik.old 1 rfl rfl;refine oF (v:=.int .i64 (k:Int)) (w':=W) ?_ aj rfl;go_simp
  |4,ho=>
    cases ho;obtain⟨v10,h10,rfl⟩:=Ik.get 3 rfl rfl rfl;refine Ot (f:=51) (args:=#[.int .i64 (k:Int)]) ?_ (hit.o W hC);go_simp
  |5,ho=>
    cases ho;obtain⟨v9,h9,rfl⟩:=Ik.get 2 rfl rfl rfl;obtain⟨v11,h11,rfl⟩:=Ik.get 4 rfl rfl rfl;refine oF (v:=.string full) (w':=W) ?_ aj rfl;rw[<- HT.o];go_simp;omega
  |6,ho=>
    cases ho;obtain⟨v12,EB,rfl⟩:=Ik.get 5 rfl rfl rfl;refine oF (v:=.string full) (w':=W) ?_ aj rfl;go_simp
  |_+7,ho=>cases ho
 ·intro listed a W inv hr;have HB:=aa inv.cls;obtain⟨vs,hl,hp,rfl⟩:=VB inv hr (by rfl) (by rfl);match vs,hl with
  | [v0,v1,v2,v3,v4,v5,v6],_=>
    obtain rfl:=hp 6 v6 rfl;clear hp hl hr inv;simp only[nM];go_simp;go_wp2;go_ret;exact⟨rfl,HB.o⟩
theorem cX(c:UInt8)(k:Nat){w:World}{o:ar}(h:jw w o k) :
 Calls prog 18 #[.int .u8 (c.toNat:Int),.int .i64 (k:Int)] w fun e w'=>e=.returned (.string (aG c k))/\Below w.heap.size w w':=by
 rcases h with h |⟨h1,h2,_⟩
 ·exact yT c k h w
 ·exact yU c k h1 w h2
theorem qP(k:Nat)(hk:k<=1048576)(w:World):Calls prog 66 #[.int .i64 (k:Int)] w fun e w'=>e=.returned (.bool true)/\w=w':=by
 have h1:(k:Int)<=1048576:=by omega
 have h2:(k:Int) >= 0:=by omega
 go_enter func66,ntmps66;go_wp2;go_ret;simp
end
section
open Go.RowKit Go.Maps Go.MapKept
def b7(vs:List bW)(fl:Bool):gT:=.inl (bz (eQ 12) (vs.map bW.bytes),fl)
theorem qQ(vs:List bW):gF 12 (vs.map bW.bytes):=fun r hr=>by
 obtain⟨e,_,rfl⟩:=List.mem_map.1 hr;exact e.eF
theorem fU(vs:List bW)(fl:Bool):(b7 vs fl).need<=4*vs.length:=by
 unfold b7 gT.need;dsimp only;rw[dW,List.length_map];have:cA (eQ 12) vs.length<=vs.length:=by
  unfold cA;have EB:eQ 12=20:=by decide
  rw[EB];omega
 omega
def eH(w:World)(v:Value)(vs:List bW):Prop:=
 ∃a cap,v=.slice a vs.length cap/\vs.length<=cap/\cap<=maxLen/\(vs.length=0\/∃b off,a=some ⟨b,off,none⟩/\∀i(h:i<vs.length),w.cell? ⟨b,off+i*3,none⟩=some (.int .u32 (vs[i].r.toNat:Int))/\w.cell? ⟨b,off+i*3+1,none⟩=some (.int .u32 (vs[i].l.toNat:Int))/\w.cell? ⟨b,off+i*3+2,none⟩=some (.int .u32 (vs[i].g.toNat:Int)))
theorem uL(c:UInt8)(hc:jd c=true){k:Nat}(h:k<=1048576):bM (aG c k)=true:=by
 obtain⟨h1,h2⟩:=DA 6 k ae;unfold bM aG;have hs:(ByteArray.mk ([c,46]++Lib.decDigits k).toArray).size=2+(Lib.decDigits k).length:=by
  show Array.size _=_;simp;omega
 rw[hs];simp only[List.cons_append,List.nil_append,List.all_cons,h1,hc,Bool.and_eq_true,decide_eq_true_eq];refine⟨⟨⟨trivial,af,trivial⟩,ae⟩,ae⟩
theorem rH(c:UInt8)(hc:c≠116)(k:Nat):ownName (aG c k)=false:=by
 unfold ownName aG ZL Lib.hasPrefix;simp[List.isPrefixOf];intro h;exact absurd h.symm hc
theorem iw{c c':UInt8}(hc:c≠c')(k k':Nat):aG c k≠aG c' k':=by
 unfold aG;intro h;have h1:=congrArg (fun x:ByteArray=>x.data.toList) h;simp only[List.cons_append,List.cons.injEq]at h1;exact hc h1.1
theorem bq(c:UInt8)(hc:c≠116)(k j:Nat):aG c k≠dz j:=fun e=>by
 have h1:=rH c hc k;rw[e,rG]at h1;cases h1
noncomputable def fP(L:aD)(gen:Nat)(es:List aJ)(vs:List bW):aD:=
 aS (aS (aS L (aG 101 gen) (aw (aK false es) true)) (aG 114 gen) (aw (aK true es) true)) (aG 118 gen) (b7 vs true)
def E4(gen:Nat)(x:Name):Prop:=x=aG 101 gen\/x=aG 114 gen\/x=aG 118 gen\/∃k,k<128/\x=dz k
def Sm(n pb db:Nat)(w:World)(o:ar)(d:Dsk)(L:aD)(gen:Nat)(es:List aJ)(vs:List bW)(e:Ending)(w':World):Prop:=
 ∃c d' o' L',e=.returned (.int .i64 ((c:Nat):Int))/\au (fun _=>False) n pb db w o d w' o' d' L'/\(∀x,¬E4 gen x->aB L' x=aB L x)/\((c=0/\L'=fP L gen es vs)\/ju d d' (need L+20*es.length+4*vs.length) c)
section
variable {w w':World} {pb db n:Nat} {name:Name} {o o':ar} {d d':Dsk} {L L':aD}
theorem sy(HW:aP){m:Nat}(yS:dZ m)(h:aQ w pb db n o d L)(hn:8<=n){es:List aJ}{fl:Bool}{raw:Name}{gen:Nat}(hg:jw w o gen)(hL:aB L raw=some (aw es fl))(CC:ownName raw=false)(hm:es.length<=m)(he:aB L (aG 101 gen)=none)(hr:aB L (aG 114 gen)=none)(hv:aB L (aG 118 gen)=none)(BQ:∀k,aB L (dz k)=none){v:Value}{vs:List bW}(hvs:eH w v vs)(my:∀x,v.ownBlock=some x->o x=none)(UU:vs.length<65535) :
 Calls prog 45 #[ptrTo pb,.string raw,.int .i64 (gen:Int),v] w (Sm n pb db w o d L gen es vs):=by
 have ZN:raw≠aG 101 gen:=fun e=>by rw[e,he]at hL;cases hL
 have iW:raw≠aG 114 gen:=fun e=>by rw[e,hr]at hL;cases hL
 have KR:=aa (qP gen hg.le);have ZO:=aa (fun W o'(hW:jw W o' gen)=>cX 101 gen hW);have ZP:=aa (fun W o'(hW:jw W o' gen)=>cX 114 gen hW);have ZQ:=aa (fun W o'(hW:jw W o' gen)=>cX 118 gen hW);have hs1:Hid (∀W o' d',aQ W pb db n o' d' L->Calls prog 77 #[ptrTo pb,.string raw,.string (aG 101 gen),.int .i64 0] W (oD (fun _=>False) n pb db W o' d' L (aG 101 gen) (aK false es) es.length)):=aa (fun W o' d' hW=>
  Dy (by':=false) HW yS hW hn hL ZN CC (rH 101 af gen) (uL 101 af hg.le) he BQ hm)
 obtain⟨L1,MJ⟩:∃L1,L1=aS L (aG 101 gen) (aw (aK false es) true):=⟨_,rfl⟩;have XG:aB L1 raw=some (aw es fl):=by rw[MJ,ay,if_neg ZN,hL]
 have hr1:aB L1 (aG 114 gen)=none:=by rw[MJ,ay,if_neg (iw af _ _),hr]
 have adV:∀k,aB L1 (dz k)=none:=fun k=>by rw[MJ,ay,if_neg (fun e=>bq 101 af gen k e.symm),BQ]
 have hs2:Hid (∀W o' d',aQ W pb db n o' d' L1->Calls prog 77 #[ptrTo pb,.string raw,.string (aG 114 gen),.int .i64 1] W (oD (fun _=>False) n pb db W o' d' L1 (aG 114 gen) (aK true es) es.length)):=aa (fun W o' d' hW=>
  Dy (by':=true) HW yS hW hn XG iW CC (rH 114 af gen) (uL 114 af hg.le) hr1 adV hm)
 obtain⟨L2,hL2⟩:∃L2,L2=aS L1 (aG 114 gen) (aw (aK true es) true):=⟨_,rfl⟩;have hv2:aB L2 (aG 118 gen)=none:=by rw[hL2,ay,if_neg (iw af _ _),MJ,ay,if_neg (iw af _ _),hv]
 have VC:=uL 118 af hg.le;have KS:=aa hg;have nH:Hid (∀W o' d',aQ W pb db n o' d' L2->Calls prog 71 #[ptrTo pb,.string (aG 118 gen)] W (fK n pb db W o' d' L2 (aG 118 gen))):=aa (fun W o' d' hW=>kD hW _ (b6 VC));have oA:Hid (∀d':Dsk,dh d' L2 (aG 118 gen)=if d'.tick.dead=true then 6 else 0):=aa (fun d'=>by
  unfold dh;rw[VC,hv2];rfl)
 have pW:Hid (∀W o' d' L',aQ W pb db n o' d' L'->Calls prog 67 #[ptrTo pb,.string (aG 118 gen),.int .i64 12] W (dF W pb (aG 118 gen) 12 (cC d' (aG 118 gen)))):=aa (fun W o' d' L' hW=>dG (sz:=12) hW _ (b6 VC) af af);have lf:Hid (∀W o' d' sb rs,aQ W pb db n o' d' (aS L2 (aG 118 gen) (b7 rs false))->aC W sb pb (aG 118 gen) 12->o' sb=none->rs.length<65535->∀rv(x:bW),Rd W rv x.bytes->(∀b,rv.ownBlock=some b->o' b=none) ->
  Calls prog 72 #[ptrTo sb,rv] W (jq (fun _=>False) n pb db W o' d' (aS L2 (aG 118 gen) (b7 rs false)) (aS L2 (aG 118 gen) (b7 (rs++[x]) false)))):=aa (fun W o' d' sb rs hW hst kN hl rv x hr hro=>by
  have:=j8 HW hW hst kN af af (by rw[ay,if_pos rfl];rfl) (qQ rs) (by rw[List.length_map];exact hl) hr x.eF hro;rw[iQ]at this;unfold b7 at this ⊢;rw[List.map_append];exact this)
 have Mu:Hid (∀W o' d',aQ W pb db n o' d' (aS L2 (aG 118 gen) (b7 vs false))->Calls prog 79 #[ptrTo pb,.string (aG 118 gen)] W (jq (fun _=>False) n pb db W o' d' (aS L2 (aG 118 gen) (b7 vs false)) (aS L2 (aG 118 gen) (b7 vs true)))):=aa (fun W o' d' hW=>by
  have:=pF HW hW (name:=aG 118 gen) (ps:=bz (eQ 12) (vs.map bW.bytes)) (fl:=false) (by rw[ay,if_pos rfl];rfl);rw[iQ]at this;exact this)
 have HK1:Hid ((L1.map (·.1)).Nodup):=aa (by rw[MJ];exact cF h.keys);have HK2:Hid ((L2.map (·.1)).Nodup):=aa (by rw[hL2,MJ];exact cF (cF h.keys));have Gq:Hid (need L1<=need L+4*es.length):=aa (by
  have h1:=cO L (aG 101 gen) (aw (aK false es) true);have h2:=cH (aK false es) true;have h3:=cd false es;rw[MJ];omega)
 have Uc:Hid (∀rs:List bW,rs.length<=vs.length->need (aS L2 (aG 118 gen) (b7 rs false))<=need L+20*es.length+4*vs.length):=aa (fun rs hrs=>by
  have h1:=cO L1 (aG 114 gen) (aw (aK true es) true);have h2:=cH (aK true es) true;have h3:=cd true es;have h4:=cO L2 (aG 118 gen) (b7 rs false);have h5:=fU rs false;have h6:=Gq.o;rw[<- hL2]at h1;omega)
 have Dq:Hid (∀x,¬E4 gen x->aB L1 x=aB L x):=aa (fun x hx=>by rw[MJ,ay,if_neg (fun e=>hx (.inl e))]);have qd:Hid (∀x,¬E4 gen x->aB L2 x=aB L x):=aa (fun x hx=>by rw[hL2,ay,if_neg (fun e=>hx (.inr (.inl e))),Dq.o x hx]);have ZR:Hid (fP L gen es vs=aS L2 (aG 118 gen) (b7 vs true)):=aa (by unfold fP;rw[hL2,MJ]);have sX:Hid (∀x,¬E4 gen x->¬gW (aG 101 gen) x/\¬gW (aG 114 gen) x/\x≠aG 118 gen):=aa (fun x hx=>⟨fun e=>hx (e.imp id (fun h=>.inr (.inr h))),fun e=>hx (.inr (e.imp id .inr)),fun e=>hx (.inr (.inr (.inl e)))⟩);have ajh:Hid (∀x,aB L1 x=aB (aS L (aG 101 gen) (aw (aK false es) true)) x):=aa (fun x=>by rw[MJ]);have aji:Hid (∀x,aB L2 x=aB (aS L1 (aG 114 gen) (aw (aK true es) true)) x):=aa (fun x=>by rw[hL2]);have H:=aa h;have HVS:=aa hvs;have vV:=aa my;obtain⟨va,vc,rfl,apI,ajj,-⟩:=hvs;unfold maxLen at ajj;have hvw:Hid (∀(x:bW)W,Calls prog 78 #[.agg #[.int .u32 (x.r.toNat:Int),.int .u32 (x.l.toNat:Int),.int .u32 (x.g.toNat:Int)]] W (jc W x.bytes)):=aa (fun x W=>Ez x W);clear h hg hL CC hm he hr hv BQ my ZN iW XG hr1 adV hv2 VC MJ hL2;unfold ptrTo at *;generalize aG 101 gen=nE at *;generalize aG 114 gen=nR at *;generalize aG 118 gen=nV at *;go_enter func45,ntmps45;go_wp2_with fail;refine(KR.o _).mono ?_;rintro e w'⟨rfl,rfl⟩;go_wp2_with fail;refine(ZO.o _ o KS.o).mono ?_;rintro e w1⟨rfl,hb1⟩;have cT:=aa hb1;clear hb1;go_wp2_with fail;refine(hs1.o w1 o d (H.o.below cT.o)).mono ?_;rintro e w2⟨c2,d2,o2,L2',rfl,cQ,adW,hc2⟩;have eB:=aa ((au.aW H.o cT.o).trans cQ (fun _ _ h=>h));have Om:=aa adW;clear cQ adW;rcases hc2 with⟨rfl,hl2⟩| pV
 ·have Ke:Hid (au (fun _=>False) n pb db w o d w2 o2 d2 L1):=aa (eB.o.congr HK1.o (fun x=>(ajh.o x).trans (hl2 x).symm));clear hl2 eB Om;go_wp2_with fail;refine(ZP.o _ o2 (KS.o.moved Ke.o (fun _ h=>h))).mono ?_;rintro e w3⟨rfl,hb3⟩;have eC:=aa (Ke.o.below hb3);clear hb3;go_wp2_with fail;refine(hs2.o w3 o2 d2 eC.o.aX).mono ?_;rintro e w4⟨c4,d4,o4,L4',rfl,eG,CA,ik⟩;have gp:=aa (eC.o.trans eG (fun _ _ h=>h));have Oo:=aa CA;clear eG CA;rcases ik with⟨rfl,hl4⟩| vp
  ·have adX:Hid (au (fun _=>False) n pb db w o d w4 o4 d4 L2):=aa (gp.o.congr HK2.o (fun x=>(aji.o x).trans (hl4 x).symm));clear hl4 gp Oo;go_wp2_with fail;refine(ZQ.o _ o4 (KS.o.moved adX.o (fun _ h=>h))).mono ?_;rintro e w5⟨rfl,oh⟩;have lF:=aa (adX.o.below oh);clear oh;have hcc:=aa (nH.o w5 o4 d4 lF.o.aX);unfold fK at hcc;rw[oA.o d4]at hcc;cases PA:d4.tick.dead with
   |true=>
     rw[PA,if_pos rfl]at hcc;have Qm:=aa PA;clear PA;go_wp2_with fail;refine hcc.o.mono ?_;rintro e w6⟨d6,o6,rfl,nT,-,hdd⟩;rw[if_neg af]at nT;have ye:=aa (lF.o.trans nT (fun _ _ h=>h));have u6:=aa (hdd (by first | exact Qm.o | trivial));clear nT hdd hcc;go_wp2;go_ret;exact⟨6,d6,o6,L2,rfl,ye.o,qd.o,.inr (.inr ⟨rfl,u6.o⟩)⟩
   |false=>
     rw[PA,if_neg ah]at hcc;clear PA;go_wp2_with fail;refine hcc.o.mono ?_;rintro e w6⟨d6,o6,rfl,nT,adY,-⟩;simp only[if_true]at nT;have gV:aB (aS L2 nV (.inl (([]:List Pg),true))) nV=some (.inl (([]:List Pg),true)):=by rw[ay,if_pos rfl]
     have J7:cC d6 nV=0:=by
      rw[gS nT.aX gV,adY (by trivial)];rfl
     have R5:au (fun _=>False) n pb db w5 o4 d4 w6 o6 d6 (aS L2 nV (b7 [] false)):=
      ⟨(nT.aX.weaken gV).congr (cF HK2.o) (fun x=>by
        show aB (aS L2 nV (.inl (([]:List Pg),false))) x=_;rw[ay,ay,ay];by_cases e:x=nV
        ·rw[if_pos e,if_pos e]
        ·rw[if_neg e,if_neg e,if_neg e]),nT.turn,nT.grow,nT.on⟩
     have ye:=aa (lF.o.trans R5 (fun _ _ h=>h));have hco:=aa (pW.o w6 o6 d6 _ nT.aX);rw[J7]at hco;have HF6:=aa (fun x(hx:w6.heap.size<=x)=>nT.aX.fresh hx);clear nT R5 adY J7 gV hcc;go_wp2_with fail;refine hco.o.mono ?_;rintro e w7⟨v7,rfl,Ms,Ou,-⟩;obtain⟨sb,rfl,Sn,vr⟩:=Ou rfl;have BK:=aa (ye.o.below Ms);have R9:=aa Sn;have ZT:Hid (o6 sb=none):=aa (HF6.o _ vr);clear Ms Sn Ou hco;unfold ptrTo;generalize hV:vs.length=V at *;have HV:=aa hV;clear hV;go_wp2;go_loopw [60] (fun i wr=>∃(k:Nat)(d':Dsk)(o':ar),k<=V/\i=.int .i64 (k:Int)/\au (fun _=>False) n pb db w o d wr o' d' (aS L2 nV (b7 (vs.take k) false))/\aC wr sb pb nV 12/\o' sb=none) (fun i _=>V-(intOf i).toNat)
     case atStart=>exact⟨0,d6,o6,Nat.zero_le _,rfl,by simpa using BK.o,R9.o,ZT.o⟩
     case round=>
      obtain⟨k,d8,o8,hk,rfl,MH,VD,ZU⟩:=hrel;have rY:=aa MH;have ajk:=aa VD;have ZV:=aa ZU;have apL:=VD.lt;by_cases hlt:k<V
      ·have hkv:k<vs.length:=by rw[HV.o];exact hlt
       obtain⟨a',c',Co,-,-,hcs⟩:=HVS.o;cases Co;obtain hcs |⟨b,off,rfl,hcs⟩:=hcs
       ·omega
       obtain⟨g0,g1,g2⟩:=hcs k hkv;have e0:=MH.cell g0 (vV.o b rfl) (fun h=>h);have e1:=MH.cell g1 (vV.o b rfl) (fun h=>h);have e2:=MH.cell g2 (vV.o b rfl) (fun h=>h);have hbl:b<wr.heap.size:=World.block_lt_of_cell? _ _ e0;have sk:Hid (vs.take k++[vs[k]]=vs.take (k+1)):=aa (by rw[List.take_succ_eq_append_getElem hkv]);have JV:(vs.take k).length<65535:=by rw[List.length_take,HV.o];omega
       have Sp:=aa (fun W=>hvw.o vs[k] W);have Sq:=aa (fun W rv(hW:aQ W pb db n o8 d8 (aS L2 nV (b7 (vs.take k) false)))(hst:aC W sb pb nV 12)(hr:Rd W rv vs[k].bytes)(hro:∀b,rv.ownBlock=some b->o8 b=none)=>lf.o W o8 d8 sb (vs.take k) hW hst ZV.o JV rv vs[k] hr hro);have qi:Hid (∀ob:Obj,au (fun _=>False) n pb db w o d (wr.alloc ob) o8 d8 (aS L2 nV (b7 (vs.take k) false))):=aa (fun ob=>rY.o.alloc ob);have ajl:Hid ((vs.take k).length<=vs.length):=aa (by rw[List.length_take];omega);clear g0 g1 g2 hcs MH VD ZU;generalize vs[k]=y at *;go_wp2_with fail;refine(Sp.o _).mono ?_;rintro e w9⟨v9,rfl,ho9,Ov⟩;have MN:=aa ((qi.o _).below Ov);have ZW:aC w9 sb pb nV 12:=(ajk.o.below ai).below Ov;have adZ:∀b,v9.ownBlock=some b->o8 b=none:=fun b hb=>rY.o.aX.fresh (Nat.le_trans ah (aF ho9 b hb));have Uj:=aa (Sq.o w9 v9 MN.o.aX ZW (fw ho9) adZ);have ad0:=aa ZW;clear ho9 Ov ZW adZ e0 e1 e2 Sq Sp;go_wp2_with fail;refine Uj.o.mono ?_;rintro e VE⟨c10,d10,ZX,rfl,AK,ZY⟩;have ad1:Hid (aC VE sb pb nV 12):=aa (ad0.o.moved AK ZV.o (fun h=>h));have ad2:Hid (ZX sb=none):=aa (AK.free ad0.o.lt ZV.o);by_cases hc:c10=0
       ·subst hc;rw[if_pos rfl,sk.o]at AK;have Sr:=aa (MN.o.trans AK (fun _ _ h=>h));clear AK ZY Uj;go_wp2;go_roundw
        case rel=>exact⟨k+1,d10,ZX,ae,by go_num,Sr.o,ad1.o,ad2.o⟩
        case measure=>simp[intOf];omega
       ·have hc':¬(c10:Int)=0:=by omega
        rw[if_neg hc]at AK;have Sr:=aa (MN.o.trans AK (fun _ _ h=>h));have ajn:Hid (ju d d10 (need L+20*es.length+4*vs.length) c10):=aa (((ZY.resolve_left hc).num (Uc.o (vs.take k) ajl.o)).later MN.o.on.bD);clear AK ZY Uj hc;go_wp2;go_ret;exact⟨c10,d10,ZX,_,rfl,Sr.o,fun x hx=>by rw[ay,if_neg (sX.o x hx).2.2,qd.o x hx],.inr ajn.o⟩
      ·have htk:vs.take k=vs:=List.take_of_length_le (by rw[HV.o];omega);rw[htk]at rY;have GN:=aa (Mu.o wr o8 d8 rY.o.aX);clear htk MH VD ZU;go_wp2_with fail;refine GN.o.mono ?_;rintro e w9⟨c9,d9,o9,rfl,QC,he9⟩;have MN:=aa (rY.o.trans QC (fun _ _ h=>h));have HE9:=aa he9;clear QC he9 GN;go_wp2;go_ret;refine⟨c9,d9,o9,_,rfl,MN.o,fun x hx=>?_,?_⟩
       ·split
        ·rw[ay,if_neg (sX.o x hx).2.2,qd.o x hx]
        ·rw[ay,if_neg (sX.o x hx).2.2,qd.o x hx]
       ·rcases HE9.o with h | h
        ·subst h;exact .inl ⟨rfl,by rw[if_pos rfl];exact ZR.o.symm⟩
        ·exact .inr (by rw[HV.o];exact(h.num (Uc.o vs (by rw[HV.o];exact Nat.le_refl _))).later rY.o.on.bD)
  ·have ui:¬(c4:Int)=0:=by have:=vp.ne;omega
   have Cg:Hid (ju d d4 (need L+20*es.length+4*vs.length) c4):=aa ((vp.mono (by have:=Gq.o;omega)).later eC.o.on.bD);clear vp;go_wp2;go_ret;exact⟨c4,d4,o4,L4',rfl,gp.o,fun x hx=>(Oo.o x (sX.o x hx).2.1).trans (Dq.o x hx),.inr Cg.o⟩
 ·have Ku:¬(c2:Int)=0:=by have:=pV.ne;omega
  have G6:Hid (ju d d2 (need L+20*es.length+4*vs.length) c2):=aa (pV.mono ae);clear pV;go_wp2;go_ret;exact⟨c2,d2,o2,L2',rfl,eB.o,fun x hx=>Om.o x (sX.o x hx).1,.inr G6.o⟩
end
end
section
open Go.RowKit Go.Maps Go.MapKept
def bT(w:World)(gb:Nat)(x0 x1 x2 x3:Value):Prop:=∃t,w.heap[gb]? = some (.cells #[x0,x1,x2,x3] t)
section
variable {S:Nat->Prop} {w w':World} {pb db n gb:Nat} {name:Name} {o o':ar} {d d':Dsk} {L L':aD} {x0 x1 x2 x3:Value}
theorem bT.kept(h:bT w gb x0 x1 x2 x3)(hb:w'.heap[gb]? = w.heap[gb]?):bT w' gb x0 x1 x2 x3:=by
 obtain⟨t,h⟩:=h;exact⟨t,hb.trans h⟩
theorem bT.lt(h:bT w gb x0 x1 x2 x3):gb<w.heap.size:=by
 obtain⟨t,h⟩:=h;exact(Array.getElem?_eq_some_iff.1 h).1
theorem bT.below(h:bT w gb x0 x1 x2 x3)(hb:Below w.heap.size w w'):bT w' gb x0 x1 x2 x3:=h.kept (hb.block _ h.lt)
theorem bT.moved(h:bT w gb x0 x1 x2 x3)(hm:au S n pb db w o d w' o' d' L')(ho:o gb=none)(hs:¬S gb):bT w' gb x0 x1 x2 x3:=h.kept (hm.block h.lt ho hs)
theorem bT.cells(h:bT w gb x0 x1 x2 x3):w.cell? ⟨gb,0,none⟩=some x0/\w.cell? ⟨gb,1,none⟩=some x1/\w.cell? ⟨gb,2,none⟩=some x2/\w.cell? ⟨gb,3,none⟩=some x3/\∀j,w.frozen? ⟨gb,j,none⟩=false:=by
 obtain⟨t,h⟩:=h;refine⟨?_,?_,?_,?_,fun j=>aO h j⟩<;>rw[aq h]<;>rfl
theorem bT.ajo(h:bT w gb x0 x1 x2 x3)(v:Value):bT (w.setCell ⟨gb,0,none⟩ v) gb v x1 x2 x3:=by
 obtain⟨t,h⟩:=h;exact⟨t,aT h 0 v⟩
theorem bT.ajp(h:bT w gb x0 x1 x2 x3)(v:Value):bT (w.setCell ⟨gb,1,none⟩ v) gb x0 v x2 x3:=by
 obtain⟨t,h⟩:=h;exact⟨t,aT h 1 v⟩
theorem bT.ajq(h:bT w gb x0 x1 x2 x3)(v:Value):bT (w.setCell ⟨gb,2,none⟩ v) gb x0 x1 v x3:=by
 obtain⟨t,h⟩:=h;exact⟨t,aT h 2 v⟩
theorem bT.ajr(h:bT w gb x0 x1 x2 x3)(v:Value):bT (w.setCell ⟨gb,3,none⟩ v) gb x0 x1 x2 v:=by
 obtain⟨t,h⟩:=h;exact⟨t,aT h 3 v⟩
structure cY(w:World)(o:ar)(gb pb gen N:Nat)(ob ib vb:Nat):Prop where
 raw:bT w gb (ptrTo ob) (ptrTo ib) (ptrTo vb) (.int .i64 (N:Int))
 out:aC w ob pb (aG 101 gen) 20
 rE:aC w ib pb (aG 114 gen) 20
 qR:aC w vb pb (aG 118 gen) 12
 VF:o gb=none
 PW:o ob=none
 Uk:o ib=none
 JJ:o vb=none
theorem cY.moved{gen N ob ib vb:Nat}(h:cY w o gb pb gen N ob ib vb)(hm:au (fun _=>False) n pb db w o d w' o' d' L'):cY w' o' gb pb gen N ob ib vb:=
 ⟨h.raw.moved hm h.VF (fun h=>h),h.out.moved hm h.PW (fun h=>h),h.rE.moved hm h.Uk (fun h=>h),h.qR.moved hm h.JJ (fun h=>h),hm.free h.raw.lt h.VF,hm.free h.out.lt h.PW,hm.free h.rE.lt h.Uk,hm.free h.qR.lt h.JJ⟩
theorem cY.below{gen N ob ib vb:Nat}(h:cY w o gb pb gen N ob ib vb)(hb:Below w.heap.size w w'):cY w' o gb pb gen N ob ib vb:=
 ⟨h.raw.below hb,h.out.below hb,h.rE.below hb,h.qR.below hb,h.VF,h.PW,h.Uk,h.JJ⟩
theorem aC.mh{sb sz b j:Nat}{v:Value}(h:aC w sb pb name sz)(hne:sb≠b):aC (w.setCell ⟨b,j,none⟩ v) sb pb name sz:=h.kept (Below.heap_setCell _ _ _ _ hne)
def sA(n pb db:Nat)(w:World)(o:ar)(d:Dsk)(L:aD)(gen N:Nat)(e:Ending)(w':World):Prop:=
 ∃v c d' o',e=.returned (.tuple #[v,.int .i64 ((c:Nat):Int)])/\au (fun _=>False) n pb db w o d w' o' d' L/\(c=0\/kI d d' L c)/\(c=0->∃gb ob ib vb,v=ptrTo gb/\cY w' o' gb pb gen N ob ib vb)/\(c≠0->v=.pointer none)
theorem pI(h:aQ w pb db n o d L){ps:List Pg}{fl:Bool}(hL:aB L name=some (.inl (ps,fl))){c:Nat}(hc:cC d name=c)(h0:c≠0):c=6/\d.dead=true:=by
 rw[gS h hL]at hc;split at hc
 ·exact⟨hc.symm,by assumption⟩
 ·exact absurd hc.symm h0
theorem sB(HW:aP)(h:aQ w pb db n o d L){gen:Nat}(hg:jw w o gen){vs:List bW}{es1 es2:List aJ}{fl0 fl1 fl2:Bool}(hv:aB L (aG 118 gen)=some (b7 vs fl0))(he:aB L (aG 101 gen)=some (aw es1 fl1))(hr:aB L (aG 114 gen)=some (aw es2 fl2)) :
 Calls prog 34 #[ptrTo pb,.int .i64 (gen:Int)] w (sA n pb db w o d L gen vs.length):=by
 have KR:=aa (qP gen hg.le);have ZO:=aa (fun W o'(hW:jw W o' gen)=>cX 101 gen hW);have ZP:=aa (fun W o'(hW:jw W o' gen)=>cX 114 gen hW);have ZQ:=aa (fun W o'(hW:jw W o' gen)=>cX 118 gen hW);have hoV:Hid (∀W o' d',aQ W pb db n o' d' L->Calls prog 67 #[ptrTo pb,.string (aG 118 gen),.int .i64 12] W (dF W pb (aG 118 gen) 12 (cC d' (aG 118 gen)))/\∀c,cC d' (aG 118 gen)=c->c≠0->c=6/\d'.dead=true):=aa (fun W o' d' hW=>⟨dG (sz:=12) hW _ (b6 (h.ok hv)) af af,fun c h1 h2=>pI hW hv h1 h2⟩);have hoE:Hid (∀W o' d',aQ W pb db n o' d' L->Calls prog 67 #[ptrTo pb,.string (aG 101 gen),.int .i64 20] W (dF W pb (aG 101 gen) 20 (cC d' (aG 101 gen)))/\∀c,cC d' (aG 101 gen)=c->c≠0->c=6/\d'.dead=true):=aa (fun W o' d' hW=>⟨dG (sz:=20) hW _ (b6 (h.ok he)) af af,fun c h1 h2=>pI hW he h1 h2⟩);have hoR:Hid (∀W o' d',aQ W pb db n o' d' L->Calls prog 67 #[ptrTo pb,.string (aG 114 gen),.int .i64 20] W (dF W pb (aG 114 gen) 20 (cC d' (aG 114 gen)))/\∀c,cC d' (aG 114 gen)=c->c≠0->c=6/\d'.dead=true):=aa (fun W o' d' hW=>⟨dG (sz:=20) hW _ (b6 (h.ok hr)) af af,fun c h1 h2=>pI hW hr h1 h2⟩);have hlen:Hid (∀W o' d' sb,aQ W pb db n o' d' L->aC W sb pb (aG 118 gen) 12->o' sb=none->Calls prog 59 #[ptrTo sb] W (xR n pb db W o' d' L (xS vs.length))):=aa (fun W o' d' sb hW hst kN=>by
  have:=iq HW hW hst kN af af hv (qQ vs);rw[List.length_map]at this;exact this)
 have H:=aa h;have KS:=aa hg;clear h hg hv he hr;unfold ptrTo at *;generalize vs.length=N at *;go_enter func34,ntmps34;go_wp2_with fail;refine(KR.o _).mono ?_;rintro e w'⟨rfl,rfl⟩;have HG0:Hid (bT (w.alloc (.cells #[.pointer none,.pointer none,.pointer none,.int .i64 0] 121)) w.heap.size (.pointer none) (.pointer none) (.pointer none) (.int .i64 0)):=aa ⟨_,heap_alloc_new w _⟩;have kK:Hid (Below w.heap.size w (w.alloc (.cells #[.pointer none,.pointer none,.pointer none,.int .i64 0] 121))):=aa ai;have HOG:Hid (o w.heap.size=none):=aa (H.o.fresh (Nat.le_refl _));go_wp2_with fail;generalize w.alloc (.cells #[.pointer none,.pointer none,.pointer none,.int .i64 0] 121)=W0 at *;refine(ZQ.o _ o (KS.o.below kK.o)).mono ?_;rintro e w1⟨rfl,hb1⟩;have JB:=aa (HG0.o.below hb1);have cT:Hid (Below w.heap.size w w1):=aa (kK.o.trans (hb1.mono kK.o.size));clear hb1;go_wp2_with fail;obtain⟨hcV,hbV⟩:=hoV.o w1 o d (H.o.below cT.o);have HCV:=aa hcV;have HBV:=aa hbV;clear hcV hbV;generalize j7:cC d (aG 118 gen)=c2 at *;have pU:=aa j7;clear j7;refine HCV.o.mono ?_;rintro e w2⟨v2,rfl,hb2,jr,Ss⟩;have yI:=aa (JB.o.below hb2);have cZ:Hid (Below w.heap.size w w2):=aa (cT.o.trans (hb2.mono cT.o.size));have ahs:w.heap.size<w1.heap.size:=JB.o.lt;have Ke:Hid (∀v,au (fun _=>False) n pb db w o d (w2.setCell ⟨w.heap.size,2,none⟩ v) o d L):=aa (fun v=>(au.aW H.o cZ.o).setCell _ _ HOG.o (.inr (Nat.le_refl _)));clear hb2;obtain⟨g0,g1,g2,g3,gz⟩:=yI.o.cells;have gz2:=gz 2;clear gz;by_cases hc2:c2=0
 ·subst hc2;obtain⟨vb,rfl,oB,hvb⟩:=jr rfl;have iW:vb≠w.heap.size:=by omega
  have FQ:Hid (aC (w2.setCell ⟨w.heap.size,2,none⟩ (.pointer (some ⟨vb,0,none⟩))) vb pb (aG 118 gen) 12):=aa (oB.mh iW);have PX:Hid (bT (w2.setCell ⟨w.heap.size,2,none⟩ (.pointer (some ⟨vb,0,none⟩))) w.heap.size (.pointer none) (.pointer none) (.pointer (some ⟨vb,0,none⟩)) (.int .i64 0)):=aa (yI.o.ajq _);have eC:=aa (Ke.o (.pointer (some ⟨vb,0,none⟩)));have HOV:Hid (o vb=none):=aa (H.o.fresh ae);clear jr Ss oB;unfold ptrTo;go_wp2_with fail;generalize w2.setCell ⟨w.heap.size,2,none⟩ (.pointer (some ⟨vb,0,none⟩))=w3 at *;have zK:=aa (hlen.o w3 o d vb eC.o.aX FQ.o HOV.o);refine zK.o.mono ?_;rintro e w4⟨c4,d4,o4,⟨x4,rfl,XH⟩,eG,vp⟩;have xY:=aa XH;have Cg:=aa vp;have gp:=aa (eC.o.trans eG (fun _ _ h=>h));have p8:=aa (PX.o.moved eG HOG.o (fun h=>h));have Kk:=aa (FQ.o.moved eG HOV.o (fun h=>h));have VG:Hid (o4 w.heap.size=none):=aa (eG.free PX.o.lt HOG.o);have VH:Hid (o4 vb=none):=aa (eG.free FQ.o.lt HOV.o);clear eG vp XH zK g0 g1 g2 g3 gz2;obtain⟨g0,g1,g2,g3,gz⟩:=p8.o.cells;have gz3:=gz 3;clear gz;have lF:Hid (au (fun _=>False) n pb db w o d (w4.setCell ⟨w.heap.size,3,none⟩ (.int .i64 (x4:Int))) o4 d4 L):=aa (gp.o.setCell _ _ VG.o (.inr (Nat.le_refl _)));have HG5:Hid (bT (w4.setCell ⟨w.heap.size,3,none⟩ (.int .i64 (x4:Int))) w.heap.size (.pointer none) (.pointer none) (.pointer (some ⟨vb,0,none⟩)) (.int .i64 (x4:Int))):=aa (p8.o.ajr _);have NR:Hid (aC (w4.setCell ⟨w.heap.size,3,none⟩ (.int .i64 (x4:Int))) vb pb (aG 118 gen) 12):=aa (Kk.o.mh iW);by_cases ik:c4=0
  ·subst ik;have HX:=aa (xY.o rfl);go_wp2_with fail;generalize w4.setCell ⟨w.heap.size,3,none⟩ (.int .i64 (x4:Int))=w5 at *;clear g0 g1 g2 g3 gz3;refine(ZO.o _ o4 (KS.o.moved lF.o (fun _ h=>h))).mono ?_;rintro e w6⟨rfl,FR⟩;have ye:=aa (lF.o.below FR);have HG6:=aa (HG5.o.below FR);have HV6:=aa (NR.o.below FR);clear FR;go_wp2_with fail;obtain⟨hcE,hbE⟩:=hoE.o w6 o4 d4 ye.o.aX;have HCE:=aa hcE;have Rv:=aa hbE;clear hcE hbE;generalize hp7:cC d4 (aG 101 gen)=c7 at *;clear hp7;refine HCE.o.mono ?_;rintro e w7⟨v7,rfl,Ms,Ou,Su⟩;have BK:=aa (ye.o.below Ms);have HG7:=aa (HG6.o.below Ms);have HV7:=aa (HV6.o.below Ms);have Ug:w.heap.size<w6.heap.size:=HG6.o.lt;clear Ms;obtain⟨g0,g1,g2,g3,gz⟩:=HG7.o.cells;have gz0:=gz 0;clear gz;have ad4:Hid (∀v,au (fun _=>False) n pb db w o d (w7.setCell ⟨w.heap.size,0,none⟩ v) o4 d4 L):=aa (fun v=>BK.o.setCell _ _ VG.o (.inr (Nat.le_refl _)));by_cases NB:c7=0
   ·subst NB;obtain⟨ob,rfl,Sn,Cx⟩:=Ou rfl;have ad5:ob≠w.heap.size:=by omega
    have HO8:Hid (aC (w7.setCell ⟨w.heap.size,0,none⟩ (.pointer (some ⟨ob,0,none⟩))) ob pb (aG 101 gen) 20):=aa (Sn.mh ad5);have Xz:Hid (aC (w7.setCell ⟨w.heap.size,0,none⟩ (.pointer (some ⟨ob,0,none⟩))) vb pb (aG 118 gen) 12):=aa (HV7.o.mh iW);have HG8:Hid (bT (w7.setCell ⟨w.heap.size,0,none⟩ (.pointer (some ⟨ob,0,none⟩))) w.heap.size (.pointer (some ⟨ob,0,none⟩)) (.pointer none) (.pointer (some ⟨vb,0,none⟩)) (.int .i64 (x4:Int))):=aa (HG7.o.ajo _);have rY:=aa (ad4.o (.pointer (some ⟨ob,0,none⟩)));have Vu:Hid (o4 ob=none):=aa (ye.o.aX.fresh Cx);clear Ou Su Sn;unfold ptrTo;go_wp2_with fail;generalize w7.setCell ⟨w.heap.size,0,none⟩ (.pointer (some ⟨ob,0,none⟩))=w8 at *;clear g0 g1 g2 g3 gz0;refine(ZP.o _ o4 (KS.o.moved rY.o (fun _ h=>h))).mono ?_;rintro e w9⟨rfl,Ov⟩;have MN:=aa (rY.o.below Ov);have HG9:=aa (HG8.o.below Ov);have HV9:=aa (Xz.o.below Ov);have HO9:=aa (HO8.o.below Ov);clear Ov;go_wp2_with fail;obtain⟨hcR,hbR⟩:=hoR.o w9 o4 d4 MN.o.aX;have HCR:=aa hcR;have HBR:=aa hbR;clear hcR hbR;generalize ajx:cC d4 (aG 114 gen)=c10 at *;clear ajx;refine HCR.o.mono ?_;rintro e VE⟨v10,rfl,Sv,Sw,KT⟩;have Sr:=aa (MN.o.below Sv);have ad6:=aa (HG9.o.below Sv);have ajy:=aa (HV9.o.below Sv);have ajz:=aa (HO9.o.below Sv);have hs9:w.heap.size<w9.heap.size:=HG9.o.lt;clear Sv;obtain⟨g0,g1,g2,g3,gz⟩:=ad6.o.cells;have gz1:=gz 1;clear gz;have XI:Hid (∀v,au (fun _=>False) n pb db w o d (VE.setCell ⟨w.heap.size,1,none⟩ v) o4 d4 L):=aa (fun v=>Sr.o.setCell _ _ VG.o (.inr (Nat.le_refl _)));by_cases VI:c10=0
    ·subst VI;obtain⟨ib,rfl,XJ,hib⟩:=Sw rfl;have ad7:ib≠w.heap.size:=by omega
     have ad8:=aa (XJ.mh (j:=1) (v:=.pointer (some ⟨ib,0,none⟩)) ad7);have HOI:Hid (o4 ib=none):=aa (MN.o.aX.fresh hib);clear Sw KT XJ;unfold ptrTo;go_wp2;go_ret2;refine⟨_,0,d4,o4,rfl,XI.o _,.inl rfl,fun _=>⟨w.heap.size,ob,ib,vb,rfl,⟨?_,ajz.o.mh ad5,ad8.o,ajy.o.mh iW,VG.o,Vu.o,HOI.o,VH.o⟩⟩,fun h=>absurd rfl h⟩;rw[<- HX.o];exact ad6.o.ajp _
    ·obtain rfl:=KT VI;obtain⟨h6,hdd⟩:=HBR.o c10 rfl VI;have u6:=aa hdd;subst h6;clear Sw KT VI hdd;go_wp2;go_ret2;exact⟨_,6,d4,o4,rfl,XI.o _,.inr (.inr ⟨rfl,u6.o⟩),fun h=>absurd h af,fun _=>rfl⟩
   ·obtain rfl:=Su NB;obtain⟨h6,hdd⟩:=Rv.o c7 rfl NB;have u6:=aa hdd;subst h6;clear Ou Su NB hdd;go_wp2;go_ret2;exact⟨_,6,d4,o4,rfl,ad4.o _,.inr (.inr ⟨rfl,u6.o⟩),fun h=>absurd h af,fun _=>rfl⟩
  ·have ui:¬(c4:Int)=0:=by omega
   have Q7:Hid (kI d d4 L c4):=aa (Cg.o.resolve_left ik);have BG:=aa ik;clear ik;go_wp2;go_ret2;exact⟨_,c4,d4,o4,rfl,lF.o,.inr Q7.o,fun h=>absurd h BG.o,fun _=>rfl⟩
 ·obtain rfl:=Ss hc2;obtain⟨h6,hdd⟩:=HBV.o c2 rfl hc2;have u6:=aa hdd;subst h6;clear jr Ss hc2 hdd;go_wp2;go_ret2;exact⟨_,6,d,o,rfl,Ke.o _,.inr (.inr ⟨rfl,u6.o⟩),fun h=>absurd h af,fun _=>rfl⟩
end
end
section
open Go.RowKit Go.Maps Go.MapKept
section
variable {w w':World} {pb db n gb gen N ob ib vb:Nat} {name:Name} {o o':ar} {d d':Dsk} {L L':aD}
theorem sD(hg:cY w o gb pb gen N ob ib vb):Calls prog 20 #[ptrTo gb] w fun e w'=>e=.returned (.int .i64 (N:Int))/\w=w':=by
 obtain⟨-,-,-,g3,-⟩:=hg.raw.cells;clear hg;unfold ptrTo;go_enter func20,ntmps20;go_wp2;go_ret;exact⟨rfl,rfl⟩
def wH(x:bW):Value:=.agg #[.int .u32 (x.r.toNat:Int),.int .u32 (x.l.toNat:Int),.int .u32 (x.g.toNat:Int)]
def ajB:bW:=⟨0,0,0⟩
def Sx(n pb db:Nat)(w:World)(o:ar)(d:Dsk)(L:aD)(x:bW)(e:Ending)(w':World):Prop:=
 ∃c d' o',e=.returned (.tuple #[wH (if c=0 then x else ajB),.int .i64 ((c:Nat):Int)])/\au (fun _=>False) n pb db w o d w' o' d' L/\(c=0\/kI d d' L c)
theorem E5(HW:aP)(h:aQ w pb db n o d L)(hg:cY w o gb pb gen N ob ib vb){vs:List bW}{fl:Bool}(hL:aB L (aG 118 gen)=some (b7 vs fl))(hN:N=vs.length)(v:Nat)(hv:v<vs.length)(hv':v<4294967296) :
 Calls prog 23 #[ptrTo gb,.int .u32 (v:Int)] w (Sx n pb db w o d L vs[v]):=by
 have gV:Hid (∀W,Below w.heap.size w W->Calls prog 57 #[ptrTo vb,.int .i64 (v:Int)] W (uo n pb db W o d L vs[v].bytes)):=aa (fun W hW=>by
  have:=jo HW (h.below hW) (hg.qR.below hW) hg.JJ af af hL (qQ vs) (i:=v) (by rw[List.length_map];exact hv);rw[List.getElem_map]at this;exact this)
 obtain⟨-,-,g2,g3,-⟩:=hg.raw.cells;have hgl:=hg.raw.lt;have H:=aa h;have hlt:¬((v:Int) >= (N:Int)):=by omega
 generalize vs[v]=x at *;clear h hg hL hN hv;unfold ptrTo at *;have kK:Hid (Below w.heap.size w (w.alloc (.cells #[.int .u32 0,.int .u32 0,.int .u32 0] 55))):=aa ai;have mD:Hid ((w.alloc (.cells #[.int .u32 0,.int .u32 0,.int .u32 0] 55)).heap[w.heap.size]? = some (.cells #[.int .u32 0,.int .u32 0,.int .u32 0] 55)):=aa (heap_alloc_new w _);have JK:Hid (o w.heap.size=none):=aa (H.o.fresh (Nat.le_refl _));go_enter func23,ntmps23;go_wp2_with fail;generalize w.alloc (.cells #[.int .u32 0,.int .u32 0,.int .u32 0] 55)=W0 at *;refine(gV.o W0 kK.o).mono ?_;rintro e w1⟨v1,c1,d1,o1,rfl,ee,tA,uq,AL⟩;have hbl:w.heap.size<W0.heap.size:=(Array.getElem?_eq_some_iff.1 mD.o).1;have eu:=aa ((au.aW H.o kK.o).trans ee (fun _ _ h=>h));have kJ:=aa (ee.heap mD.o JK.o (fun h=>h));have Dk:=aa tA;have oG:Hid (o1 w.heap.size=none):=aa (ee.free hbl JK.o);clear ee tA;by_cases hc1:c1=0
 ·subst hc1;obtain⟨k9,tP⟩:=uq rfl;obtain⟨a1,k1,rfl⟩:=az k9;have ny:=aa (fw k9);clear uq AL k9 tP;go_wp2_with fail;refine(Ha _ x _ ny.o).mono ?_;rintro e w2⟨rfl,hb2⟩;have eB:=aa (eu.o.below hb2);have hx2:w2.heap[w.heap.size]? = some (.cells #[.int .u32 0,.int .u32 0,.int .u32 0] 55):=by rw[hb2.block _ (Array.getElem?_eq_some_iff.1 kJ.o).1];exact kJ.o
  have k0:w2.cell? ⟨w.heap.size,0,none⟩=some (.int .u32 0):=by rw[aq hx2];rfl
  have VJ:w2.cell? ⟨w.heap.size,1,none⟩=some (.int .u32 0):=by rw[aq hx2];rfl
  have VK:w2.cell? ⟨w.heap.size,2,none⟩=some (.int .u32 0):=by rw[aq hx2];rfl
  have z0:=aO hx2 0;have z1:=aO hx2 1;have z2:=aO hx2 2;have ap7:w.heap.size<w2.heap.size:=(Array.getElem?_eq_some_iff.1 hx2).1;have hx3:(((w2.setCell ⟨w.heap.size,0,none⟩ (.int .u32 (x.r.toNat:Int))).setCell ⟨w.heap.size,1,none⟩ (.int .u32 (x.l.toNat:Int))).setCell ⟨w.heap.size,2,none⟩ (.int .u32 (x.g.toNat:Int))).heap[w.heap.size]? = some (.cells #[.int .u32 (x.r.toNat:Int),.int .u32 (x.l.toNat:Int),.int .u32 (x.g.toNat:Int)] 55):=aT (aT (aT hx2 0 _) 1 _) 2 _;have eC:Hid (au (fun _=>False) n pb db w o d (((w2.setCell ⟨w.heap.size,0,none⟩ (.int .u32 (x.r.toNat:Int))).setCell ⟨w.heap.size,1,none⟩ (.int .u32 (x.l.toNat:Int))).setCell ⟨w.heap.size,2,none⟩ (.int .u32 (x.g.toNat:Int))) o1 d1 L):=aa (((eB.o.setCell ⟨w.heap.size,0,none⟩ _ oG.o (.inr (Nat.le_refl _))).setCell ⟨w.heap.size,1,none⟩ _ oG.o (.inr (Nat.le_refl _))).setCell ⟨w.heap.size,2,none⟩ _ oG.o (.inr (Nat.le_refl _)));have iu:=aa hx3;clear hb2 hx2 hx3;go_wp2;generalize (((w2.setCell ⟨w.heap.size,0,none⟩ (.int .u32 (x.r.toNat:Int))).setCell ⟨w.heap.size,1,none⟩ (.int .u32 (x.l.toNat:Int))).setCell ⟨w.heap.size,2,none⟩ (.int .u32 (x.g.toNat:Int)))=w3 at *;have q0:w3.cell? ⟨w.heap.size,0,none⟩=some (.int .u32 (x.r.toNat:Int)):=by rw[aq iu.o];rfl
  have q1:w3.cell? ⟨w.heap.size,1,none⟩=some (.int .u32 (x.l.toNat:Int)):=by rw[aq iu.o];rfl
  have q2:w3.cell? ⟨w.heap.size,2,none⟩=some (.int .u32 (x.g.toNat:Int)):=by rw[aq iu.o];rfl
  clear k0 VJ VK z0 z1 z2;exact bodyPost_ret (v:=.tuple #[.agg #[.int .u32 (x.r.toNat:Int),.int .u32 (x.l.toNat:Int),.int .u32 (x.g.toNat:Int)],.int .i64 0]) (by simp[results,Tryz.results23,go_sem,q0,q1,q2]) rfl ⟨0,d1,o1,rfl,eC.o,.inl rfl⟩
 ·obtain rfl:=AL hc1;have zC:¬(c1:Int)=0:=by omega
  have Rj:=aa hc1;have k0:w1.cell? ⟨w.heap.size,0,none⟩=some (.int .u32 0):=by rw[aq kJ.o];rfl
  have VJ:w1.cell? ⟨w.heap.size,1,none⟩=some (.int .u32 0):=by rw[aq kJ.o];rfl
  have VK:w1.cell? ⟨w.heap.size,2,none⟩=some (.int .u32 0):=by rw[aq kJ.o];rfl
  have z0:=aO kJ.o 0;have z1:=aO kJ.o 1;have z2:=aO kJ.o 2;have ajC:w.heap.size<w1.heap.size:=(Array.getElem?_eq_some_iff.1 kJ.o).1;have hx3:(((w1.setCell ⟨w.heap.size,0,none⟩ (.int .u32 0)).setCell ⟨w.heap.size,1,none⟩ (.int .u32 0)).setCell ⟨w.heap.size,2,none⟩ (.int .u32 0)).heap[w.heap.size]? = some (.cells #[.int .u32 0,.int .u32 0,.int .u32 0] 55):=aT (aT (aT kJ.o 0 _) 1 _) 2 _;have eC:Hid (au (fun _=>False) n pb db w o d (((w1.setCell ⟨w.heap.size,0,none⟩ (.int .u32 0)).setCell ⟨w.heap.size,1,none⟩ (.int .u32 0)).setCell ⟨w.heap.size,2,none⟩ (.int .u32 0)) o1 d1 L):=aa (((eu.o.setCell ⟨w.heap.size,0,none⟩ _ oG.o (.inr (Nat.le_refl _))).setCell ⟨w.heap.size,1,none⟩ _ oG.o (.inr (Nat.le_refl _))).setCell ⟨w.heap.size,2,none⟩ _ oG.o (.inr (Nat.le_refl _)));have iu:=aa hx3;clear uq AL hc1 hx3;go_wp2;generalize (((w1.setCell ⟨w.heap.size,0,none⟩ (.int .u32 0)).setCell ⟨w.heap.size,1,none⟩ (.int .u32 0)).setCell ⟨w.heap.size,2,none⟩ (.int .u32 0))=w3 at *;have q0:w3.cell? ⟨w.heap.size,0,none⟩=some (.int .u32 0):=by rw[aq iu.o];rfl
  have q1:w3.cell? ⟨w.heap.size,1,none⟩=some (.int .u32 0):=by rw[aq iu.o];rfl
  have q2:w3.cell? ⟨w.heap.size,2,none⟩=some (.int .u32 0):=by rw[aq iu.o];rfl
  clear k0 VJ VK z0 z1 z2;exact bodyPost_ret (v:=.tuple #[.agg #[.int .u32 0,.int .u32 0,.int .u32 0],.int .i64 (c1:Int)]) (by simp[results,Tryz.results23,go_sem,q0,q1,q2]) rfl ⟨c1,d1,o1,by rw[if_neg Rj.o];rfl,eC.o,Dk.o⟩
end
end
section
open Go.RowKit Go.Maps Go.MapKept
section
variable {w w':World} {pb db n gb gen N sb:Nat} {name:Name} {o o':ar} {d d':Dsk} {L L':aD}
def pJ(E:Nat->Dsk->Prop)(n pb db:Nat)(w:World)(o:ar)(d:Dsk)(L:aD)(x:aJ)(e:Ending)(w':World):Prop:=
 ∃c d' o' y,e=.returned (.tuple #[.agg #[.int .u32 (y.t.toNat:Int),.int .u32 (y.h.toNat:Int),.int .u64 (y.x.toNat:Int),.int .u32 (y.m.toNat:Int)],.int .i64 ((c:Nat):Int)])/\au (fun _=>False) n pb db w o d w' o' d' L/\E c d'/\(c=0->y=x)/\(c≠0->y=Aq)
def DB(n pb db:Nat)(w:World)(o:ar)(d:Dsk)(L:aD)(x:aJ)(e:Ending)(w':World):Prop:=
 ∃c d' o' y,e=.returned (.tuple #[.agg #[.int .u32 (y.t.toNat:Int),.int .u32 (y.h.toNat:Int),.int .u64 (y.x.toNat:Int),.int .u32 (y.m.toNat:Int)],.int .i64 ((c:Nat):Int)])/\au (fun _=>False) n pb db w o d w' o' d' L/\(c=0\/kI d d' L c)/\(c=0->y=x)
def Il(E:Nat->Dsk->Prop)(n pb db:Nat)(w:World)(o:ar)(d:Dsk)(L:aD)(r:Rec)(e:Ending)(w':World):Prop:=
 ∃v c d' o',e=.returned (.tuple #[v,.int .i64 ((c:Nat):Int)])/\au (fun _=>False) n pb db w o d w' o' d' L/\E c d' /\
  (c=0->w'.ownsRow w.heap.size 5 1 v r.length (r.map bv)/\∀x,v.ownBlock=some x->o' x=none)/\(c≠0->v=.slice none 0 0)
theorem sF(E:Nat->Dsk->Prop)(h:aQ w pb db n o d L){i:Int}{x:aJ}(Im:∀W,Below w.heap.size w W->Calls prog 57 #[ptrTo sb,.int .i64 i] W (Il E n pb db W o d L x.bytes)) :
 Calls prog 60 #[ptrTo sb,.int .i64 i] w (pJ E n pb db w o d L x):=by
 have gV:=aa Im;have H:=aa h;clear h Im;unfold ptrTo at *;have kK:Hid (Below w.heap.size w (w.alloc (.cells #[.int .u32 0,.int .u32 0,.int .u64 0,.int .u32 0] 64))):=aa ai;have mD:Hid ((w.alloc (.cells #[.int .u32 0,.int .u32 0,.int .u64 0,.int .u32 0] 64)).heap[w.heap.size]? = some (.cells #[.int .u32 0,.int .u32 0,.int .u64 0,.int .u32 0] 64)):=aa (heap_alloc_new w _);have JK:Hid (o w.heap.size=none):=aa (H.o.fresh (Nat.le_refl _));go_enter func60,ntmps60;go_wp2_with fail;generalize w.alloc (.cells #[.int .u32 0,.int .u32 0,.int .u64 0,.int .u32 0] 64)=W0 at *;refine(gV.o W0 kK.o).mono ?_;rintro e w1⟨v1,c1,d1,o1,rfl,ee,tA,uq,AL⟩;have hbl:w.heap.size<W0.heap.size:=(Array.getElem?_eq_some_iff.1 mD.o).1;have eu:=aa ((au.aW H.o kK.o).trans ee (fun _ _ h=>h));have kJ:=aa (ee.heap mD.o JK.o (fun h=>h));have Dk:=aa tA;have oG:Hid (o1 w.heap.size=none):=aa (ee.free hbl JK.o);clear ee tA;have zk:Hid (∀(w2:World)(a b c e:Value),w2.heap[w.heap.size]? = some (.cells #[.int .u32 0,.int .u32 0,.int .u64 0,.int .u32 0] 64)->((((w2.setCell ⟨w.heap.size,0,none⟩ a).setCell ⟨w.heap.size,1,none⟩ b).setCell ⟨w.heap.size,2,none⟩ c).setCell ⟨w.heap.size,3,none⟩ e).heap[w.heap.size]? = some (.cells #[a,b,c,e] 64)):=aa (fun w2 a b c e hx=>aT (aT (aT (aT hx 0 _) 1 _) 2 _) 3 _);by_cases hc1:c1=0
 ·subst hc1;obtain⟨k9,tP⟩:=uq rfl;obtain⟨a1,k1,rfl⟩:=az k9;have ny:=aa (fw k9);clear uq AL k9 tP;go_wp2_with fail;refine(qE _ x _ ny.o).mono ?_;rintro e w2⟨rfl,hb2⟩;have eB:=aa (eu.o.below hb2);have hx2:w2.heap[w.heap.size]? = some (.cells #[.int .u32 0,.int .u32 0,.int .u64 0,.int .u32 0] 64):=by grind [Below.block,Hid.out]
  have k0:w2.cell? ⟨w.heap.size,0,none⟩=some (.int .u32 0):=by rw[aq hx2];rfl
  have VJ:w2.cell? ⟨w.heap.size,1,none⟩=some (.int .u32 0):=by rw[aq hx2];rfl
  have VK:w2.cell? ⟨w.heap.size,2,none⟩=some (.int .u64 0):=by rw[aq hx2];rfl
  have k3':w2.cell? ⟨w.heap.size,3,none⟩=some (.int .u32 0):=by rw[aq hx2];rfl
  have z0:=aO hx2 0;have z1:=aO hx2 1;have z2:=aO hx2 2;have z3:=aO hx2 3;have iu:=aa (zk.o w2 (.int .u32 (x.t.toNat:Int)) (.int .u32 (x.h.toNat:Int)) (.int .u64 (x.x.toNat:Int)) (.int .u32 (x.m.toNat:Int)) hx2);have eC:Hid (au (fun _=>False) n pb db w o d ((((w2.setCell ⟨w.heap.size,0,none⟩ (.int .u32 (x.t.toNat:Int))).setCell ⟨w.heap.size,1,none⟩ (.int .u32 (x.h.toNat:Int))).setCell ⟨w.heap.size,2,none⟩ (.int .u64 (x.x.toNat:Int))).setCell ⟨w.heap.size,3,none⟩ (.int .u32 (x.m.toNat:Int))) o1 d1 L):=aa ((((eB.o.setCell ⟨w.heap.size,0,none⟩ _ oG.o (.inr (Nat.le_refl _))).setCell ⟨w.heap.size,1,none⟩ _ oG.o (.inr (Nat.le_refl _))).setCell ⟨w.heap.size,2,none⟩ _ oG.o (.inr (Nat.le_refl _))).setCell ⟨w.heap.size,3,none⟩ _ oG.o (.inr (Nat.le_refl _)));clear hb2 hx2;go_wp2;generalize ((((w2.setCell ⟨w.heap.size,0,none⟩ (.int .u32 (x.t.toNat:Int))).setCell ⟨w.heap.size,1,none⟩ (.int .u32 (x.h.toNat:Int))).setCell ⟨w.heap.size,2,none⟩ (.int .u64 (x.x.toNat:Int))).setCell ⟨w.heap.size,3,none⟩ (.int .u32 (x.m.toNat:Int)))=w3 at *;have q0:w3.cell? ⟨w.heap.size,0,none⟩=some (.int .u32 (x.t.toNat:Int)):=by rw[aq iu.o];rfl
  have q1:w3.cell? ⟨w.heap.size,1,none⟩=some (.int .u32 (x.h.toNat:Int)):=by rw[aq iu.o];rfl
  have q2:w3.cell? ⟨w.heap.size,2,none⟩=some (.int .u64 (x.x.toNat:Int)):=by rw[aq iu.o];rfl
  have q3:w3.cell? ⟨w.heap.size,3,none⟩=some (.int .u32 (x.m.toNat:Int)):=by rw[aq iu.o];rfl
  clear k0 VJ VK k3' z0 z1 z2 z3;exact bodyPost_ret (v:=.tuple #[.agg #[.int .u32 (x.t.toNat:Int),.int .u32 (x.h.toNat:Int),.int .u64 (x.x.toNat:Int),.int .u32 (x.m.toNat:Int)],.int .i64 0]) (by simp[results,Tryz.results60,go_sem,q0,q1,q2,q3]) rfl ⟨0,d1,o1,x,rfl,eC.o,Dk.o,fun _=>rfl,fun h=>absurd rfl h⟩
 ·obtain rfl:=AL hc1;have zC:¬(c1:Int)=0:=by omega
  have Rj:=aa hc1;have k0:w1.cell? ⟨w.heap.size,0,none⟩=some (.int .u32 0):=by rw[aq kJ.o];rfl
  have VJ:w1.cell? ⟨w.heap.size,1,none⟩=some (.int .u32 0):=by rw[aq kJ.o];rfl
  have VK:w1.cell? ⟨w.heap.size,2,none⟩=some (.int .u64 0):=by rw[aq kJ.o];rfl
  have k3':w1.cell? ⟨w.heap.size,3,none⟩=some (.int .u32 0):=by rw[aq kJ.o];rfl
  have z0:=aO kJ.o 0;have z1:=aO kJ.o 1;have z2:=aO kJ.o 2;have z3:=aO kJ.o 3;have iu:=aa (zk.o w1 (.int .u32 0) (.int .u32 0) (.int .u64 0) (.int .u32 0) kJ.o);have eC:Hid (au (fun _=>False) n pb db w o d ((((w1.setCell ⟨w.heap.size,0,none⟩ (.int .u32 0)).setCell ⟨w.heap.size,1,none⟩ (.int .u32 0)).setCell ⟨w.heap.size,2,none⟩ (.int .u64 0)).setCell ⟨w.heap.size,3,none⟩ (.int .u32 0)) o1 d1 L):=aa ((((eu.o.setCell ⟨w.heap.size,0,none⟩ _ oG.o (.inr (Nat.le_refl _))).setCell ⟨w.heap.size,1,none⟩ _ oG.o (.inr (Nat.le_refl _))).setCell ⟨w.heap.size,2,none⟩ _ oG.o (.inr (Nat.le_refl _))).setCell ⟨w.heap.size,3,none⟩ _ oG.o (.inr (Nat.le_refl _)));clear uq AL hc1;go_wp2;generalize ((((w1.setCell ⟨w.heap.size,0,none⟩ (.int .u32 0)).setCell ⟨w.heap.size,1,none⟩ (.int .u32 0)).setCell ⟨w.heap.size,2,none⟩ (.int .u64 0)).setCell ⟨w.heap.size,3,none⟩ (.int .u32 0))=w3 at *;have q0:w3.cell? ⟨w.heap.size,0,none⟩=some (.int .u32 0):=by rw[aq iu.o];rfl
  have q1:w3.cell? ⟨w.heap.size,1,none⟩=some (.int .u32 0):=by rw[aq iu.o];rfl
  have q2:w3.cell? ⟨w.heap.size,2,none⟩=some (.int .u64 0):=by rw[aq iu.o];rfl
  have q3:w3.cell? ⟨w.heap.size,3,none⟩=some (.int .u32 0):=by rw[aq iu.o];rfl
  clear k0 VJ VK k3' z0 z1 z2 z3;exact bodyPost_ret (v:=.tuple #[.agg #[.int .u32 0,.int .u32 0,.int .u64 0,.int .u32 0],.int .i64 (c1:Int)]) (by simp[results,Tryz.results60,go_sem,q0,q1,q2,q3]) rfl ⟨c1,d1,o1,Aq,rfl,eC.o,Dk.o,fun h=>absurd h Rj.o,fun _=>rfl⟩
theorem uM(HW:aP)(h:aQ w pb db n o d L)(hst:aC w sb pb name 20)(ho:o sb=none){es:List aJ}{fl:Bool}(hL:aB L name=some (aw es fl)){i:Nat}{x:aJ}(hi:es[i]? = some x) :
 Calls prog 60 #[ptrTo sb,.int .i64 (i:Int)] w (DB n pb db w o d L x):=by
 have kB:=aM hi;refine(sF (fun c d'=>c=0\/kI d d' L c) h (x:=x) (fun W hW=>?_)).mono fun e w' ⟨c,d',o',y,h1,h2,h3,h4,_⟩=>⟨c,d',o',y,h1,h2,h3,h4⟩;have:=jo HW (h.below hW) (hst.below hW) ho af af hL (dY es) (i:=i) (by grind);rw[List.getElem_map]at this;rw[List.getElem?_eq_getElem kB]at hi;rw[Option.some.inj hi]at this;exact this
def pZ(b:Bool):FuncId:=if b then 56 else 55
theorem KU(x:aJ)(w:World):Calls prog 55 #[.agg #[.int .u32 (x.t.toNat:Int),.int .u32 (x.h.toNat:Int),.int .u64 (x.x.toNat:Int),.int .u32 (x.m.toNat:Int)]] w fun e w'=>e=.returned (.int .u32 (x.t.toNat:Int))/\Below w.heap.size w w':=by
 go_enter func55,ntmps55;go_wp2;go_ret;exact⟨rfl,aj.alloc (Nat.le_refl _) _⟩
theorem Ow(x:aJ)(w:World):Calls prog 56 #[.agg #[.int .u32 (x.t.toNat:Int),.int .u32 (x.h.toNat:Int),.int .u64 (x.x.toNat:Int),.int .u32 (x.m.toNat:Int)]] w fun e w'=>e=.returned (.int .u32 (x.h.toNat:Int))/\Below w.heap.size w w':=by
 go_enter func56,ntmps56;go_wp2;go_ret;exact⟨rfl,aj.alloc (Nat.le_refl _) _⟩
theorem MO(b:Bool)(x:aJ)(w:World):Calls prog (pZ b) #[.agg #[.int .u32 (x.t.toNat:Int),.int .u32 (x.h.toNat:Int),.int .u64 (x.x.toNat:Int),.int .u32 (x.m.toNat:Int)]] w fun e w'=>e=.returned (.int .u32 (fW b x:Int))/\Below w.heap.size w w':=by
 cases b
 ·exact KU x w
 ·exact Ow x w
end
end
section
open Go.RowKit Go.Maps Go.MapKept
structure fp(w:World)(o:ar)(xb kb fb vb sb:Nat)(b:Bool)(v bc:Nat):Prop where
 xs:∃t,w.heap[xb]? = some (.cells #[ptrTo sb] t)
 bad:∃t,w.heap[kb]? = some (.cells #[.int .i64 (bc:Int)] t)
 fn:∃t,w.heap[fb]? = some (.cells #[.func (.func (pZ b)) #[] #[]] t)
 vtx:∃t,w.heap[vb]? = some (.cells #[.int .u32 (v:Int)] t)
 oxb:o xb=none
 okb:o kb=none
 r7:o fb=none
 JJ:o vb=none
 xk:xb≠kb
 fk:fb≠kb
 vk:vb≠kb
section
variable {w w':World} {pb db n sb xb kb fb vb v bc:Nat} {b:Bool} {name:Name} {o o':ar} {d d':Dsk} {L L':aD}
theorem eI{w:World}{x:Nat}{ob:Obj}(h:w.heap[x]? = some ob):x<w.heap.size:=(Array.getElem?_eq_some_iff.1 h).1
theorem bo{w w':World}(hb:Below w.heap.size w w'){a:Addr}{v:Value}(hc:w.cell? a=some v):w'.cell? a=some v:=(hb.cell (World.block_lt_of_cell? w a hc)).trans hc
theorem fp.lts(h:fp w o xb kb fb vb sb b v bc):xb<w.heap.size/\kb<w.heap.size/\fb<w.heap.size/\vb<w.heap.size:=by
 obtain⟨_,h1⟩:=h.xs;obtain⟨_,h2⟩:=h.bad;obtain⟨_,h3⟩:=h.fn;obtain⟨_,h4⟩:=h.vtx;exact⟨eI h1,eI h2,eI h3,eI h4⟩
theorem fp.cells(h:fp w o xb kb fb vb sb b v bc):w.cell? ⟨xb,0,none⟩=some (ptrTo sb)/\w.cell? ⟨kb,0,none⟩=some (.int .i64 (bc:Int))/\w.cell? ⟨fb,0,none⟩=some (.func (.func (pZ b)) #[] #[])/\w.cell? ⟨vb,0,none⟩=some (.int .u32 (v:Int))/\w.frozen? ⟨kb,0,none⟩=false:=by
 obtain⟨_,h1⟩:=h.xs;obtain⟨_,h2⟩:=h.bad;obtain⟨_,h3⟩:=h.fn;obtain⟨_,h4⟩:=h.vtx;refine⟨?_,?_,?_,?_,aO h2 _⟩
 ·rw[aq h1];rfl
 ·rw[aq h2];rfl
 ·rw[aq h3];rfl
 ·rw[aq h4];rfl
theorem fp.moved(h:fp w o xb kb fb vb sb b v bc)(hm:au (fun _=>False) n pb db w o d w' o' d' L'):fp w' o' xb kb fb vb sb b v bc:=by
 obtain⟨l1,l2,l3,l4⟩:=h.lts;obtain⟨t1,h1⟩:=h.xs;obtain⟨t2,h2⟩:=h.bad;obtain⟨t3,h3⟩:=h.fn;obtain⟨t4,h4⟩:=h.vtx;exact⟨⟨t1,hm.heap h1 h.oxb (fun h=>h)⟩,⟨t2,hm.heap h2 h.okb (fun h=>h)⟩,⟨t3,hm.heap h3 h.r7 (fun h=>h)⟩,⟨t4,hm.heap h4 h.JJ (fun h=>h)⟩,hm.free l1 h.oxb,hm.free l2 h.okb,hm.free l3 h.r7,hm.free l4 h.JJ,h.xk,h.fk,h.vk⟩
theorem fp.below(h:fp w o xb kb fb vb sb b v bc)(hb:Below w.heap.size w w'):fp w' o xb kb fb vb sb b v bc:=by
 obtain⟨l1,l2,l3,l4⟩:=h.lts;obtain⟨t1,h1⟩:=h.xs;obtain⟨t2,h2⟩:=h.bad;obtain⟨t3,h3⟩:=h.fn;obtain⟨t4,h4⟩:=h.vtx;exact⟨⟨t1,(hb.block _ l1).trans h1⟩,⟨t2,(hb.block _ l2).trans h2⟩,⟨t3,(hb.block _ l3).trans h3⟩,⟨t4,(hb.block _ l4).trans h4⟩,h.oxb,h.okb,h.r7,h.JJ,h.xk,h.fk,h.vk⟩
theorem fp.set(h:fp w o xb kb fb vb sb b v bc)(c:Nat):fp (w.setCell ⟨kb,0,none⟩ (.int .i64 (c:Int))) o xb kb fb vb sb b v c:=by
 obtain⟨t1,h1⟩:=h.xs;obtain⟨t2,h2⟩:=h.bad;obtain⟨t3,h3⟩:=h.fn;obtain⟨t4,h4⟩:=h.vtx;refine⟨⟨t1,(Below.heap_setCell _ _ _ _ h.xk).trans h1⟩,⟨t2,aT h2 0 _⟩,⟨t3,(Below.heap_setCell _ _ _ _ h.fk).trans h3⟩,⟨t4,(Below.heap_setCell _ _ _ _ h.vk).trans h4⟩,h.oxb,h.okb,h.r7,h.JJ,h.xk,h.fk,h.vk⟩
theorem wN(b:Bool)(args:Array Value)(w:World):Sem.run prog (callFunc (pZ b) args) w=.ok (.enter (pZ b) args) w:=by
 cases b
 ·show Sem.run prog (callFunc 55 args) w=.ok (.enter 55 args) w;go_simp
 ·show Sem.run prog (callFunc 56 args) w=.ok (.enter 56 args) w;go_simp
def AO(n pb db:Nat)(w:World)(o:ar)(d:Dsk)(L:aD)(xb kb fb vb sb:Nat)(b:Bool)(v bc:Nat)(x:aJ)(e:Ending)(w':World):Prop:=
 ∃r c d' o',e=.returned (.bool r)/\au (·=kb) n pb db w o d w' o' d' L/\fp w' o' xb kb fb vb sb b v c/\((c=bc/\r=decide (v<=fW b x))\/kI d d' L c)
theorem KV(HW:aP)(h:aQ w pb db n o d L)(hst:aC w sb pb name 20)(ho:o sb=none){es:List aJ}{fl:Bool}(hL:aB L name=some (aw es fl))(hm:fp w o xb kb fb vb sb b v bc){i:Nat}{x:aJ}(hi:es[i]? = some x) :
 Calls prog 89 #[.int .i64 (i:Int),.pointer (some ⟨xb,0,none⟩),.pointer (some ⟨kb,0,none⟩),.pointer (some ⟨fb,0,none⟩),.pointer (some ⟨vb,0,none⟩)] w (AO n pb db w o d L xb kb fb vb sb b v bc x):=by
 have mL:=aa (uM HW h hst ho hL hi);have HO:=aa hm;obtain⟨c1,c2,c3,c4,-⟩:=hm.cells;obtain⟨l1,l2,l3,l4⟩:=hm.lts;have HE:Hid (∀(y:aJ)(W:World),Calls prog (pZ b) #[.agg #[.int .u32 (y.t.toNat:Int),.int .u32 (y.h.toNat:Int),.int .u64 (y.x.toNat:Int),.int .u32 (y.m.toNat:Int)]] W fun e w'=>e=.returned (.int .u32 (fW b y:Int))/\Below W.heap.size W w'):=aa (fun y W=>MO b y W);clear h hst ho hL hi hm;unfold ptrTo at *;go_enter func89,ntmps89;go_wp2_with fail;refine mL.o.mono ?_;rintro e w1⟨c,d1,o1,y,rfl,ee,tA,Sy⟩;have eu:=aa ee;have Dk:=aa tA;have XK:=aa Sy;have Dq:=aa (HO.o.moved ee);clear ee tA Sy c1 c2 c3 c4;have cT:Hid (Below w1.heap.size w1 (w1.alloc (.cells #[.int .u32 (y.t.toNat:Int),.int .u32 (y.h.toNat:Int),.int .u64 (y.x.toNat:Int),.int .u32 (y.m.toNat:Int)] 64))):=aa ai;have kJ:Hid ((w1.alloc (.cells #[.int .u32 (y.t.toNat:Int),.int .u32 (y.h.toNat:Int),.int .u64 (y.x.toNat:Int),.int .u32 (y.m.toNat:Int)] 64)).heap[w1.heap.size]? = some (.cells #[.int .u32 (y.t.toNat:Int),.int .u32 (y.h.toNat:Int),.int .u64 (y.x.toNat:Int),.int .u32 (y.m.toNat:Int)] 64)):=aa (heap_alloc_new w1 _);have Ul:=aa (Dq.o.below cT.o);have XL:Hid (au (·=kb) n pb db w o d (w1.alloc (.cells #[.int .u32 (y.t.toNat:Int),.int .u32 (y.h.toNat:Int),.int .u64 (y.x.toNat:Int),.int .u32 (y.m.toNat:Int)] 64)) o1 d1 L):=aa ((eu.o.below cT.o).mono (fun _ _ h=>h.elim));have m2:=Dq.o.lts.2.1;have m5:=Ul.o.cells.2.2.2.2;have m6:=Ul.o.cells.2.1;have m7:=Dq.o.cells.2.1;obtain⟨-,-,-,-,c5⟩:=Dq.o.cells;have sX:Hid (w1.heap.size≠kb):=aa ae;have kZ:∀(W:World)(bc':Nat),au (·=kb) n pb db w o d W o1 d1 L->fp W o1 xb kb fb vb sb b v bc'->(bc'=bc/\y=x\/kI d d1 L bc')->∀W' r,Below W.heap.size W W'->r=decide (v<=fW b y)->AO n pb db w o d L xb kb fb vb sb b v bc x (.returned (.bool r)) W':=by
  intro W bc' g1 g2 g3 W' r g4 g5;refine⟨r,bc',d1,o1,rfl,g1.below g4,g2.below g4,g3.imp (fun⟨a1,a2⟩=>⟨a1,by rw[g5,a2]⟩) id⟩
 have Io:=aa kZ;clear kZ;by_cases hc:c=0
 ·subst hc;have HF:Hid (bc=bc/\y=x\/kI d d1 L bc):=aa (.inl ⟨rfl,XK.o rfl⟩);have eR:=aa (Io.o _ _ XL.o Ul.o HF.o);go_wp2;generalize w1.alloc (.cells #[.int .u32 (y.t.toNat:Int),.int .u32 (y.h.toNat:Int),.int .u64 (y.x.toNat:Int),.int .u32 (y.m.toNat:Int)] 64)=W at *;have q0:W.cell? ⟨w1.heap.size,0,none⟩=some (.int .u32 (y.t.toNat:Int)):=by rw[aq kJ.o];rfl
  have q1:W.cell? ⟨w1.heap.size,1,none⟩=some (.int .u32 (y.h.toNat:Int)):=by rw[aq kJ.o];rfl
  have q2:W.cell? ⟨w1.heap.size,2,none⟩=some (.int .u64 (y.x.toNat:Int)):=by rw[aq kJ.o];rfl
  have q3:W.cell? ⟨w1.heap.size,3,none⟩=some (.int .u32 (y.m.toNat:Int)):=by rw[aq kJ.o];rfl
  obtain⟨-,-,k3,k4,-⟩:=(show fp W o1 xb kb fb vb sb b v _ from Ul.o).cells;have m9:w1.heap.size<W.heap.size:=eI kJ.o;have Q0:=aa q0;have Q1:=aa q1;have Q2:=aa q2;have Q3:=aa q3;have K3:=aa k3;have K4:=aa k4;clear q0 q1 q2 q3 k3 k4;refine wq W ?_;refine qz ?_ (fun w' hw'=>by have z3:=bo hw' K3.o;go_simp<;>rfl);refine qz ?_ (fun w' hw'=>by have z0:=bo hw' Q0.o;have z1:=bo hw' Q1.o;have z2:=bo hw' Q2.o;have z3:=bo hw' Q3.o;go_simp<;>rfl);refine sO rfl (fun w' hw'=>(by go_simp;exact wN b _ _)) (fun w' hw'=>((HE.o y w').mono (fun e w'' h=>⟨h.1,hw'.trans (h.2.mono hw'.size)⟩))) (fun K hK=>?_);go_simp;refine hK _ ?_;clear hK K;refine qz ?_ (fun w' hw'=>by have z4:=bo hw' K4.o;go_simp<;>rfl);iterate 2 (refine qz ?_)
  refine wpQuiet_nil ?_;intro w4 hw4;have HW4:=aa hw4;clear hw4;go_wp2;go_ret;refine eR.o _ _ HW4.o ?_;simp
 ·have hc':¬(c:Int)=0:=by omega
  have HF:Hid (c=bc/\y=x\/kI d d1 L c):=aa (.inr (Dk.o.resolve_left hc));have ap8:((c:Int) != 0)=true:=by simp;exact hc
  have mE:Hid (((w1.setCell ⟨kb,0,none⟩ (.int .i64 (c:Int))).alloc (.cells #[.int .u32 (y.t.toNat:Int),.int .u32 (y.h.toNat:Int),.int .u64 (y.x.toNat:Int),.int .u32 (y.m.toNat:Int)] 64)).heap[w1.heap.size]? = some (.cells #[.int .u32 (y.t.toNat:Int),.int .u32 (y.h.toNat:Int),.int .u64 (y.x.toNat:Int),.int .u32 (y.m.toNat:Int)] 64)):=aa (by
   have:=heap_alloc_new (w1.setCell ⟨kb,0,none⟩ (.int .i64 (c:Int))) (.cells #[.int .u32 (y.t.toNat:Int),.int .u32 (y.h.toNat:Int),.int .u64 (y.x.toNat:Int),.int .u32 (y.m.toNat:Int)] 64);rw[World.size_setCell]at this;exact this)
  have Ox:=aa (((eu.o.mono (S':=(·=kb)) (fun _ _ h=>h.elim)).setCell ⟨kb,0,none⟩ (.int .i64 (c:Int)) Dq.o.okb (.inl rfl)).alloc (.cells #[.int .u32 (y.t.toNat:Int),.int .u32 (y.h.toNat:Int),.int .u64 (y.x.toNat:Int),.int .u32 (y.m.toNat:Int)] 64));have Vu:=aa ((Dq.o.set c).below (aj.alloc (Nat.le_refl _) (.cells #[.int .u32 (y.t.toNat:Int),.int .u32 (y.h.toNat:Int),.int .u64 (y.x.toNat:Int),.int .u32 (y.m.toNat:Int)] 64)));have eR:=aa (Io.o _ _ Ox.o Vu.o HF.o);clear kJ cT Ul XL;go_wp2;generalize (w1.setCell ⟨kb,0,none⟩ (.int .i64 (c:Int))).alloc (.cells #[.int .u32 (y.t.toNat:Int),.int .u32 (y.h.toNat:Int),.int .u64 (y.x.toNat:Int),.int .u32 (y.m.toNat:Int)] 64)=W at *;have q0:W.cell? ⟨w1.heap.size,0,none⟩=some (.int .u32 (y.t.toNat:Int)):=by rw[aq mE.o];rfl
  have q1:W.cell? ⟨w1.heap.size,1,none⟩=some (.int .u32 (y.h.toNat:Int)):=by rw[aq mE.o];rfl
  have q2:W.cell? ⟨w1.heap.size,2,none⟩=some (.int .u64 (y.x.toNat:Int)):=by rw[aq mE.o];rfl
  have q3:W.cell? ⟨w1.heap.size,3,none⟩=some (.int .u32 (y.m.toNat:Int)):=by rw[aq mE.o];rfl
  obtain⟨-,-,k3,k4,-⟩:=(show fp W o1 xb kb fb vb sb b v _ from Vu.o).cells;have m9:w1.heap.size<W.heap.size:=eI mE.o;have Q0:=aa q0;have Q1:=aa q1;have Q2:=aa q2;have Q3:=aa q3;have K3:=aa k3;have K4:=aa k4;clear q0 q1 q2 q3 k3 k4;refine wq W ?_;refine qz ?_ (fun w' hw'=>by have z3:=bo hw' K3.o;go_simp<;>rfl);refine qz ?_ (fun w' hw'=>by have z0:=bo hw' Q0.o;have z1:=bo hw' Q1.o;have z2:=bo hw' Q2.o;have z3:=bo hw' Q3.o;go_simp<;>rfl);refine sO rfl (fun w' hw'=>(by go_simp;exact wN b _ _)) (fun w' hw'=>((HE.o y w').mono (fun e w'' h=>⟨h.1,hw'.trans (h.2.mono hw'.size)⟩))) (fun K hK=>?_);go_simp;refine hK _ ?_;clear hK K;refine qz ?_ (fun w' hw'=>by have z4:=bo hw' K4.o;go_simp<;>rfl);iterate 2 (refine qz ?_)
  refine wpQuiet_nil ?_;intro w4 hw4;have HW4:=aa hw4;clear hw4;go_wp2;go_ret;refine eR.o _ _ HW4.o ?_;simp
def E6(b:Bool)(es:List aJ):Prop:=∀(i j:Nat)(x y:aJ),es[i]? = some x->es[j]? = some y->i<=j->fW b x<=fW b y
def Split(b:Bool)(v:Nat)(es:List aJ)(lo hi:Nat):Prop:=(∀(j:Nat)(x:aJ),es[j]? = some x->j<lo->fW b x<v)/\(∀(j:Nat)(x:aJ),es[j]? = some x->hi<=j->v<=fW b x)
theorem Split.up{b:Bool}{v:Nat}{es:List aJ}{lo hi m:Nat}{x:aJ}(h:Split b v es lo hi)(hr:E6 b es)(hm:es[m]? = some x)(hx:fW b x<v):Split b v es (m+1) hi:=
 ⟨fun j y hy hj=>Nat.lt_of_le_of_lt (hr j m y x hy hm ae) hx,h.2⟩
theorem Split.down{b:Bool}{v:Nat}{es:List aJ}{lo hi m:Nat}{x:aJ}(h:Split b v es lo hi)(hr:E6 b es)(hm:es[m]? = some x)(hx:v<=fW b x):Split b v es lo m:=
 ⟨h.1,fun j y hy hj=>Nat.le_trans hx (hr m j x y hm hy hj)⟩
theorem kI.more{d d' gB:Dsk}{L:aD}{c:Nat}(h:kI d d' L c)(ho:bK d' gB):kI d gB L c:=h.imp id (fun⟨h1,h2⟩=>⟨h1,ho.dead h2⟩)
def AP(n pb db:Nat)(w:World)(o:ar)(d:Dsk)(L:aD)(xb kb fb vb sb:Nat)(b:Bool)(v:Nat)(es:List aJ)(e:Ending)(w':World):Prop:=
 ∃k c d' o',e=.returned (.int .i64 ((k:Nat):Int))/\k<=es.length/\au (·=kb) n pb db w o d w' o' d' L/\fp w' o' xb kb fb vb sb b v c/\((c=0/\Split b v es k k)\/kI d d' L c)
theorem KW(HW:aP)(h:aQ w pb db n o d L)(hst:aC w sb pb name 20)(ho:o sb=none){es:List aJ}{fl:Bool}(hL:aB L name=some (aw es fl))(hk:sb≠kb)(hm:fp w o xb kb fb vb sb b v 0)(hr:E6 b es)(hN:es.length<1000000) :
 Calls prog 88 #[.int .i64 (es.length:Int),.func (.func 89) #[] #[.pointer (some ⟨xb,0,none⟩),.pointer (some ⟨kb,0,none⟩),.pointer (some ⟨fb,0,none⟩),.pointer (some ⟨vb,0,none⟩)]] w (AP n pb db w o d L xb kb fb vb sb b v es):=by
 have aec:Hid (∀W o' d' c(m:Nat)x,aQ W pb db n o' d' L->aC W sb pb name 20->o' sb=none->fp W o' xb kb fb vb sb b v c->es[m]? = some x->Calls prog 89 #[.int .i64 (m:Int),.pointer (some ⟨xb,0,none⟩),.pointer (some ⟨kb,0,none⟩),.pointer (some ⟨fb,0,none⟩),.pointer (some ⟨vb,0,none⟩)] W (AO n pb db W o' d' L xb kb fb vb sb b v c x)):=aa (fun W o' d' c m x a1 a2 a3 a4 a5=>KV HW a1 a2 a3 hL a4 a5);have H:=aa h;have HST:=aa hst;have VL:=aa ho;have HM:=aa hm;have HR:=aa hr;have HES:Hid (∀m,m<es.length->∃x,es[m]? = some x):=aa (fun m hm=>⟨_,List.getElem?_eq_getElem hm⟩);have hsp:Hid (Split b v es 0 es.length):=aa ⟨fun j x _ hj=>absurd hj (Nat.not_lt_zero _),fun j x hx hj=>absurd (aM hx) ae⟩;obtain⟨N,hNe⟩:∃N,N=es.length:=⟨_,rfl⟩;rw[<- hNe]at HES hsp hN ⊢;have sX:=aa hNe;clear h hst ho hL hm hr hNe;go_enter func88,ntmps88;go_wp2;go_loopw [5,6] (fun i j wr=>∃(lo hi c:Nat)(d':Dsk)(o':ar),lo<=hi/\hi<=N/\i=.int .i64 (lo:Int)/\j=.int .i64 (hi:Int)/\au (·=kb) n pb db w o d wr o' d' L/\fp wr o' xb kb fb vb sb b v c/\((c=0/\Split b v es lo hi)\/kI d d' L c)) (fun i j _=>(intOf j).toNat-(intOf i).toNat)
 case atStart=>exact⟨0,N,0,d,o,Nat.zero_le _,Nat.le_refl _,rfl,rfl,au.refl _ H.o,HM.o,.inl ⟨rfl,hsp.o⟩⟩
 case round=>
  obtain⟨lo,hi,c,d1,o1,hlh,hhN,rfl,rfl,ee,aed,hs1⟩:=hrel;have eu:=aa ee;have Dq:=aa aed;have iY:=aa hs1;clear ee aed hs1;by_cases hlt:lo<hi
  ·obtain⟨m,hme⟩:∃m,m=(lo+hi)/2:=⟨_,rfl⟩;have ee:lo<=m:=by omega
   have cQ:m<hi:=by omega
   have hmi:((lo:Int)+(hi:Int))/2=(m:Int):=by omega
   clear hme;obtain⟨x,hx⟩:=HES.o m ae;have Uj:=aa (aec.o wr o1 d1 c m _ eu.o.aX (HST.o.moved eu.o VL.o hk) (eu.o.free HST.o.lt VL.o) Dq.o hx);have HX:=aa hx;clear hx;go_wp2_with fail;clear hmi;refine Uj.o.mono ?_;rintro e w2⟨r,c2,d2,o2,rfl,ej,aee,hs3⟩;have eC:Hid (au (·=kb) n pb db w o d w2 o2 d2 L):=aa (eu.o.trans ej (fun _ _ h=>h));have mG:=aa aee;have fB:Hid ((c2=0/\(r=true->Split b v es lo m)/\(r=false->Split b v es (m+1) hi))\/kI d d2 L c2):=aa (by
    rcases hs3 with⟨h1,h2⟩| h2
    ·rcases iY.o with⟨h3,h4⟩| h4
     ·refine .inl ⟨h1.trans h3,fun hr=>?_,fun hr=>?_⟩
      ·rw[hr]at h2;exact h4.down HR.o HX.o (of_decide_eq_true h2.symm)
      ·rw[hr]at h2;exact h4.up HR.o HX.o (Nat.lt_of_not_le (of_decide_eq_false h2.symm))
     ·rw[h1];exact .inr (h4.more ej.on)
    ·exact .inr (h2.later eu.o.on.bD))
   clear ej aee hs3 Uj;cases r with
   |false=>
     have gq:Hid (c2=0/\Split b v es (m+1) hi\/kI d d2 L c2):=aa (fB.o.imp (fun h=>⟨h.1,h.2.2 rfl⟩) id);clear fB;go_wp2;go_roundw
     case rel=>exact⟨m+1,hi,c2,d2,o2,ae,hhN,by go_num,rfl,eC.o,mG.o,gq.o⟩
     case measure=>simp[intOf];omega
   |true=>
     have gq:Hid (c2=0/\Split b v es lo m\/kI d d2 L c2):=aa (fB.o.imp (fun h=>⟨h.1,h.2.1 rfl⟩) id);clear fB;go_wp2;go_roundw
     case rel=>exact⟨lo,m,c2,d2,o2,ae,ae,rfl,rfl,eC.o,mG.o,gq.o⟩
     case measure=>simp[intOf];omega
  ·obtain rfl:lo=hi:=by omega
   go_wp2;go_ret;exact⟨lo,c,d1,o1,rfl,by rw[<- sX.o];exact hhN,eu.o,Dq.o,iY.o⟩
end
end
end Go.Proofs.YthkkgdpomhhjjaaGreatDoor
