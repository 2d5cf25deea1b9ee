/-
  Joined.
-/
import Derived.Test.YthkkgdpomhhjjaaGreatDoorK08
import Derived.Below
import Derived.Deep.RegionWith
import Derived.Laws.IdiomStrings
set_option maxRecDepth 100000
set_option maxHeartbeats 8000000
namespace Go.Proofs.YthkkgdpomhhjjaaGreatDoor
open Go.Proofs.Tryz
section
open Go.RowKit Go.Maps Go.MapKept
def aaD:ByteArray:=⟨#[116,46]⟩
def ownName(x:Name):Bool:=Lib.hasPrefix x.data.toList aaD.data.toList
theorem xl(k:Nat):ownName (dC k)=true:=by
 unfold ownName dC aaD Lib.hasPrefix;simp
section
variable {w w':World} {pb db n cb kb sb jb bf made:Nat} {by':Bool} {name:Name} {o o':au} {d d':Dsk} {L L':aH}
theorem AZ(s:ByteArray)(w:World):Calls prog 114 #[.string s,.string ⟨#[116,46]⟩] w fun e w'=>e=.returned (.bool (ownName s))/\w=w':=
 (Any.strings_HasPrefix (P:=prog) (ρ:=Tryz.AG) { Tryz.Z7 with } s ⟨#[116,46]⟩ w).mono fun _ _ ⟨h1,h2⟩=>⟨h1,h2.symm⟩
theorem xo{i N:Nat}{x:aD}{sz:Nat}(h:bD w cb sb i N x)(hs:aF w sb pb name sz):sb≠cb:=by
 rintro rfl;obtain⟨t,h1⟩:=h;obtain⟨t',h2⟩:=hs;rw[h1]at h2;have:=Option.some.inj h2;injection this with a b;have:=congrArg Array.size a;simp at this
theorem DO(w:World)(pb:Nat)(x:Int)(b:Bool)(hx:x=(mh b:Int)):cU ((w.alloc (.cells #[.int .i64 x] 3)).alloc (.cells #[.pointer (some ⟨pb,0,none⟩),.func (.func 115) #[] #[.pointer (some ⟨w.heap.size,0,none⟩)],.int .i64 0] 205)) (w.heap.size+1) pb w.heap.size 0 b:=by
 subst hx;refine⟨⟨205,?_⟩,⟨3,?_⟩⟩
 ·have:=heap_alloc_new (w.alloc (.cells #[.int .i64 (mh b:Int)] 3)) (.cells #[.pointer (some ⟨pb,0,none⟩),.func (.func 115) #[] #[.pointer (some ⟨w.heap.size,0,none⟩)],.int .i64 0] 205);rw[show(w.alloc (.cells #[.int .i64 (mh b:Int)] 3)).heap.size=w.heap.size+1 by simp]at this;exact this
 ·rw[(MapKept.heap_alloc _ _).2 _ ai];exact heap_alloc_new w _
theorem DR(HW:aP){m:Nat}(zb:dZ m)(h:aR w pb db n o d L)(hn:8<=n){es:List aD}{fl:Bool}{rV out:Name}(hL:aB L rV=some (ax es fl))(hio:rV≠out)(hi:ownName rV=false)(ho:ownName out=false)(hout:bM out=true)(hno:aB L out=none)(B7:∀k,aB L (dC k)=none)(hm:es.length<=m) :
 Calls prog 77 #[ptrTo pb,.string rV,.string out,.int .i64 (mh by':Int)] w (oQ (fun _=>False) n pb db w o d L out (aC by' es) es.length):=by
 have hto:∀k,out≠dC k:=fun k e=>by rw[e,xl]at ho;cases ho
 have zU:=ae (AZ rV);have ko:=ae (AZ out);simp only[hi]at zU;simp only[ho]at ko;have rJ:=ae (fun W(hW:Below w.heap.size w W)=>jA (h.below hW));have p9:Hid (∀W,Below w.heap.size w W->∀jb bf,cU W jb pb bf 0 by'->Calls prog 116 #[ptrTo jb,.string rV] W (qM n pb db W o d L rV es.length)):=ae (fun W hW jb bf hj=>yB HW (h.below hW) hj hL);have qj:Hid (∀W o' d',aR W pb db n o' d' L->Calls prog 71 #[ptrTo pb,.string out] W (fO n pb db W o' d' L out)):=ae (fun W o' d' hW=>kJ hW out (cg hout));have oN:Hid (∀d':Dsk,cZ d' L out=if d'.tick.dead=true then 6 else 0):=ae (fun d'=>by
  unfold cZ;rw[hout,hno];rfl)
 have ur:Hid (∀W o' d',aR W pb db n o' d' (aS L out (.inl (([]:List Pg),true)))->Calls prog 62 #[ptrTo pb,.string out] W (Hn W pb db n o' d' (aS L out (.inl (([]:List Pg),true))) out)):=ae (fun W o' d' hW=>uB hW (ps:=[]) (fl:=true) (by rw[ay,if_pos rfl]));have hdel:Hid (bX (aS L out (.inl (([]:List Pg),true))) out=L):=ae (by rw[Dy,AQ hno]);have yC:Hid (∀W o' d' cb sb jb bf,aR W pb db n o' d' L->cU W jb pb bf 0 by'->o' jb=none->o' bf=none->bf≠jb->bD W cb sb 0 es.length AJ->aF W sb pb rV 20->o' cb=none->o' sb=none->cb≠jb->cb≠bf->sb≠jb->sb≠cb ->
  Calls prog 117 #[ptrTo jb,ptrTo cb,.string out] W (oQ (fun x=>x=cb\/x=jb) n pb db W o' d' L out (aC by' es) es.length)):=ae (fun W o' d' cb sb jb bf a1 a2 a3 a4 a5 a6 a7 a8 a9 b1 b2 b3 b4=>zb a1 hn a2 a3 a4 a5 hL a6 a7 a8 a9 b1 b2 b3 b4 hout hno B7 hto hm)
 have hne:(rV.toList == out.toList)=false:=qJ hio;have U4:n<=4096:=by
  obtain⟨fb,mb,l,hand,mf,hp,rfl,-⟩:=h;exact hp.most
 have H:=ae h;have hn8:¬(n:Int)<8:=by omega
 clear h hn hL hio hi ho hout hno B7 hm hto;have hby:((mh by':Int)=0\/(mh by':Int)=1):=by cases by'<;>simp[mh]
 have Na:Hid (∀v,Below w.heap.size w (w.alloc (.cells #[v] 3))):=ae (fun v=>ak.alloc (Nat.le_refl _) _);have HBC:Hid (∀v,(w.alloc (.cells #[v] 3)).heap[w.heap.size]? = some (.cells #[v] 3)):=ae (fun v=>heap_alloc_new w _);obtain⟨bn,Lh⟩:∃bn:Int,bn=(mh by':Int):=⟨_,rfl⟩;rw[<- Lh]at hby ⊢;have HBN:=ae Lh;clear Lh;unfold ptrTo at *;generalize es.length=N at *;rcases hby with rfl | rfl;all_goals
  go_enter func77,ntmps77;go_wp2_with fail;refine(zU.out _).mono ?_;rintro e w'⟨rfl,rfl⟩;go_wp2_with fail;refine(ko.out _).mono ?_;rintro e w'⟨rfl,rfl⟩;go_wp2_with fail;refine(rJ.out _ (Na.out _)).mono ?_;rintro e w'⟨rfl,rfl⟩;go_wp2_with fail
 all_goals
  first
   | (have HJ1:Hid (cU ((w.alloc (.cells #[.int .i64 0] 3)).alloc (.cells #[.pointer (some ⟨pb,0,none⟩),.func (.func 115) #[] #[.pointer (some ⟨w.heap.size,0,none⟩)],.int .i64 0] 205)) (w.heap.size+1) pb w.heap.size 0 by'):=ae (DO w pb 0 by' HBN.out)
      have Ov:Hid (Below w.heap.size w ((w.alloc (.cells #[.int .i64 0] 3)).alloc (.cells #[.pointer (some ⟨pb,0,none⟩),.func (.func 115) #[] #[.pointer (some ⟨w.heap.size,0,none⟩)],.int .i64 0] 205))):=ae ((Na.out _).alloc ai _);have hsz:w.heap.size+2=((w.alloc (.cells #[.int .i64 0] 3)).alloc (.cells #[.pointer (some ⟨pb,0,none⟩),.func (.func 115) #[] #[.pointer (some ⟨w.heap.size,0,none⟩)],.int .i64 0] 205)).heap.size:=by simp
      have MZ:=ae hsz;clear hsz;generalize (w.alloc (.cells #[.int .i64 0] 3)).alloc (.cells #[.pointer (some ⟨pb,0,none⟩),.func (.func 115) #[] #[.pointer (some ⟨w.heap.size,0,none⟩)],.int .i64 0] 205)=W1 at *)
   | (have HJ1:Hid (cU ((w.alloc (.cells #[.int .i64 1] 3)).alloc (.cells #[.pointer (some ⟨pb,0,none⟩),.func (.func 115) #[] #[.pointer (some ⟨w.heap.size,0,none⟩)],.int .i64 0] 205)) (w.heap.size+1) pb w.heap.size 0 by'):=ae (DO w pb 1 by' HBN.out)
      have Ov:Hid (Below w.heap.size w ((w.alloc (.cells #[.int .i64 1] 3)).alloc (.cells #[.pointer (some ⟨pb,0,none⟩),.func (.func 115) #[] #[.pointer (some ⟨w.heap.size,0,none⟩)],.int .i64 0] 205))):=ae ((Na.out _).alloc ai _);have hsz:w.heap.size+2=((w.alloc (.cells #[.int .i64 1] 3)).alloc (.cells #[.pointer (some ⟨pb,0,none⟩),.func (.func 115) #[] #[.pointer (some ⟨w.heap.size,0,none⟩)],.int .i64 0] 205)).heap.size:=by simp
      have MZ:=ae hsz;clear hsz;generalize (w.alloc (.cells #[.int .i64 1] 3)).alloc (.cells #[.pointer (some ⟨pb,0,none⟩),.func (.func 115) #[] #[.pointer (some ⟨w.heap.size,0,none⟩)],.int .i64 0] 205)=W1 at *)
  have hco:=ae (p9.out W1 Ov.out (w.heap.size+1) w.heap.size HJ1.out);refine hco.out.mono ?_;rintro e w2⟨v2,c2,d2,o2,rfl,cT,qp,jw⟩;have HC2:=ae cT;have Hs:=ae qp;have eV:Hid (Moved (fun _=>False) n pb db w o d w2 o2 d2 L):=ae ((Moved.aV H.out Ov.out).trans cT (fun _ _ h=>h));clear cT qp hco;by_cases hc2:c2=0
  ·subst hc2;obtain⟨cb,sb,rfl,hs2,oO,Lf,AU,Wc,RU⟩:=jw rfl;have eP:=ae hs2;have nS:=ae oO;have Sz:=ae Lf;have CJ:=ae AU;have aaE:=hs2.lt;have aeR:=oO.lt;have K7:Hid (sb≠cb):=ae (xo hs2 oO);have aqj:w.heap.size+2<=cb:=by rw[MZ.out];exact Wc
   have aqk:w.heap.size+2<=sb:=by rw[MZ.out];exact RU
   clear jw hs2 oO Lf AU Wc RU;unfold ptrTo;have hcc:=ae (qj.out w2 o2 d2 eV.out.aY);unfold fO at hcc;rw[oN.out d2]at hcc;cases Kw:d2.tick.dead with
   |true=>
     rw[Kw,if_pos rfl]at hcc;have pn:=ae Kw;clear Kw;go_wp2_with fail;refine hcc.out.mono ?_;rintro e w3⟨d3,o3,rfl,eE,-,hdd⟩;rw[if_neg ag]at eE;have eH:=ae (eV.out.trans eE (fun _ _ h=>h));have vH:=ae (hdd (by first | exact pn.out | trivial));clear eE hdd hcc;go_wp2;go_ret;exact⟨6,d3,o3,L,rfl,eH.out,fun _ _=>rfl,.inr (.inr ⟨rfl,vH.out⟩)⟩
   |false=>
     rw[Kw,if_neg ai]at hcc;clear Kw;go_wp2_with fail;refine hcc.out.mono ?_;rintro e w3⟨d3,o3,rfl,eE,-,-⟩;simp only[if_true]at eE;have JW:=ae (HC2.out.trans eE (fun _ _ h=>h));have eH:=ae (eV.out.trans eE (fun _ _ h=>h));have fF:Hid (bD w3 cb sb 0 N AJ):=ae (eP.out.kept (eE.block aaE Sz.out (fun h=>h)));have CK:Hid (aF w3 sb pb rV 20):=ae (nS.out.moved eE CJ.out (fun h=>h));have aeS:Hid (o3 cb=none):=ae (eE.free aaE Sz.out);have wZ:Hid (o3 sb=none):=ae (eE.free aeR CJ.out);have Yp:cb<w3.heap.size:=Nat.lt_of_lt_of_le aaE eE.size;have aeT:sb<w3.heap.size:=Nat.lt_of_lt_of_le aeR eE.size;have hdd:=ae (ur.out w3 o3 d3 eE.aY);clear eE hcc;go_wp2_with fail;refine hdd.out.mono ?_;rintro e w4⟨c4,d4,o4,L4,rfl,po,tX,hg4,uz,aj6⟩;have eX:Moved (fun _=>False) n pb db w3 o3 d3 w4 o4 d4 L4:=ju po tX hg4 uz;have gC:=ae (eH.out.trans eX (fun _ _ h=>h));have BV:=ae (JW.out.trans eX (fun _ _ h=>h));have gD:Hid (bD w4 cb sb 0 N AJ):=ae (fF.out.kept (eX.block Yp aeS.out (fun h=>h)));have uF:Hid (aF w4 sb pb rV 20):=ae (CK.out.moved eX wZ.out (fun h=>h));have aj7:Hid (o4 cb=none):=ae (eX.free Yp aeS.out);have V7:Hid (o4 sb=none):=ae (eX.free aeT wZ.out);clear po tX hg4 uz eX hdd;rcases aj6 with⟨rfl,he⟩|⟨rfl,kI,dp,he⟩
     ·have he':=he.trans hdel.out;rw[he']at gC BV;have HJ4:Hid (cU w4 (w.heap.size+1) pb w.heap.size 0 by'):=ae (HJ1.out.moved BV.out (H.out.fresh af) (H.out.fresh (Nat.le_refl _)) (fun h=>h) (fun h=>h));have N6:=ae (yC.out w4 o4 d4 cb sb (w.heap.size+1) w.heap.size gC.out.aY HJ4.out (BV.out.free HJ1.out.lt.1 (H.out.fresh af)) (BV.out.free HJ1.out.lt.2 (H.out.fresh (Nat.le_refl _))) af gD.out uF.out aj7.out V7.out af af af K7.out);clear he he';go_wp2_with fail;refine N6.out.mono ?_;rintro e w5⟨c5,d5,o5,L5,rfl,kP,aeU,BR⟩;have lL:=ae (gC.out.trans kP (fun x hx e=>by omega));have aj8:=ae aeU;have Oi:Hid ((c5=0/\∀x,aB L5 x=aB (aS L out (ax (aC by' es) true)) x)\/jL d d5 (need L+8*N) c5):=ae (BR.imp id (fun h=>h.later gC.out.on.bO));clear kP aeU BR N6;go_wp2;go_ret;exact⟨c5,d5,o5,L5,rfl,lL.out,aj8.out,Oi.out⟩
     ·have HE:=ae he;have HD:=ae kI;clear he kI;go_wp2;go_ret;refine⟨6,d4,o4,L4,rfl,gC.out,fun x hx=>?_,.inr (.inr ⟨rfl,HD.out⟩)⟩;rw[HE.out,ay,if_neg (fun e=>hx (.inl e)),ay,if_neg (fun e=>hx (.inl e))]
  ·have KR:¬(c2:Int)=0:=by omega
   have Cw:Hid (jL d d2 (need L+8*N) c2):=ae ((Hs.out.resolve_left hc2).num (Nat.le_add_right _ _));clear hc2 jw;go_wp2;go_ret;exact⟨c2,d2,o2,L,rfl,eV.out,fun _ _=>rfl,.inr Cw.out⟩
end
end
section
open Go Go.RowKit
section
variable {P:Program} {C:World->Prop} {Pd:Nat->Value->World->Prop} {l:List Oper} {a0:Act}
structure j7(C:World->Prop)(Pd:Nat->Value->World->Prop)(l:List Oper)(a0:Act)(listed:Array Bool)(a:Act)(w:World):Prop where
 size:listed.size=l.length
 cls:C w
 Ni:a.tmps.size=a0.tmps.size
 Wi:a.defers=a0.defers
 out:∀k,(∀o∈l,o.dst≠some k)->a.tmps[k]? = a0.tmps[k]?
 slot:∀(i:Nat)(o:Oper)(k:Nat),l[i]? = some o->o.dst=some k->listed.getD i true=true->∃v,a.tmps[k]? = some v/\Pd i v w
def jB(Pd:Nat->Value->World->Prop)(l:List Oper)(a0:Act)(o:Oper)(a:Act)(w:World):Prop:=
 (∀k,(∀o∈l,o.dst≠some k)->a.tmps[k]? = a0.tmps[k]?)/\a.tmps.size=a0.tmps.size /\
 ∀e∈o.after,Region.binds .any e=true->∀(oj:Oper)(k:Nat),l[e.on]? = some oj->oj.dst=some k->∃v,a.tmps[k]? = some v/\Pd e.on v w
def rK(P:Program)(Pd:Nat->Value->World->Prop)(i:Nat)(o:Oper)(a:Act)(w:World):Prop:=
 ∀(Q:Exit->Act->World->Prop)(K:Act->World->Prop),(∀v w',Below w.heap.size w w'->Pd i v w'->K (a.put o.dst v) w')->o.wp P a w K Q
theorem OZ{Q:Exit->Act->World->Prop}(hg:∀o∈l,o.guard=none)(hd:∀(i j:Nat)(oi oj:Oper)(k:Nat),l[i]? = some oi->l[j]? = some oj->oi.dst=some k->oj.dst=some k->i=j)(hb:∀o∈l,∀k,o.dst=some k->k<a0.tmps.size)(hmono:∀w w',C w->Below w.heap.size w w'->C w')(hP:∀i v w w',Below w.heap.size w w'->Pd i v w->Pd i v w')(hstep:∀(i:Nat)(o:Oper),l[i]? = some o->∀a w,C w->jB Pd l a0 o a w->rK P Pd i o a w)(hend:∀listed a w,j7 C Pd l a0 listed a w->Region.ready .any l.toArray listed=[]->Q .normal a w)(f:Nat) :
 ∀(listed:Array Bool)(a:Act)(w:World),j7 C Pd l a0 listed a w->listed.toList.count false<=f->wpAny P .any l.toArray Q f listed a w:=by
 induction f with
 |zero=>
   intro listed a w inv hf;have hall:∀i,listed.getD i true=true:=fun i=>by
    rw[Array.getD_eq_getD_getElem?];grind [List.count_pos_iff]
   have hr:Region.ready .any l.toArray listed=[]:=by
    grind [Region.ready,List.filter_eq_nil_iff]
   exact⟨hr,hend _ _ _ inv hr⟩
 |succ f ih=>
   intro listed a w inv hf;refine⟨hend _ _ _ inv,fun i hi=>?_⟩;obtain⟨oG,o,ho,hall⟩:=mem_ready.1 hi;have jM:l[i]? = some o:=by grind
   have hol:o∈l:=List.mem_of_getElem? jM;have mU:i<l.length:=(List.getElem?_eq_some_iff.1 jM).1;have SS:jB Pd l a0 o a w:=⟨inv.out,inv.Ni,fun e he Lh oj k km hk=>inv.slot _ oj k km hk (by
    grind)⟩
   have hw:Region.wanted o (yielded l.toArray a.tmps)=true:=by
    grind [Region.wanted]
   unfold wpOp;rw[ho];simp only[hw,if_true];refine .inl (hstep i o jM a w inv.cls SS _ _ (fun v w' hbw hv=>ih _ _ _ ⟨?_,hmono _ _ inv.cls hbw,?_,?_,fun k hk=>?_,fun j oj k km hk hlj=>?_⟩ ?_))
   ·grind [j7.size]
   ·unfold Act.put;grind [j7.Ni]
   ·unfold Act.put;grind [j7.Wi]
   ·unfold Act.put;grind [j7.out]
   ·by_cases eY:i=j
    ·grind [Act.put,j7.Ni]
    ·have aaH:listed.getD j true=true:=by
      rw[Array.getD_eq_getD_getElem?,Array.getElem?_setIfInBounds_ne eY]at hlj;grind [Array.getD_eq_getD_getElem?]
     obtain⟨u,hu1,hu2⟩:=inv.slot j oj k km hk aaH;refine⟨u,?_,hP _ _ _ _ hbw hu2⟩;unfold Act.put;grind
   ·have sY:listed[i]? = some false:=by
     rw[Array.getD_eq_getD_getElem?]at oG;grind
    grind
theorem CP{id:Nat}{Q:Exit->Act->World->Prop}{w:World}(C:World->Prop)(Pd:Nat->Value->World->Prop)(hm:P.follows .mixedOrders=true)(hg:∀o∈l,o.guard=none)(hd:∀(i j:Nat)(oi oj:Oper)(k:Nat),l[i]? = some oi->l[j]? = some oj->oi.dst=some k->oj.dst=some k->i=j)(hb:∀o∈l,∀k,o.dst=some k->k<a0.tmps.size)(hC:C w.drew)(hmono:∀w w',C w->Below w.heap.size w w'->C w')(hP:∀i v w w',Below w.heap.size w w'->Pd i v w->Pd i v w')(hstep:∀(i:Nat)(o:Oper),l[i]? = some o->∀a w,C w->jB Pd l a0 o a w->rK P Pd i o a w)(hend:∀listed a w,j7 C Pd l a0 listed a w->Region.ready .any l.toArray listed=[]->Q .normal a w):(Code.region id l.toArray true).wp P Q a0 w:=by
 refine wp_region_any hm ?_;refine OZ hg hd hb hmono hP hstep hend _ _ _ _ ⟨ai,hC,rfl,rfl,fun _ _=>rfl,fun i o k ho _ hl=>?_⟩ ?_
 ·have mU:i<l.length:=(List.getElem?_eq_some_iff.1 ho).1;simp_all
 simp
def IA(l:List Oper)(n:Nat):Bool:=
 l.all (fun o=>o.guard.isNone) && l.all (fun o=>match o.dst with | some k=>decide (k<n) | none=>true) &&
  (List.range l.length).all fun i=>(List.range l.length).all fun j=>decide (i=j) || (match (l[i]?).bind (·.dst),(l[j]?).bind (·.dst) with | some a,some b=>decide (a≠b) | _,_=>true)
theorem A3{id:Nat}{Q:Exit->Act->World->Prop}{w:World}(C:World->Prop)(Pd:Nat->Value->World->Prop)(hm:P.follows .mixedOrders=true)(hB:IA l a0.tmps.size=true)(hC:C w.drew)(hmono:∀w w',C w->Below w.heap.size w w'->C w')(hP:∀i v w w',Below w.heap.size w w'->Pd i v w->Pd i v w')(hstep:∀(i:Nat)(o:Oper),l[i]? = some o->∀a w,C w->jB Pd l a0 o a w->rK P Pd i o a w)(hend:∀listed a w,j7 C Pd l a0 listed a w->Region.ready .any l.toArray listed=[]->Q .normal a w):(Code.region id l.toArray true).wp P Q a0 w:=by
 simp only[IA,Bool.and_eq_true,List.all_eq_true]at hB;obtain⟨⟨h1,h2⟩,h3⟩:=hB;refine CP C Pd hm (fun o ho=>by simp_all) (fun i j oi oj k hi hj MG hkj=>?_) (fun o ho k hk=>?_) hC hmono hP hstep hend
 ·have h4:=h3 i (List.mem_range.2 (List.getElem?_eq_some_iff.1 hi).1) j (List.mem_range.2 (List.getElem?_eq_some_iff.1 hj).1);grind
 grind
theorem cA{i:Nat}{o:Oper}{a:Act}{w w':World}{v:Value}(h:(execOp a.eval o).run P w=.ok (.value v) w')(hb:Below w.heap.size w w')(hp:Pd i v w'):rK P Pd i o a w:=by
 intro Q K hK;unfold Oper.wp;rw[h];exact hK v w' hb hp
theorem DT{i:Nat}{o:Oper}{a:Act}{w:World}{f:FuncId}{args:Array Value}(h:(execOp a.eval o).run P w=.ok (.enter f args) w)(hc:Calls P f args w fun e w'=>∃v,e=.returned v/\Below w.heap.size w w'/\Pd i v w'):rK P Pd i o a w:=by
 intro Q K hK;unfold Oper.wp;rw[h];refine Calls.mono hc ?_;grind
theorem jB.get{o:Oper}{a:Act}{w:World}(h:jB Pd l a0 o a w)(j:Nat){oj:Oper}{k:Nat}(hj:(o.after.toList.any fun e=>decide (e.on=j) && Region.binds .any e)=true)(ho:l[j]? = some oj)(hk:oj.dst=some k):∃v,a.tmps[k]? = some v/\Pd j v w:=by
 rw[List.any_eq_true]at hj;obtain⟨e,he,h1⟩:=hj;rw[Bool.and_eq_true,decide_eq_true_eq]at h1;obtain⟨rfl,h2⟩:=h1;obtain⟨v,h3,h4⟩:=h.2.2 e (by grind) h2 oj k ho hk;grind
theorem jB.old{o:Oper}{a:Act}{w:World}(h:jB Pd l a0 o a w)(k:Nat){v:Value}(hk:(l.all fun o=>decide (o.dst≠some k))=true)(h0:a0.tmps[k]? = some v):a.tmps[k]? = some v:=by
 refine(h.1 k fun o ho=>?_).trans h0;grind
theorem Wk{C:World->Prop}{listed:Array Bool}{a:Act}{w:World}(h:j7 C Pd l a0 listed a w)(hr:Region.ready .any l.toArray listed=[])(hB:((List.range l.length).all fun i=>match l[i]? with | some o=>o.after.toList.all (fun e=>decide (e.on<i)) | none=>true)=true) :
 ∀(i:Nat)(o:Oper)(k:Nat),l[i]? = some o->o.dst=some k->∃v,a.tmps[k]? = some v/\Pd i v w:=by
 have hall:∀i,i<l.length->listed.getD i true=true:=by
  intro i;induction i using Nat.strongRecOn with
  |_ i ih=>
    intro hi;by_cases hd:listed.getD i true=true
    ·exact hd
    ·exfalso
     have hd':listed.getD i true=false:=by grind
     have hm:i∈Region.ready .any l.toArray listed:=by
      refine mem_ready.2 ⟨hd',l[i],ai,fun e he _=>?_⟩;rw[List.all_eq_true]at hB;have h1:=hB i (List.mem_range.2 hi);grind
     grind
 grind [j7.slot]
theorem qU{a b:Act}(hs:a.tmps.size=b.tmps.size)(hd:a.defers=b.defers)(he:∀k,k<b.tmps.size->a.tmps[k]? = b.tmps[k]?):a=b:=by
 obtain⟨ta,da⟩:=a;obtain⟨tb,db⟩:=b;grind [Array.ext]
def jC(a:Act):List Oper->List Value->Act
 |o::l,v::vs=>jC (a.put o.dst v) l vs
 |_,_=>a
theorem qV(a:Act)(d:Option Tmp)(v:Value):(a.put d v).tmps.size=a.tmps.size:=by
 unfold Act.put;grind
theorem sF(a:Act)(d:Option Tmp)(v:Value):(a.put d v).defers=a.defers:=by
 unfold Act.put;grind
theorem pR(a:Act)(d:Option Tmp)(v:Value)(k:Nat)(h:d≠some k):(a.put d v).tmps[k]? = a.tmps[k]? := by
 unfold Act.put;grind
theorem nx(l:List Oper):∀(a:Act)(vs:List Value),(jC a l vs).tmps.size=a.tmps.size/\(jC a l vs).defers=a.defers/\∀k,(∀o:Oper,o∈l->o.dst≠some k)->(jC a l vs).tmps[k]? = a.tmps[k]? := by
 induction l with
 |nil=>intro a vs;cases vs<;>exact⟨rfl,rfl,fun _ _=>rfl⟩
 |cons o l ih=>
   intro a vs;cases vs with
   |nil=>exact⟨rfl,rfl,fun _ _=>rfl⟩
   |cons v vs=>
     obtain⟨h1,h2,h3⟩:=ih (a.put o.dst v) vs;exact⟨h1.trans (qV _ _ _),h2.trans (sF _ _ _),fun k hk=>(h3 k (fun o' jM=>hk o' (by grind))).trans (pR _ _ _ _ (hk o ai))⟩
theorem xv(l:List Oper):∀(a:Act)(vs:List Value)(i:Nat)(o:Oper)(k:Nat)(v:Value),l[i]? = some o->o.dst=some k->vs[i]? = some v->k<a.tmps.size->(∀(j:Nat)(oj:Oper),l[j]? = some oj->oj.dst=some k->j=i)->(jC a l vs).tmps[k]? = some v:=by
 induction l with
 |nil=>simp
 |cons o' l ih=>
   intro a vs i o k v ho hk hv hb hu;cases vs with
   |nil=>cases hv
   |cons v' vs=>
     cases i with
     |zero=>
       cases ho;cases hv;refine((nx l (a.put _ v) vs).2.2 k (fun x hx e=>?_)).trans ?_
       ·obtain⟨j,hj⟩:=List.mem_iff_getElem?.1 hx;have:=hu (j+1) x (by grind) e;omega
       grind [Act.put]
     |succ i=>
       refine ih (a.put o'.dst v') vs i o k v (by grind) hk (by grind) (by grind [qV]) (fun j oj hj he=>?_);have:=hu (j+1) oj (by grind) he;omega
theorem Wl{C:World->Prop}{listed:Array Bool}{a:Act}{w:World}(h:j7 C Pd l a0 listed a w)(hr:Region.ready .any l.toArray listed=[])(hB:IA l a0.tmps.size=true)(hA:((List.range l.length).all fun i=>match l[i]? with | some o=>o.after.toList.all (fun e=>decide (e.on<i)) && o.dst.isSome | none=>true)=true) :
 ∃vs:List Value,vs.length=l.length/\(∀i v,vs[i]? = some v->Pd i v w)/\a=jC a0 l vs:=by
 rw[List.all_eq_true]at hA;have hA':∀(i:Nat)(o:Oper),l[i]? = some o->(o.after.toList.all (fun e=>decide (e.on<i)))=true/\∃k,o.dst=some k:=fun i o ho=>by
  grind [Option.isSome_iff_exists]
 have pZ:=Wk h hr (by
  grind)
 simp only[IA,Bool.and_eq_true,List.all_eq_true]at hB;obtain⟨⟨_,h2⟩,h3⟩:=hB;have Yq:∀(i j:Nat)(oi oj:Oper)(k:Nat),l[i]? = some oi->l[j]? = some oj->oi.dst=some k->oj.dst=some k->i=j:=fun i j oi oj k hi hj MG hkj=>by
  grind
 refine⟨l.map fun o=>(o.dst.bind (a.tmps[·]?)).getD undef,List.length_map _,fun i v hv=>?_,?_⟩
 ·grind
 ·obtain⟨k1,k2,k3⟩:=nx l a0 (l.map fun o=>(o.dst.bind (a.tmps[·]?)).getD undef);refine qU (by rw[k1,h.Ni]) (by rw[k2,h.Wi]) (fun k hk=>?_);rw[k1]at hk;by_cases he:∃o∈l,o.dst=some k
  ·obtain⟨o,ho,fe⟩:=he;obtain⟨i,hi⟩:=List.mem_iff_getElem?.1 ho;grind [xv]
  grind [j7.out]
end
end
section
open Go.RowKit Go.Maps Go.MapKept
def aK(c:UInt8)(k:Nat):Name:=⟨([c,46]++Lib.decDigits k).toArray⟩
def uV(w:World):Prop:=Lib.TabIs prog w "internal/strconv.uint64pow10" .u64 Lib.pow10Tab
theorem Nj:prog.globalNamed "internal/strconv.uint64pow10"=some 0:=by rfl
theorem uV.kept{w w':World}(h:uV w)(hb:w'.heap[(0:Nat)]? = w.heap[(0:Nat)]?):uV w':=by
 grind [uV,Lib.TabIs,World.var?,Nj]
theorem uV.lt{w:World}(h:uV w):0<w.heap.size:=by
 grind [uV,Lib.TabIs,World.var?,Nj]
def jP(w:World)(o:au)(gen:Nat):Prop:=gen<100\/(gen<=1048576/\uV w/\o 0=none)
theorem jP.le{w:World}{o:au}{gen:Nat}(h:jP w o gen):gen<=1048576:=h.elim (fun h=>by omega) (fun h=>h.1)
theorem jP.below{w w':World}{o:au}{gen:Nat}(h:jP w o gen)(hb:Below w.heap.size w w'):jP w' o gen:=
 h.imp id fun⟨h1,h2,h3⟩=>⟨h1,h2.kept (hb.block _ h2.lt),h3⟩
theorem jP.moved{S:Nat->Prop}{n pb db gen:Nat}{w w':World}{o o':au}{d d':Dsk}{L':aH}(h:jP w o gen)(hm:Moved S n pb db w o d w' o' d' L')(hs:∀x,¬S x):jP w' o' gen:=
 h.imp id fun⟨h1,h2,h3⟩=>⟨h1,h2.kept (hm.block h2.lt h3 (hs _)),hm.free h2.lt h3⟩
theorem DU:∀(n k:Nat),k<10^(n+1)->(Lib.decDigits k).all jl=true/\(Lib.decDigits k).length<=n+1:=by
 have hb:∀j,j<10->jl (UInt8.ofNat (48+j))=true:=by decide
 intro n;induction n with
 |zero=>
   grind [Lib.decDigits]
 |succ n ih=>
   grind [Lib.decDigits]
theorem ze(c:UInt8)(k:Nat)(hk:k<100)(w:World) :
 Calls prog 18 #[.int .u8 (c.toNat:Int),.int .i64 (k:Int)] w fun e w'=>e=.returned (.string (aK c k))/\Below w.heap.size w w':=by
 have hit:=ae (fun W=>Any.strconv_Itoa_small (P:=prog) (ρ:=Tryz.uI) { Tryz.itoa with } k hk W);have Ka:¬(k:Int)<0:=by omega
 have UI:(Lib.decDigits k).length<=2:=by
  grind [Lib.decDigits_one,Lib.decDigits_two]
 have HT:Hid ((⟨#[c,46]⟩:ByteArray)++⟨(Lib.decDigits k).toArray⟩=aK c k):=ae (by
  rfl)
 have hcv:Sem.run prog (convert 39 9 (.slice (some ⟨w.heap.size,0,none⟩) 2 2)) (w.alloc (.cells #[.int .u8 (c.toNat:Int),.int .u8 46] 5)).drew=.ok (.string ⟨#[c,46]⟩) (w.alloc (.cells #[.int .u8 (c.toNat:Int),.int .u8 46] 5)).drew:=
  run_convert_bytes_back (P:=prog) _ 39 9 5 ⟨w.heap.size,0,none⟩ 2 [c,46] Tryz.underlying39 Tryz.underlying5 Tryz.underlying9 (fun j hj=>by
   rw[bI,Nat.zero_add];match j,hj with
   |0,_=>simp
   |1,_=>simp)
 generalize Lib.decDigits k=dg at *;go_enter func18,ntmps18;go_wp2;go_region_with (go_at_call 51;refine(hit.out _).mono ?_;rintro e w'⟨rfl,rfl⟩)
 all_goals
  go_wp2;go_ret;exact⟨by rw[<- HT.out];rfl,aj.drew⟩
def Fm(c:UInt8)(k:Nat)(dg:List UInt8)(full:Name):Nat->Value->World->Prop
 |0,v,_=>v=.int .u8 (c.toNat:Int)
 |1,v,W=>∃g,v=.slice (some ⟨g,0,none⟩) 2 2/\W.cell? ⟨g,0,none⟩=some (.int .u8 (c.toNat:Int))/\W.cell? ⟨g,1,none⟩=some (.int .u8 46)
 |2,v,_=>v=.string ⟨#[c,46]⟩
 |3,v,_=>v=.int .i64 (k:Int)
 |4,v,_=>v=.string ⟨dg.toArray⟩
 |_,v,_=>v=.string full
theorem Li{c:UInt8}{k:Nat}{dg:List UInt8}{full:Name}(i:Nat)(v:Value)(w w':World)(hb:Below w.heap.size w w')(h:Fm c k dg full i v w):Fm c k dg full i v w':=by
 match i,h with
 |0,h=>exact h
 |1,⟨g,h1,h2,h3⟩=>exact⟨g,h1,(hb.cell (World.block_lt_of_cell? w _ h2)).trans h2,(hb.cell (World.block_lt_of_cell? w _ h3)).trans h3⟩
 |2,h=>exact h
 |3,h=>exact h
 |4,h=>exact h
 |_+5,h=>exact h
theorem IB(w:World)(k:Nat)(os:Array Obj):Below w.heap.size w (Go.Sort.grow (w.drewN k) os):=
 ⟨rfl,rfl,rfl,ai,fun j hj=>by show(w.heap++os)[j]? = w.heap[j]?;grind⟩
theorem zf(c:UInt8)(k:Nat)(hk:k<=1048576)(w:World)(hp:uV w) :
 Calls prog 18 #[.int .u8 (c.toNat:Int),.int .i64 (k:Int)] w fun e w'=>e=.returned (.string (aK c k))/\Below w.heap.size w w':=by
 have hit:Hid (∀W,Below w.heap.size w W->Calls prog 51 #[.int .i64 (k:Int)] W fun e w'=>∃v,e=.returned v/\Below W.heap.size W w'/\v=.string ⟨(Lib.decDigits k).toArray⟩):=ae (fun W hW=>by
  refine(Any.strconv_Itoa (P:=prog) (ρ:=Tryz.uI) { Tryz.itoa with } (k:Int) af af W (hp.kept (hW.block _ hp.lt))).mono ?_;grind [Lib.itoa_nonneg,IB])
 have Ka:¬(k:Int)<0:=by omega
 have HT:Hid ((⟨#[c,46]⟩:ByteArray)++⟨(Lib.decDigits k).toArray⟩=aK c k):=ae (by
  rfl)
 have hcv:Hid (∀(W:World)(g:Nat),W.cell? ⟨g,0,none⟩=some (.int .u8 (c.toNat:Int))->W.cell? ⟨g,1,none⟩=some (.int .u8 46)->Sem.run prog (convert 39 9 (.slice (some ⟨g,0,none⟩) 2 2)) W=.ok (.string ⟨#[c,46]⟩) W):=ae (fun W g h0 h1=>
  run_convert_bytes_back (P:=prog) _ 39 9 5 ⟨g,0,none⟩ 2 [c,46] Tryz.underlying39 Tryz.underlying5 Tryz.underlying9 (fun j hj=>by
   rw[bI,Nat.zero_add];match j,hj with
   |0,_=>exact h0
   |1,_=>exact h1))
 have UI:(Lib.decDigits k).length<=7:=(DU 6 k af).2;clear hp;generalize Lib.decDigits k=dg at *;generalize aK c k=full at *;go_enter func18,ntmps18;go_wp2;refine A3 (Below w.heap.size w) (Fm c k dg full) (by rfl) (by rfl) ak.drew (fun w1 w2 h1 h2=>h1.trans (h2.mono h1.size)) Li ?_ ?_
 ·intro i o ho a W hC gB;match i,ho with
  |0,ho=>
    cases ho;have h0:=gB.old 0 rfl rfl;refine cA (v:=.int .u8 (c.toNat:Int)) (w':=W) ?_ ak rfl;go_simp
  |1,ho=>
    cases ho;obtain⟨v7,h7,rfl⟩:=gB.get 0 rfl rfl rfl;refine cA (v:=.slice (some ⟨W.heap.size,0,none⟩) 2 2) (w':=W.alloc (.cells #[.int .u8 (c.toNat:Int),.int .u8 46] 5)) ?_ aj ⟨W.heap.size,rfl,ai,ai⟩;go_simp
  |2,ho=>
    cases ho;obtain⟨v8,h8,g,rfl,c0,c1⟩:=gB.get 1 rfl rfl rfl;have hc:=hcv.out W g c0 c1;refine cA (v:=.string ⟨#[c,46]⟩) (w':=W) ?_ ak rfl;go_simp
  |3,ho=>
    cases ho;have h1:=gB.old 1 rfl rfl;refine cA (v:=.int .i64 (k:Int)) (w':=W) ?_ ak rfl;go_simp
  |4,ho=>
    cases ho;obtain⟨v10,h10,rfl⟩:=gB.get 3 rfl rfl rfl;refine DT (f:=51) (args:=#[.int .i64 (k:Int)]) ?_ (hit.out W hC);go_simp
  |5,ho=>
    cases ho;obtain⟨v9,h9,rfl⟩:=gB.get 2 rfl rfl rfl;obtain⟨v11,h11,rfl⟩:=gB.get 4 rfl rfl rfl;refine cA (v:=.string full) (w':=W) ?_ ak rfl;rw[<- HT.out];go_simp;omega
  |6,ho=>
    cases ho;obtain⟨v12,ET,rfl⟩:=gB.get 5 rfl rfl rfl;refine cA (v:=.string full) (w':=W) ?_ ak rfl;go_simp
  |_+7,ho=>cases ho
 ·intro listed a W inv hr;have HB:=ae inv.cls;obtain⟨vs,hl,hp,rfl⟩:=Wl inv hr (by rfl) (by rfl);match vs,hl with
  | [v0,v1,v2,v3,v4,v5,v6],_=>
    obtain rfl:=hp 6 v6 rfl;clear hp hl hr inv;simp only[jC];go_simp;go_wp2;go_ret;exact⟨rfl,HB.out⟩
theorem dS(c:UInt8)(k:Nat){w:World}{o:au}(h:jP w o k) :
 Calls prog 18 #[.int .u8 (c.toNat:Int),.int .i64 (k:Int)] w fun e w'=>e=.returned (.string (aK c k))/\Below w.heap.size w w':=by
 rcases h with h |⟨h1,h2,_⟩
 ·exact ze c k h w
 ·exact zf c k h1 w h2
theorem qW(k:Nat)(hk:k<=1048576)(w:World):Calls prog 66 #[.int .i64 (k:Int)] w fun e w'=>e=.returned (.bool true)/\w=w':=by
 have h1:(k:Int)<=1048576:=by omega
 have h2:(k:Int) >= 0:=by omega
 go_enter func66,ntmps66;go_wp2;go_ret;simp
end
section
open Go.RowKit Go.Maps Go.MapKept
def b6(vs:List cj)(fl:Bool):iB:=.inl (bC (eO 12) (vs.map cj.bytes),fl)
theorem qX(vs:List cj):gK 12 (vs.map cj.bytes):=fun r hr=>by
 obtain⟨e,_,rfl⟩:=List.mem_map.1 hr;exact e.eF
theorem fY(vs:List cj)(fl:Bool):(b6 vs fl).need<=4*vs.length:=by
 unfold b6 iB.need;dsimp only;rw[dV,List.length_map];have:cz (eO 12) vs.length<=vs.length:=by
  unfold cz;have ET:eO 12=20:=by decide
  rw[ET];omega
 omega
def fG(w:World)(v:Value)(vs:List cj):Prop:=
 ∃a cap,v=.slice a vs.length cap/\vs.length<=cap/\cap<=maxLen/\(vs.length=0\/∃b off,a=some ⟨b,off,none⟩/\∀i(h:i<vs.length),w.cell? ⟨b,off+i*3,none⟩=some (.int .u32 (vs[i].r.toNat:Int))/\w.cell? ⟨b,off+i*3+1,none⟩=some (.int .u32 (vs[i].l.toNat:Int))/\w.cell? ⟨b,off+i*3+2,none⟩=some (.int .u32 (vs[i].g.toNat:Int)))
theorem uW(c:UInt8)(hc:jl c=true){k:Nat}(h:k<=1048576):bM (aK c k)=true:=by
 obtain⟨h1,h2⟩:=DU 6 k af;unfold bM aK;have hs:(ByteArray.mk ([c,46]++Lib.decDigits k).toArray).size=2+(Lib.decDigits k).length:=by
  show Array.size _=_;simp;omega
 rw[hs];simp only[List.cons_append,List.nil_append,List.all_cons,h1,hc,Bool.and_eq_true,decide_eq_true_eq];refine⟨⟨⟨trivial,ag,trivial⟩,af⟩,af⟩
theorem rL(c:UInt8)(hc:c≠116)(k:Nat):ownName (aK c k)=false:=by
 unfold ownName aK aaD Lib.hasPrefix;simp[List.isPrefixOf];intro h;exact absurd h.symm hc
theorem iE{c c':UInt8}(hc:c≠c')(k k':Nat):aK c k≠aK c' k':=by
 unfold aK;intro h;have h1:=congrArg (fun x:ByteArray=>x.data.toList) h;simp only[List.cons_append,List.cons.injEq]at h1;exact hc h1.1
theorem bm(c:UInt8)(hc:c≠116)(k j:Nat):aK c k≠dC j:=fun e=>by
 have h1:=rL c hc k;rw[e,xl]at h1;cases h1
noncomputable def fT(L:aH)(gen:Nat)(es:List aD)(vs:List cj):aH:=
 aS (aS (aS L (aK 101 gen) (ax (aC false es) true)) (aK 114 gen) (ax (aC true es) true)) (aK 118 gen) (b6 vs true)
def Fo(gen:Nat)(x:Name):Prop:=x=aK 101 gen\/x=aK 114 gen\/x=aK 118 gen\/∃k,k<128/\x=dC k
def SU(n pb db:Nat)(w:World)(o:au)(d:Dsk)(L:aH)(gen:Nat)(es:List aD)(vs:List cj)(e:Ending)(w':World):Prop:=
 ∃c d' o' L',e=.returned (.int .i64 ((c:Nat):Int))/\Moved (fun _=>False) n pb db w o d w' o' d' L'/\(∀x,¬Fo gen x->aB L' x=aB L x)/\((c=0/\L'=fT L gen es vs)\/jL d d' (need L+20*es.length+4*vs.length) c)
section
variable {w w':World} {pb db n:Nat} {name:Name} {o o':au} {d d':Dsk} {L L':aH}
theorem sG(HW:aP){m:Nat}(zb:dZ m)(h:aR w pb db n o d L)(hn:8<=n){es:List aD}{fl:Bool}{raw:Name}{gen:Nat}(hg:jP w o gen)(hL:aB L raw=some (ax es fl))(CQ:ownName raw=false)(hm:es.length<=m)(he:aB L (aK 101 gen)=none)(hr:aB L (aK 114 gen)=none)(hv:aB L (aK 118 gen)=none)(B7:∀k,aB L (dC k)=none){v:Value}{vs:List cj}(hvs:fG w v vs)(mG:∀x,v.ownBlock=some x->o x=none)(ZO:vs.length<65535) :
 Calls prog 45 #[ptrTo pb,.string raw,.int .i64 (gen:Int),v] w (SU n pb db w o d L gen es vs):=by
 have aaI:raw≠aK 101 gen:=fun e=>by rw[e,he]at hL;cases hL
 have pJ:raw≠aK 114 gen:=fun e=>by rw[e,hr]at hL;cases hL
 have Lj:=ae (qW gen hg.le);have aaJ:=ae (fun W o'(hW:jP W o' gen)=>dS 101 gen hW);have aaK:=ae (fun W o'(hW:jP W o' gen)=>dS 114 gen hW);have aaL:=ae (fun W o'(hW:jP W o' gen)=>dS 118 gen hW);have hs1:Hid (∀W o' d',aR W pb db n o' d' L->Calls prog 77 #[ptrTo pb,.string raw,.string (aK 101 gen),.int .i64 0] W (oQ (fun _=>False) n pb db W o' d' L (aK 101 gen) (aC false es) es.length)):=ae (fun W o' d' hW=>
  DR (by':=false) HW zb hW hn hL aaI CQ (rL 101 ag gen) (uW 101 ag hg.le) he B7 hm)
 obtain⟨L1,Nf⟩:∃L1,L1=aS L (aK 101 gen) (ax (aC false es) true):=⟨_,rfl⟩;have Yr:aB L1 raw=some (ax es fl):=by rw[Nf,ay,if_neg aaI,hL]
 have hr1:aB L1 (aK 114 gen)=none:=by rw[Nf,ay,if_neg (iE ag _ _),hr]
 have aeW:∀k,aB L1 (dC k)=none:=fun k=>by rw[Nf,ay,if_neg (fun e=>bm 101 ag gen k e.symm),B7]
 have hs2:Hid (∀W o' d',aR W pb db n o' d' L1->Calls prog 77 #[ptrTo pb,.string raw,.string (aK 114 gen),.int .i64 1] W (oQ (fun _=>False) n pb db W o' d' L1 (aK 114 gen) (aC true es) es.length)):=ae (fun W o' d' hW=>
  DR (by':=true) HW zb hW hn Yr pJ CQ (rL 114 ag gen) (uW 114 ag hg.le) hr1 aeW hm)
 obtain⟨L2,hL2⟩:∃L2,L2=aS L1 (aK 114 gen) (ax (aC true es) true):=⟨_,rfl⟩;have hv2:aB L2 (aK 118 gen)=none:=by rw[hL2,ay,if_neg (iE ag _ _),Nf,ay,if_neg (iE ag _ _),hv]
 have Wm:=uW 118 ag hg.le;have Lk:=ae hg;have qj:Hid (∀W o' d',aR W pb db n o' d' L2->Calls prog 71 #[ptrTo pb,.string (aK 118 gen)] W (fO n pb db W o' d' L2 (aK 118 gen))):=ae (fun W o' d' hW=>kJ hW _ (cg Wm));have oN:Hid (∀d':Dsk,cZ d' L2 (aK 118 gen)=if d'.tick.dead=true then 6 else 0):=ae (fun d'=>by
  unfold cZ;rw[Wm,hv2];rfl)
 have p9:Hid (∀W o' d' L',aR W pb db n o' d' L'->Calls prog 67 #[ptrTo pb,.string (aK 118 gen),.int .i64 12] W (dW W pb (aK 118 gen) 12 (cN d' (aK 118 gen)))):=ae (fun W o' d' L' hW=>dX (sz:=12) hW _ (cg Wm) ag ag);have lq:Hid (∀W o' d' sb rs,aR W pb db n o' d' (aS L2 (aK 118 gen) (b6 rs false))->aF W sb pb (aK 118 gen) 12->o' sb=none->rs.length<65535->∀rv(x:cj),Rd W rv x.bytes->(∀b,rv.ownBlock=some b->o' b=none) ->
  Calls prog 72 #[ptrTo sb,rv] W (jv (fun _=>False) n pb db W o' d' (aS L2 (aK 118 gen) (b6 rs false)) (aS L2 (aK 118 gen) (b6 (rs++[x]) false)))):=ae (fun W o' d' sb rs hW hst jM hl rv x hr hro=>by
  have:=ku HW hW hst jM ag ag (by rw[ay,if_pos rfl];rfl) (qX rs) (by rw[List.length_map];exact hl) hr x.eF hro;rw[iZ]at this;unfold b6 at this ⊢;rw[List.map_append];exact this)
 have MU:Hid (∀W o' d',aR W pb db n o' d' (aS L2 (aK 118 gen) (b6 vs false))->Calls prog 79 #[ptrTo pb,.string (aK 118 gen)] W (jv (fun _=>False) n pb db W o' d' (aS L2 (aK 118 gen) (b6 vs false)) (aS L2 (aK 118 gen) (b6 vs true)))):=ae (fun W o' d' hW=>by
  have:=pO HW hW (name:=aK 118 gen) (ps:=bC (eO 12) (vs.map cj.bytes)) (fl:=false) (by rw[ay,if_pos rfl];rfl);rw[iZ]at this;exact this)
 have HK1:Hid ((L1.map (·.1)).Nodup):=ae (by rw[Nf];exact ct h.keys);have HK2:Hid ((L2.map (·.1)).Nodup):=ae (by rw[hL2,Nf];exact ct (ct h.keys));have GK:Hid (need L1<=need L+4*es.length):=ae (by
  have h1:=cL L (aK 101 gen) (ax (aC false es) true);have h2:=cR (aC false es) true;have h3:=b8 false es;rw[Nf];omega)
 have UY:Hid (∀rs:List cj,rs.length<=vs.length->need (aS L2 (aK 118 gen) (b6 rs false))<=need L+20*es.length+4*vs.length):=ae (fun rs hrs=>by
  have h1:=cL L1 (aK 114 gen) (ax (aC true es) true);have h2:=cR (aC true es) true;have h3:=b8 true es;have h4:=cL L2 (aK 118 gen) (b6 rs false);have h5:=fY rs false;have h6:=GK.out;rw[<- hL2]at h1;omega)
 have DF:Hid (∀x,¬Fo gen x->aB L1 x=aB L x):=ae (fun x hx=>by rw[Nf,ay,if_neg (fun e=>hx (.inl e))]);have qo:Hid (∀x,¬Fo gen x->aB L2 x=aB L x):=ae (fun x hx=>by rw[hL2,ay,if_neg (fun e=>hx (.inr (.inl e))),DF.out x hx]);have aaM:Hid (fT L gen es vs=aS L2 (aK 118 gen) (b6 vs true)):=ae (by unfold fT;rw[hL2,Nf]);have s7:Hid (∀x,¬Fo gen x->¬il (aK 101 gen) x/\¬il (aK 114 gen) x/\x≠aK 118 gen):=ae (fun x hx=>⟨fun e=>hx (e.imp id (fun h=>.inr (.inr h))),fun e=>hx (.inr (e.imp id .inr)),fun e=>hx (.inr (.inr (.inl e)))⟩);have akb:Hid (∀x,aB L1 x=aB (aS L (aK 101 gen) (ax (aC false es) true)) x):=ae (fun x=>by rw[Nf]);have akc:Hid (∀x,aB L2 x=aB (aS L1 (aK 114 gen) (ax (aC true es) true)) x):=ae (fun x=>by rw[hL2]);have H:=ae h;have HVS:=ae hvs;have wN:=ae mG;obtain⟨va,vc,rfl,aqm,akd,-⟩:=hvs;unfold maxLen at akd;have hvw:Hid (∀(x:cj)W,Calls prog 78 #[.agg #[.int .u32 (x.r.toNat:Int),.int .u32 (x.l.toNat:Int),.int .u32 (x.g.toNat:Int)]] W (jk W x.bytes)):=ae (fun x W=>ER x W);clear h hg hL CQ hm he hr hv B7 mG aaI pJ Yr hr1 aeW hv2 Wm Nf hL2;unfold ptrTo at *;generalize aK 101 gen=nE at *;generalize aK 114 gen=nR at *;generalize aK 118 gen=nV at *;go_enter func45,ntmps45;go_wp2_with fail;refine(Lj.out _).mono ?_;rintro e w'⟨rfl,rfl⟩;go_wp2_with fail;refine(aaJ.out _ o Lk.out).mono ?_;rintro e w1⟨rfl,hb1⟩;have cO:=ae hb1;clear hb1;go_wp2_with fail;refine(hs1.out w1 o d (H.out.below cO.out)).mono ?_;rintro e w2⟨c2,d2,o2,L2',rfl,cT,aeX,hc2⟩;have eV:=ae ((Moved.aV H.out cO.out).trans cT (fun _ _ h=>h));have OX:=ae aeX;clear cT aeX;rcases hc2 with⟨rfl,hl2⟩| qp
 ·have Ky:Hid (Moved (fun _=>False) n pb db w o d w2 o2 d2 L1):=ae (eV.out.congr HK1.out (fun x=>(akb.out x).trans (hl2 x).symm));clear hl2 eV OX;go_wp2_with fail;refine(aaK.out _ o2 (Lk.out.moved Ky.out (fun _ h=>h))).mono ?_;rintro e w3⟨rfl,hb3⟩;have eH:=ae (Ky.out.below hb3);clear hb3;go_wp2_with fail;refine(hs2.out w3 o2 d2 eH.out.aY).mono ?_;rintro e w4⟨c4,d4,o4,L4',rfl,eX,CO,iz⟩;have gC:=ae (eH.out.trans eX (fun _ _ h=>h));have OY:=ae CO;clear eX CO;rcases iz with⟨rfl,hl4⟩| yX
  ·have aeY:Hid (Moved (fun _=>False) n pb db w o d w4 o4 d4 L2):=ae (gC.out.congr HK2.out (fun x=>(akc.out x).trans (hl4 x).symm));clear hl4 gC OY;go_wp2_with fail;refine(aaL.out _ o4 (Lk.out.moved aeY.out (fun _ h=>h))).mono ?_;rintro e w5⟨rfl,pj⟩;have lL:=ae (aeY.out.below pj);clear pj;have hcc:=ae (qj.out w5 o4 d4 lL.out.aY);unfold fO at hcc;rw[oN.out d4]at hcc;cases P3:d4.tick.dead with
   |true=>
     rw[P3,if_pos rfl]at hcc;have QL:=ae P3;clear P3;go_wp2_with fail;refine hcc.out.mono ?_;rintro e w6⟨d6,o6,rfl,oA,-,hdd⟩;rw[if_neg ag]at oA;have yF:=ae (lL.out.trans oA (fun _ _ h=>h));have vH:=ae (hdd (by first | exact QL.out | trivial));clear oA hdd hcc;go_wp2;go_ret;exact⟨6,d6,o6,L2,rfl,yF.out,qo.out,.inr (.inr ⟨rfl,vH.out⟩)⟩
   |false=>
     rw[P3,if_neg ai]at hcc;clear P3;go_wp2_with fail;refine hcc.out.mono ?_;rintro e w6⟨d6,o6,rfl,oA,aeZ,-⟩;simp only[if_true]at oA;have ik:aB (aS L2 nV (.inl (([]:List Pg),true))) nV=some (.inl (([]:List Pg),true)):=by rw[ay,if_pos rfl]
     have Ko:cN d6 nV=0:=by
      rw[gX oA.aY ik,aeZ (by trivial)];rfl
     have SD:Moved (fun _=>False) n pb db w5 o4 d4 w6 o6 d6 (aS L2 nV (b6 [] false)):=
      ⟨(oA.aY.weaken ik).congr (ct HK2.out) (fun x=>by
        show aB (aS L2 nV (.inl (([]:List Pg),false))) x=_;rw[ay,ay,ay];by_cases e:x=nV
        ·rw[if_pos e,if_pos e]
        ·rw[if_neg e,if_neg e,if_neg e]),oA.turn,oA.grow,oA.on⟩
     have yF:=ae (lL.out.trans SD (fun _ _ h=>h));have hco:=ae (p9.out w6 o6 d6 _ oA.aY);rw[Ko]at hco;have HF6:=ae (fun x(hx:w6.heap.size<=x)=>oA.aY.fresh hx);clear oA SD aeZ Ko ik hcc;go_wp2_with fail;refine hco.out.mono ?_;rintro e w7⟨v7,rfl,MS,O0,-⟩;obtain⟨sb,rfl,SV,CB⟩:=O0 rfl;have BZ:=ae (yF.out.below MS);have SG:=ae SV;have aaN:Hid (o6 sb=none):=ae (HF6.out _ CB);clear MS SV O0 hco;unfold ptrTo;generalize hV:vs.length=V at *;have HV:=ae hV;clear hV;go_wp2;go_loopw [60] (fun i wr=>∃(k:Nat)(d':Dsk)(o':au),k<=V/\i=.int .i64 (k:Int)/\Moved (fun _=>False) n pb db w o d wr o' d' (aS L2 nV (b6 (vs.take k) false))/\aF wr sb pb nV 12/\o' sb=none) (fun i _=>V-(intOf i).toNat)
     case atStart=>exact⟨0,d6,o6,Nat.zero_le _,rfl,by simpa using BZ.out,SG.out,aaN.out⟩
     case round=>
      obtain⟨k,d8,o8,hk,rfl,Nc,Wn,aaO⟩:=hrel;have sf:=ae Nc;have ake:=ae Wn;have aaP:=ae aaO;have aqp:=Wn.lt;by_cases hlt:k<V
      ·have hkv:k<vs.length:=by rw[HV.out];exact hlt
       obtain⟨a',c',Cz,-,-,hcs⟩:=HVS.out;cases Cz;obtain hcs |⟨b,off,rfl,hcs⟩:=hcs
       ·omega
       obtain⟨g0,g1,g2⟩:=hcs k hkv;have e0:=Nc.cell g0 (wN.out b rfl) (fun h=>h);have e1:=Nc.cell g1 (wN.out b rfl) (fun h=>h);have e2:=Nc.cell g2 (wN.out b rfl) (fun h=>h);have hbl:b<wr.heap.size:=World.block_lt_of_cell? _ _ e0;have qT:Hid (vs.take k++[vs[k]]=vs.take (k+1)):=ae (by rw[List.take_succ_eq_append_getElem hkv]);have zo:(vs.take k).length<65535:=by rw[List.length_take,HV.out];omega
       have SX:=ae (fun W=>hvw.out vs[k] W);have SY:=ae (fun W rv(hW:aR W pb db n o8 d8 (aS L2 nV (b6 (vs.take k) false)))(hst:aF W sb pb nV 12)(hr:Rd W rv vs[k].bytes)(hro:∀b,rv.ownBlock=some b->o8 b=none)=>lq.out W o8 d8 sb (vs.take k) hW hst aaP.out zo rv vs[k] hr hro);have pZ:Hid (∀ob:Obj,Moved (fun _=>False) n pb db w o d (wr.alloc ob) o8 d8 (aS L2 nV (b6 (vs.take k) false))):=ae (fun ob=>sf.out.alloc ob);have akf:Hid ((vs.take k).length<=vs.length):=ae (by rw[List.length_take];omega);clear g0 g1 g2 hcs Nc Wn aaO;generalize vs[k]=y at *;go_wp2_with fail;refine(SX.out _).mono ?_;rintro e w9⟨v9,rfl,ho9,O4⟩;have Nk:=ae ((pZ.out _).below O4);have aaQ:aF w9 sb pb nV 12:=(ake.out.below aj).below O4;have ae0:∀b,v9.ownBlock=some b->o8 b=none:=fun b hb=>sf.out.aY.fresh (Nat.le_trans ai (aI ho9 b hb));have U6:=ae (SY.out w9 v9 Nk.out.aY aaQ (fH ho9) ae0);have ae1:=ae aaQ;clear ho9 O4 aaQ ae0 e0 e1 e2 SY SX;go_wp2_with fail;refine U6.out.mono ?_;rintro e Wo⟨c10,d10,o10,rfl,A4,aaR⟩;have ae2:Hid (aF Wo sb pb nV 12):=ae (ae1.out.moved A4 aaP.out (fun h=>h));have ae3:Hid (o10 sb=none):=ae (A4.free ae1.out.lt aaP.out);by_cases hc:c10=0
       ·subst hc;rw[if_pos rfl,qT.out]at A4;have SZ:=ae (Nk.out.trans A4 (fun _ _ h=>h));clear A4 aaR U6;go_wp2;go_roundw
        case rel=>exact⟨k+1,d10,o10,af,by go_num,SZ.out,ae2.out,ae3.out⟩
        case measure=>simp[intOf];omega
       ·have hc':¬(c10:Int)=0:=by omega
        rw[if_neg hc]at A4;have SZ:=ae (Nk.out.trans A4 (fun _ _ h=>h));have akh:Hid (jL d d10 (need L+20*es.length+4*vs.length) c10):=ae (((aaR.resolve_left hc).num (UY.out (vs.take k) akf.out)).later Nk.out.on.bO);clear A4 aaR U6 hc;go_wp2;go_ret;exact⟨c10,d10,o10,_,rfl,SZ.out,fun x hx=>by rw[ay,if_neg (s7.out x hx).2.2,qo.out x hx],.inr akh.out⟩
      ·have htk:vs.take k=vs:=List.take_of_length_le (by rw[HV.out];omega);rw[htk]at sf;have Ha:=ae (MU.out wr o8 d8 sf.out.aY);clear htk Nc Wn aaO;go_wp2_with fail;refine Ha.out.mono ?_;rintro e w9⟨c9,d9,o9,rfl,XR,he9⟩;have Nk:=ae (sf.out.trans XR (fun _ _ h=>h));have HE9:=ae he9;clear XR he9 Ha;go_wp2;go_ret;refine⟨c9,d9,o9,_,rfl,Nk.out,fun x hx=>?_,?_⟩
       ·split
        ·rw[ay,if_neg (s7.out x hx).2.2,qo.out x hx]
        ·rw[ay,if_neg (s7.out x hx).2.2,qo.out x hx]
       ·rcases HE9.out with h | h
        ·subst h;exact .inl ⟨rfl,by rw[if_pos rfl];exact aaM.out.symm⟩
        ·exact .inr (by rw[HV.out];exact(h.num (UY.out vs (by rw[HV.out];exact Nat.le_refl _))).later sf.out.on.bO)
  ·have uA:¬(c4:Int)=0:=by have:=yX.ne;omega
   have Cs:Hid (jL d d4 (need L+20*es.length+4*vs.length) c4):=ae ((yX.mono (by have:=GK.out;omega)).later eH.out.on.bO);clear yX;go_wp2;go_ret;exact⟨c4,d4,o4,L4',rfl,gC.out,fun x hx=>(OY.out x (s7.out x hx).2.1).trans (DF.out x hx),.inr Cs.out⟩
 ·have KR:¬(c2:Int)=0:=by have:=qp.ne;omega
  have Hs:Hid (jL d d2 (need L+20*es.length+4*vs.length) c2):=ae (qp.mono af);clear qp;go_wp2;go_ret;exact⟨c2,d2,o2,L2',rfl,eV.out,fun x hx=>OX.out x (s7.out x hx).1,.inr Hs.out⟩
end
end
section
open Go.RowKit Go.Maps Go.MapKept
def bW(w:World)(gb:Nat)(x0 x1 x2 x3:Value):Prop:=∃t,w.heap[gb]? = some (.cells #[x0,x1,x2,x3] t)
section
variable {S:Nat->Prop} {w w':World} {pb db n gb:Nat} {name:Name} {o o':au} {d d':Dsk} {L L':aH} {x0 x1 x2 x3:Value}
theorem bW.kept(h:bW w gb x0 x1 x2 x3)(hb:w'.heap[gb]? = w.heap[gb]?):bW w' gb x0 x1 x2 x3:=by
 obtain⟨t,h⟩:=h;exact⟨t,hb.trans h⟩
theorem bW.lt(h:bW w gb x0 x1 x2 x3):gb<w.heap.size:=by
 obtain⟨t,h⟩:=h;exact(Array.getElem?_eq_some_iff.1 h).1
theorem bW.below(h:bW w gb x0 x1 x2 x3)(hb:Below w.heap.size w w'):bW w' gb x0 x1 x2 x3:=h.kept (hb.block _ h.lt)
theorem bW.moved(h:bW w gb x0 x1 x2 x3)(hm:Moved S n pb db w o d w' o' d' L')(ho:o gb=none)(hs:¬S gb):bW w' gb x0 x1 x2 x3:=h.kept (hm.block h.lt ho hs)
theorem bW.cells(h:bW w gb x0 x1 x2 x3):w.cell? ⟨gb,0,none⟩=some x0/\w.cell? ⟨gb,1,none⟩=some x1/\w.cell? ⟨gb,2,none⟩=some x2/\w.cell? ⟨gb,3,none⟩=some x3/\∀j,w.frozen? ⟨gb,j,none⟩=false:=by
 obtain⟨t,h⟩:=h;refine⟨?_,?_,?_,?_,fun j=>aO h j⟩<;>rw[ar h]<;>rfl
theorem bW.aki(h:bW w gb x0 x1 x2 x3)(v:Value):bW (w.setCell ⟨gb,0,none⟩ v) gb v x1 x2 x3:=by
 obtain⟨t,h⟩:=h;exact⟨t,aT h 0 v⟩
theorem bW.akj(h:bW w gb x0 x1 x2 x3)(v:Value):bW (w.setCell ⟨gb,1,none⟩ v) gb x0 v x2 x3:=by
 obtain⟨t,h⟩:=h;exact⟨t,aT h 1 v⟩
theorem bW.akk(h:bW w gb x0 x1 x2 x3)(v:Value):bW (w.setCell ⟨gb,2,none⟩ v) gb x0 x1 v x3:=by
 obtain⟨t,h⟩:=h;exact⟨t,aT h 2 v⟩
theorem bW.akl(h:bW w gb x0 x1 x2 x3)(v:Value):bW (w.setCell ⟨gb,3,none⟩ v) gb x0 x1 x2 v:=by
 obtain⟨t,h⟩:=h;exact⟨t,aT h 3 v⟩
structure dH(w:World)(o:au)(gb pb gen N:Nat)(ob ib vb:Nat):Prop where
 raw:bW w gb (ptrTo ob) (ptrTo ib) (ptrTo vb) (.int .i64 (N:Int))
 out:aF w ob pb (aK 101 gen) 20
 rV:aF w ib pb (aK 114 gen) 20
 sH:aF w vb pb (aK 118 gen) 12
 Ys:o gb=none
 S0:o ob=none
 Wp:o ib=none
 Ll:o vb=none
theorem dH.moved{gen N ob ib vb:Nat}(h:dH w o gb pb gen N ob ib vb)(hm:Moved (fun _=>False) n pb db w o d w' o' d' L'):dH w' o' gb pb gen N ob ib vb:=
 ⟨h.raw.moved hm h.Ys (fun h=>h),h.out.moved hm h.S0 (fun h=>h),h.rV.moved hm h.Wp (fun h=>h),h.sH.moved hm h.Ll (fun h=>h),hm.free h.raw.lt h.Ys,hm.free h.out.lt h.S0,hm.free h.rV.lt h.Wp,hm.free h.sH.lt h.Ll⟩
theorem aF.mz{sb sz b j:Nat}{v:Value}(h:aF w sb pb name sz)(hne:sb≠b):aF (w.setCell ⟨b,j,none⟩ v) sb pb name sz:=h.kept (Below.heap_setCell _ _ _ _ hne)
def sI(n pb db:Nat)(w:World)(o:au)(d:Dsk)(L:aH)(gen N:Nat)(e:Ending)(w':World):Prop:=
 ∃v c d' o',e=.returned (.tuple #[v,.int .i64 ((c:Nat):Int)])/\Moved (fun _=>False) n pb db w o d w' o' d' L/\(c=0\/lK d d' L c)/\(c=0->∃gb ob ib vb,v=ptrTo gb/\dH w' o' gb pb gen N ob ib vb)/\(c≠0->v=.pointer none)
theorem tu(h:aR w pb db n o d L){ps:List Pg}{fl:Bool}(hL:aB L name=some (.inl (ps,fl))){c:Nat}(hc:cN d name=c)(h0:c≠0):c=6/\d.dead=true:=by
 rw[gX h hL]at hc;split at hc
 ·exact⟨hc.symm,by assumption⟩
 ·exact absurd hc.symm h0
theorem sJ(HW:aP)(h:aR w pb db n o d L){gen:Nat}(hg:jP w o gen){vs:List cj}{es1 Qq:List aD}{fl0 fl1 fl2:Bool}(hv:aB L (aK 118 gen)=some (b6 vs fl0))(he:aB L (aK 101 gen)=some (ax es1 fl1))(hr:aB L (aK 114 gen)=some (ax Qq fl2)) :
 Calls prog 34 #[ptrTo pb,.int .i64 (gen:Int)] w (sI n pb db w o d L gen vs.length):=by
 have Lj:=ae (qW gen hg.le);have aaJ:=ae (fun W o'(hW:jP W o' gen)=>dS 101 gen hW);have aaK:=ae (fun W o'(hW:jP W o' gen)=>dS 114 gen hW);have aaL:=ae (fun W o'(hW:jP W o' gen)=>dS 118 gen hW);have hoV:Hid (∀W o' d',aR W pb db n o' d' L->Calls prog 67 #[ptrTo pb,.string (aK 118 gen),.int .i64 12] W (dW W pb (aK 118 gen) 12 (cN d' (aK 118 gen)))/\∀c,cN d' (aK 118 gen)=c->c≠0->c=6/\d'.dead=true):=ae (fun W o' d' hW=>⟨dX (sz:=12) hW _ (cg (h.ok hv)) ag ag,fun c h1 h2=>tu hW hv h1 h2⟩);have hoE:Hid (∀W o' d',aR W pb db n o' d' L->Calls prog 67 #[ptrTo pb,.string (aK 101 gen),.int .i64 20] W (dW W pb (aK 101 gen) 20 (cN d' (aK 101 gen)))/\∀c,cN d' (aK 101 gen)=c->c≠0->c=6/\d'.dead=true):=ae (fun W o' d' hW=>⟨dX (sz:=20) hW _ (cg (h.ok he)) ag ag,fun c h1 h2=>tu hW he h1 h2⟩);have hoR:Hid (∀W o' d',aR W pb db n o' d' L->Calls prog 67 #[ptrTo pb,.string (aK 114 gen),.int .i64 20] W (dW W pb (aK 114 gen) 20 (cN d' (aK 114 gen)))/\∀c,cN d' (aK 114 gen)=c->c≠0->c=6/\d'.dead=true):=ae (fun W o' d' hW=>⟨dX (sz:=20) hW _ (cg (h.ok hr)) ag ag,fun c h1 h2=>tu hW hr h1 h2⟩);have hlen:Hid (∀W o' d' sb,aR W pb db n o' d' L->aF W sb pb (aK 118 gen) 12->o' sb=none->Calls prog 59 #[ptrTo sb] W (Dz n pb db W o' d' L (DA vs.length))):=ae (fun W o' d' sb hW hst jM=>by
  have:=kr HW hW hst jM ag ag hv (qX vs);rw[List.length_map]at this;exact this)
 have H:=ae h;have Lk:=ae hg;clear h hg hv he hr;unfold ptrTo at *;generalize vs.length=N at *;go_enter func34,ntmps34;go_wp2_with fail;refine(Lj.out _).mono ?_;rintro e w'⟨rfl,rfl⟩;have HG0:Hid (bW (w.alloc (.cells #[.pointer none,.pointer none,.pointer none,.int .i64 0] 121)) w.heap.size (.pointer none) (.pointer none) (.pointer none) (.int .i64 0)):=ae ⟨_,heap_alloc_new w _⟩;have kR:Hid (Below w.heap.size w (w.alloc (.cells #[.pointer none,.pointer none,.pointer none,.int .i64 0] 121))):=ae aj;have HOG:Hid (o w.heap.size=none):=ae (H.out.fresh (Nat.le_refl _));go_wp2_with fail;generalize w.alloc (.cells #[.pointer none,.pointer none,.pointer none,.int .i64 0] 121)=W0 at *;refine(aaL.out _ o (Lk.out.below kR.out)).mono ?_;rintro e w1⟨rfl,hb1⟩;have JT:=ae (HG0.out.below hb1);have cO:Hid (Below w.heap.size w w1):=ae (kR.out.trans (hb1.mono kR.out.size));clear hb1;go_wp2_with fail;obtain⟨hcV,hbV⟩:=hoV.out w1 o d (H.out.below cO.out);have HCV:=ae hcV;have HBV:=ae hbV;clear hcV hbV;generalize ko:cN d (aK 118 gen)=c2 at *;have p8:=ae ko;clear ko;refine HCV.out.mono ?_;rintro e w2⟨v2,rfl,hb2,jw,S1⟩;have uu:=ae (JT.out.below hb2);have cY:Hid (Below w.heap.size w w2):=ae (cO.out.trans (hb2.mono cO.out.size));have ail:w.heap.size<w1.heap.size:=JT.out.lt;have Ky:Hid (∀v,Moved (fun _=>False) n pb db w o d (w2.setCell ⟨w.heap.size,2,none⟩ v) o d L):=ae (fun v=>(Moved.aV H.out cY.out).setCell _ _ HOG.out (.inr (Nat.le_refl _)));clear hb2;obtain⟨g0,g1,g2,g3,gz⟩:=uu.out.cells;have gz2:=gz 2;clear gz;by_cases hc2:c2=0
 ·subst hc2;obtain⟨vb,rfl,oO,hvb⟩:=jw rfl;have pJ:vb≠w.heap.size:=by omega
  have Ge:Hid (aF (w2.setCell ⟨w.heap.size,2,none⟩ (.pointer (some ⟨vb,0,none⟩))) vb pb (aK 118 gen) 12):=ae (oO.mz pJ);have HG3:Hid (bW (w2.setCell ⟨w.heap.size,2,none⟩ (.pointer (some ⟨vb,0,none⟩))) w.heap.size (.pointer none) (.pointer none) (.pointer (some ⟨vb,0,none⟩)) (.int .i64 0)):=ae (uu.out.akk _);have eH:=ae (Ky.out (.pointer (some ⟨vb,0,none⟩)));have HOV:Hid (o vb=none):=ae (H.out.fresh af);clear jw S1 oO;unfold ptrTo;go_wp2_with fail;generalize w2.setCell ⟨w.heap.size,2,none⟩ (.pointer (some ⟨vb,0,none⟩))=w3 at *;have x9:=ae (hlen.out w3 o d vb eH.out.aY Ge.out HOV.out);refine x9.out.mono ?_;rintro e w4⟨c4,d4,o4,⟨x4,rfl,Yt⟩,eX,yX⟩;have Gi:=ae Yt;have Cs:=ae yX;have gC:=ae (eH.out.trans eX (fun _ _ h=>h));have yo:=ae (HG3.out.moved eX HOG.out (fun h=>h));have KD:=ae (Ge.out.moved eX HOV.out (fun h=>h));have Ws:Hid (o4 w.heap.size=none):=ae (eX.free HG3.out.lt HOG.out);have Wt:Hid (o4 vb=none):=ae (eX.free Ge.out.lt HOV.out);clear eX yX Yt x9 g0 g1 g2 g3 gz2;obtain⟨g0,g1,g2,g3,gz⟩:=yo.out.cells;have gz3:=gz 3;clear gz;have lL:Hid (Moved (fun _=>False) n pb db w o d (w4.setCell ⟨w.heap.size,3,none⟩ (.int .i64 (x4:Int))) o4 d4 L):=ae (gC.out.setCell _ _ Ws.out (.inr (Nat.le_refl _)));have HG5:Hid (bW (w4.setCell ⟨w.heap.size,3,none⟩ (.int .i64 (x4:Int))) w.heap.size (.pointer none) (.pointer none) (.pointer (some ⟨vb,0,none⟩)) (.int .i64 (x4:Int))):=ae (yo.out.akl _);have Oo:Hid (aF (w4.setCell ⟨w.heap.size,3,none⟩ (.int .i64 (x4:Int))) vb pb (aK 118 gen) 12):=ae (KD.out.mz pJ);by_cases iz:c4=0
  ·subst iz;have HX:=ae (Gi.out rfl);go_wp2_with fail;generalize w4.setCell ⟨w.heap.size,3,none⟩ (.int .i64 (x4:Int))=w5 at *;clear g0 g1 g2 g3 gz3;refine(aaJ.out _ o4 (Lk.out.moved lL.out (fun _ h=>h))).mono ?_;rintro e w6⟨rfl,Gg⟩;have yF:=ae (lL.out.below Gg);have HG6:=ae (HG5.out.below Gg);have HV6:=ae (Oo.out.below Gg);clear Gg;go_wp2_with fail;obtain⟨hcE,hbE⟩:=hoE.out w6 o4 d4 yF.out.aY;have HCE:=ae hcE;have R1:=ae hbE;clear hcE hbE;generalize hp7:cN d4 (aK 101 gen)=c7 at *;clear hp7;refine HCE.out.mono ?_;rintro e w7⟨v7,rfl,MS,O0,S2⟩;have BZ:=ae (yF.out.below MS);have HG7:=ae (HG6.out.below MS);have HV7:=ae (HV6.out.below MS);have U3:w.heap.size<w6.heap.size:=HG6.out.lt;clear MS;obtain⟨g0,g1,g2,g3,gz⟩:=HG7.out.cells;have gz0:=gz 0;clear gz;have ae5:Hid (∀v,Moved (fun _=>False) n pb db w o d (w7.setCell ⟨w.heap.size,0,none⟩ v) o4 d4 L):=ae (fun v=>BZ.out.setCell _ _ Ws.out (.inr (Nat.le_refl _)));by_cases N8:c7=0
   ·subst N8;obtain⟨ob,rfl,SV,CL⟩:=O0 rfl;have ae6:ob≠w.heap.size:=by omega
    have HO8:Hid (aF (w7.setCell ⟨w.heap.size,0,none⟩ (.pointer (some ⟨ob,0,none⟩))) ob pb (aK 101 gen) 20):=ae (SV.mz ae6);have Yk:Hid (aF (w7.setCell ⟨w.heap.size,0,none⟩ (.pointer (some ⟨ob,0,none⟩))) vb pb (aK 118 gen) 12):=ae (HV7.out.mz pJ);have HG8:Hid (bW (w7.setCell ⟨w.heap.size,0,none⟩ (.pointer (some ⟨ob,0,none⟩))) w.heap.size (.pointer (some ⟨ob,0,none⟩)) (.pointer none) (.pointer (some ⟨vb,0,none⟩)) (.int .i64 (x4:Int))):=ae (HG7.out.aki _);have sf:=ae (ae5.out (.pointer (some ⟨ob,0,none⟩)));have Wa:Hid (o4 ob=none):=ae (yF.out.aY.fresh CL);clear O0 S2 SV;unfold ptrTo;go_wp2_with fail;generalize w7.setCell ⟨w.heap.size,0,none⟩ (.pointer (some ⟨ob,0,none⟩))=w8 at *;clear g0 g1 g2 g3 gz0;refine(aaK.out _ o4 (Lk.out.moved sf.out (fun _ h=>h))).mono ?_;rintro e w9⟨rfl,O4⟩;have Nk:=ae (sf.out.below O4);have HG9:=ae (HG8.out.below O4);have HV9:=ae (Yk.out.below O4);have HO9:=ae (HO8.out.below O4);clear O4;go_wp2_with fail;obtain⟨hcR,hbR⟩:=hoR.out w9 o4 d4 Nk.out.aY;have HCR:=ae hcR;have HBR:=ae hbR;clear hcR hbR;generalize akq:cN d4 (aK 114 gen)=c10 at *;clear akq;refine HCR.out.mono ?_;rintro e Wo⟨v10,rfl,S3,S4,Lm⟩;have SZ:=ae (Nk.out.below S3);have ae7:=ae (HG9.out.below S3);have akr:=ae (HV9.out.below S3);have aks:=ae (HO9.out.below S3);have hs9:w.heap.size<w9.heap.size:=HG9.out.lt;clear S3;obtain⟨g0,g1,g2,g3,gz⟩:=ae7.out.cells;have gz1:=gz 1;clear gz;have Yu:Hid (∀v,Moved (fun _=>False) n pb db w o d (Wo.setCell ⟨w.heap.size,1,none⟩ v) o4 d4 L):=ae (fun v=>SZ.out.setCell _ _ Ws.out (.inr (Nat.le_refl _)));by_cases Wu:c10=0
    ·subst Wu;obtain⟨ib,rfl,Yv,hib⟩:=S4 rfl;have ae8:ib≠w.heap.size:=by omega
     have ae9:=ae (Yv.mz (j:=1) (v:=.pointer (some ⟨ib,0,none⟩)) ae8);have HOI:Hid (o4 ib=none):=ae (Nk.out.aY.fresh hib);clear S4 Lm Yv;unfold ptrTo;go_wp2;go_ret2;refine⟨_,0,d4,o4,rfl,Yu.out _,.inl rfl,fun _=>⟨w.heap.size,ob,ib,vb,rfl,⟨?_,aks.out.mz ae6,ae9.out,akr.out.mz pJ,Ws.out,Wa.out,HOI.out,Wt.out⟩⟩,fun h=>absurd rfl h⟩;rw[<- HX.out];exact ae7.out.akj _
    ·obtain rfl:=Lm Wu;obtain⟨h6,hdd⟩:=HBR.out c10 rfl Wu;have vH:=ae hdd;subst h6;clear S4 Lm Wu hdd;go_wp2;go_ret2;exact⟨_,6,d4,o4,rfl,Yu.out _,.inr (.inr ⟨rfl,vH.out⟩),fun h=>absurd h ag,fun _=>rfl⟩
   ·obtain rfl:=S2 N8;obtain⟨h6,hdd⟩:=R1.out c7 rfl N8;have vH:=ae hdd;subst h6;clear O0 S2 N8 hdd;go_wp2;go_ret2;exact⟨_,6,d4,o4,rfl,ae5.out _,.inr (.inr ⟨rfl,vH.out⟩),fun h=>absurd h ag,fun _=>rfl⟩
  ·have uA:¬(c4:Int)=0:=by omega
   have Rx:Hid (lK d d4 L c4):=ae (Cs.out.resolve_left iz);have BV:=ae iz;clear iz;go_wp2;go_ret2;exact⟨_,c4,d4,o4,rfl,lL.out,.inr Rx.out,fun h=>absurd h BV.out,fun _=>rfl⟩
 ·obtain rfl:=S1 hc2;obtain⟨h6,hdd⟩:=HBV.out c2 rfl hc2;have vH:=ae hdd;subst h6;clear jw S1 hc2 hdd;go_wp2;go_ret2;exact⟨_,6,d,o,rfl,Ky.out _,.inr (.inr ⟨rfl,vH.out⟩),fun h=>absurd h ag,fun _=>rfl⟩
end
end
section
open Go.RowKit Go.Maps Go.MapKept
section
variable {w w':World} {pb db n gb gen N ob ib vb:Nat} {name:Name} {o o':au} {d d':Dsk} {L L':aH}
theorem CR(hg:dH w o gb pb gen N ob ib vb):Calls prog 20 #[ptrTo gb] w fun e w'=>e=.returned (.int .i64 (N:Int))/\w=w':=by
 obtain⟨-,-,-,g3,-⟩:=hg.raw.cells;clear hg;unfold ptrTo;go_enter func20,ntmps20;go_wp2;go_ret;exact⟨rfl,rfl⟩
def xw(x:cj):Value:=.agg #[.int .u32 (x.r.toNat:Int),.int .u32 (x.l.toNat:Int),.int .u32 (x.g.toNat:Int)]
def aku:cj:=⟨0,0,0⟩
def S5(n pb db:Nat)(w:World)(o:au)(d:Dsk)(L:aH)(x:cj)(e:Ending)(w':World):Prop:=
 ∃c d' o',e=.returned (.tuple #[xw (if c=0 then x else aku),.int .i64 ((c:Nat):Int)])/\Moved (fun _=>False) n pb db w o d w' o' d' L/\(c=0\/lK d d' L c)
theorem Fp(HW:aP)(h:aR w pb db n o d L)(hg:dH w o gb pb gen N ob ib vb){vs:List cj}{fl:Bool}(hL:aB L (aK 118 gen)=some (b6 vs fl))(hN:N=vs.length)(v:Nat)(hv:v<vs.length)(hv':v<4294967296) :
 Calls prog 23 #[ptrTo gb,.int .u32 (v:Int)] w (S5 n pb db w o d L vs[v]):=by
 have ik:Hid (∀W,Below w.heap.size w W->Calls prog 57 #[ptrTo vb,.int .i64 (v:Int)] W (EP n pb db W o d L vs[v].bytes)):=ae (fun W hW=>by
  have:=ly HW (h.below hW) (hg.sH.below hW) hg.Ll ag ag hL (qX vs) (i:=v) (by rw[List.length_map];exact hv);rw[List.getElem_map]at this;exact this)
 obtain⟨-,-,g2,g3,-⟩:=hg.raw.cells;have hgl:=hg.raw.lt;have H:=ae h;have hlt:¬((v:Int) >= (N:Int)):=by omega
 generalize vs[v]=x at *;clear h hg hL hN hv;unfold ptrTo at *;have kR:Hid (Below w.heap.size w (w.alloc (.cells #[.int .u32 0,.int .u32 0,.int .u32 0] 55))):=ae aj;have mM:Hid ((w.alloc (.cells #[.int .u32 0,.int .u32 0,.int .u32 0] 55)).heap[w.heap.size]? = some (.cells #[.int .u32 0,.int .u32 0,.int .u32 0] 55)):=ae (heap_alloc_new w _);have J3:Hid (o w.heap.size=none):=ae (H.out.fresh (Nat.le_refl _));go_enter func23,ntmps23;go_wp2_with fail;generalize w.alloc (.cells #[.int .u32 0,.int .u32 0,.int .u32 0] 55)=W0 at *;refine(ik.out W0 kR.out).mono ?_;rintro e w1⟨v1,c1,d1,o1,rfl,ej,tM,uE,A5⟩;have hbl:w.heap.size<W0.heap.size:=(Array.getElem?_eq_some_iff.1 mM.out).1;have e9:=ae ((Moved.aV H.out kR.out).trans ej (fun _ _ h=>h));have kQ:=ae (ej.heap mM.out J3.out (fun h=>h));have Dx:=ae tM;have oT:Hid (o1 w.heap.size=none):=ae (ej.free hbl J3.out);clear ej tM;by_cases hc1:c1=0
 ·subst hc1;obtain⟨lp,sY⟩:=uE rfl;obtain⟨a1,k1,rfl⟩:=aA lp;have nN:=ae (fH lp);clear uE A5 lp sY;go_wp2_with fail;refine(Hw _ x _ nN.out).mono ?_;rintro e w2⟨rfl,hb2⟩;have eV:=ae (e9.out.below hb2);have hx2:w2.heap[w.heap.size]? = some (.cells #[.int .u32 0,.int .u32 0,.int .u32 0] 55):=by rw[hb2.block _ (Array.getElem?_eq_some_iff.1 kQ.out).1];exact kQ.out
  have k0:w2.cell? ⟨w.heap.size,0,none⟩=some (.int .u32 0):=by rw[ar hx2];rfl
  have Wv:w2.cell? ⟨w.heap.size,1,none⟩=some (.int .u32 0):=by rw[ar hx2];rfl
  have Ww:w2.cell? ⟨w.heap.size,2,none⟩=some (.int .u32 0):=by rw[ar hx2];rfl
  have z0:=aO hx2 0;have z1:=aO hx2 1;have z2:=aO hx2 2;have aqL:w.heap.size<w2.heap.size:=(Array.getElem?_eq_some_iff.1 hx2).1;have hx3:(((w2.setCell ⟨w.heap.size,0,none⟩ (.int .u32 (x.r.toNat:Int))).setCell ⟨w.heap.size,1,none⟩ (.int .u32 (x.l.toNat:Int))).setCell ⟨w.heap.size,2,none⟩ (.int .u32 (x.g.toNat:Int))).heap[w.heap.size]? = some (.cells #[.int .u32 (x.r.toNat:Int),.int .u32 (x.l.toNat:Int),.int .u32 (x.g.toNat:Int)] 55):=aT (aT (aT hx2 0 _) 1 _) 2 _;have eH:Hid (Moved (fun _=>False) n pb db w o d (((w2.setCell ⟨w.heap.size,0,none⟩ (.int .u32 (x.r.toNat:Int))).setCell ⟨w.heap.size,1,none⟩ (.int .u32 (x.l.toNat:Int))).setCell ⟨w.heap.size,2,none⟩ (.int .u32 (x.g.toNat:Int))) o1 d1 L):=ae (((eV.out.setCell ⟨w.heap.size,0,none⟩ _ oT.out (.inr (Nat.le_refl _))).setCell ⟨w.heap.size,1,none⟩ _ oT.out (.inr (Nat.le_refl _))).setCell ⟨w.heap.size,2,none⟩ _ oT.out (.inr (Nat.le_refl _)));have iD:=ae hx3;clear hb2 hx2 hx3;go_wp2;generalize (((w2.setCell ⟨w.heap.size,0,none⟩ (.int .u32 (x.r.toNat:Int))).setCell ⟨w.heap.size,1,none⟩ (.int .u32 (x.l.toNat:Int))).setCell ⟨w.heap.size,2,none⟩ (.int .u32 (x.g.toNat:Int)))=w3 at *;have q0:w3.cell? ⟨w.heap.size,0,none⟩=some (.int .u32 (x.r.toNat:Int)):=by rw[ar iD.out];rfl
  have q1:w3.cell? ⟨w.heap.size,1,none⟩=some (.int .u32 (x.l.toNat:Int)):=by rw[ar iD.out];rfl
  have q2:w3.cell? ⟨w.heap.size,2,none⟩=some (.int .u32 (x.g.toNat:Int)):=by rw[ar iD.out];rfl
  clear k0 Wv Ww z0 z1 z2;exact bodyPost_ret (v:=.tuple #[.agg #[.int .u32 (x.r.toNat:Int),.int .u32 (x.l.toNat:Int),.int .u32 (x.g.toNat:Int)],.int .i64 0]) (by simp[results,Tryz.results23,go_sem,q0,q1,q2]) rfl ⟨0,d1,o1,rfl,eH.out,.inl rfl⟩
 ·obtain rfl:=A5 hc1;have zS:¬(c1:Int)=0:=by omega
  have RN:=ae hc1;have k0:w1.cell? ⟨w.heap.size,0,none⟩=some (.int .u32 0):=by rw[ar kQ.out];rfl
  have Wv:w1.cell? ⟨w.heap.size,1,none⟩=some (.int .u32 0):=by rw[ar kQ.out];rfl
  have Ww:w1.cell? ⟨w.heap.size,2,none⟩=some (.int .u32 0):=by rw[ar kQ.out];rfl
  have z0:=aO kQ.out 0;have z1:=aO kQ.out 1;have z2:=aO kQ.out 2;have akv:w.heap.size<w1.heap.size:=(Array.getElem?_eq_some_iff.1 kQ.out).1;have hx3:(((w1.setCell ⟨w.heap.size,0,none⟩ (.int .u32 0)).setCell ⟨w.heap.size,1,none⟩ (.int .u32 0)).setCell ⟨w.heap.size,2,none⟩ (.int .u32 0)).heap[w.heap.size]? = some (.cells #[.int .u32 0,.int .u32 0,.int .u32 0] 55):=aT (aT (aT kQ.out 0 _) 1 _) 2 _;have eH:Hid (Moved (fun _=>False) n pb db w o d (((w1.setCell ⟨w.heap.size,0,none⟩ (.int .u32 0)).setCell ⟨w.heap.size,1,none⟩ (.int .u32 0)).setCell ⟨w.heap.size,2,none⟩ (.int .u32 0)) o1 d1 L):=ae (((e9.out.setCell ⟨w.heap.size,0,none⟩ _ oT.out (.inr (Nat.le_refl _))).setCell ⟨w.heap.size,1,none⟩ _ oT.out (.inr (Nat.le_refl _))).setCell ⟨w.heap.size,2,none⟩ _ oT.out (.inr (Nat.le_refl _)));have iD:=ae hx3;clear uE A5 hc1 hx3;go_wp2;generalize (((w1.setCell ⟨w.heap.size,0,none⟩ (.int .u32 0)).setCell ⟨w.heap.size,1,none⟩ (.int .u32 0)).setCell ⟨w.heap.size,2,none⟩ (.int .u32 0))=w3 at *;have q0:w3.cell? ⟨w.heap.size,0,none⟩=some (.int .u32 0):=by rw[ar iD.out];rfl
  have q1:w3.cell? ⟨w.heap.size,1,none⟩=some (.int .u32 0):=by rw[ar iD.out];rfl
  have q2:w3.cell? ⟨w.heap.size,2,none⟩=some (.int .u32 0):=by rw[ar iD.out];rfl
  clear k0 Wv Ww z0 z1 z2;exact bodyPost_ret (v:=.tuple #[.agg #[.int .u32 0,.int .u32 0,.int .u32 0],.int .i64 (c1:Int)]) (by simp[results,Tryz.results23,go_sem,q0,q1,q2]) rfl ⟨c1,d1,o1,by rw[if_neg RN.out];rfl,eH.out,Dx.out⟩
end
end
section
open Go.RowKit Go.Maps Go.MapKept
section
variable {w w':World} {pb db n gb gen N sb:Nat} {name:Name} {o o':au} {d d':Dsk} {L L':aH}
def pS(E:Nat->Dsk->Prop)(n pb db:Nat)(w:World)(o:au)(d:Dsk)(L:aH)(x:aD)(e:Ending)(w':World):Prop:=
 ∃c d' o' y,e=.returned (.tuple #[.agg #[.int .u32 (y.t.toNat:Int),.int .u32 (y.h.toNat:Int),.int .u64 (y.x.toNat:Int),.int .u32 (y.m.toNat:Int)],.int .i64 ((c:Nat):Int)])/\Moved (fun _=>False) n pb db w o d w' o' d' L/\E c d'/\(c=0->y=x)/\(c≠0->y=AJ)
def DV(n pb db:Nat)(w:World)(o:au)(d:Dsk)(L:aH)(x:aD)(e:Ending)(w':World):Prop:=
 ∃c d' o' y,e=.returned (.tuple #[.agg #[.int .u32 (y.t.toNat:Int),.int .u32 (y.h.toNat:Int),.int .u64 (y.x.toNat:Int),.int .u32 (y.m.toNat:Int)],.int .i64 ((c:Nat):Int)])/\Moved (fun _=>False) n pb db w o d w' o' d' L/\(c=0\/lK d d' L c)/\(c=0->y=x)
def IC(E:Nat->Dsk->Prop)(n pb db:Nat)(w:World)(o:au)(d:Dsk)(L:aH)(r:Rec)(e:Ending)(w':World):Prop:=
 ∃v c d' o',e=.returned (.tuple #[v,.int .i64 ((c:Nat):Int)])/\Moved (fun _=>False) n pb db w o d w' o' d' L/\E c d' /\
  (c=0->w'.ownsRow w.heap.size 5 1 v r.length (r.map bv)/\∀x,v.ownBlock=some x->o' x=none)/\(c≠0->v=.slice none 0 0)
theorem sK(E:Nat->Dsk->Prop)(h:aR w pb db n o d L){i:Int}{x:aD}(IE:∀W,Below w.heap.size w W->Calls prog 57 #[ptrTo sb,.int .i64 i] W (IC E n pb db W o d L x.bytes)) :
 Calls prog 60 #[ptrTo sb,.int .i64 i] w (pS E n pb db w o d L x):=by
 have ik:=ae IE;have H:=ae h;clear h IE;unfold ptrTo at *;have kR:Hid (Below w.heap.size w (w.alloc (.cells #[.int .u32 0,.int .u32 0,.int .u64 0,.int .u32 0] 64))):=ae aj;have mM:Hid ((w.alloc (.cells #[.int .u32 0,.int .u32 0,.int .u64 0,.int .u32 0] 64)).heap[w.heap.size]? = some (.cells #[.int .u32 0,.int .u32 0,.int .u64 0,.int .u32 0] 64)):=ae (heap_alloc_new w _);have J3:Hid (o w.heap.size=none):=ae (H.out.fresh (Nat.le_refl _));go_enter func60,ntmps60;go_wp2_with fail;generalize w.alloc (.cells #[.int .u32 0,.int .u32 0,.int .u64 0,.int .u32 0] 64)=W0 at *;refine(ik.out W0 kR.out).mono ?_;rintro e w1⟨v1,c1,d1,o1,rfl,ej,tM,uE,A5⟩;have hbl:w.heap.size<W0.heap.size:=(Array.getElem?_eq_some_iff.1 mM.out).1;have e9:=ae ((Moved.aV H.out kR.out).trans ej (fun _ _ h=>h));have kQ:=ae (ej.heap mM.out J3.out (fun h=>h));have Dx:=ae tM;have oT:Hid (o1 w.heap.size=none):=ae (ej.free hbl J3.out);clear ej tM;have zH:Hid (∀(w2:World)(a b c e:Value),w2.heap[w.heap.size]? = some (.cells #[.int .u32 0,.int .u32 0,.int .u64 0,.int .u32 0] 64)->((((w2.setCell ⟨w.heap.size,0,none⟩ a).setCell ⟨w.heap.size,1,none⟩ b).setCell ⟨w.heap.size,2,none⟩ c).setCell ⟨w.heap.size,3,none⟩ e).heap[w.heap.size]? = some (.cells #[a,b,c,e] 64)):=ae (fun w2 a b c e hx=>aT (aT (aT (aT hx 0 _) 1 _) 2 _) 3 _);by_cases hc1:c1=0
 ·subst hc1;obtain⟨lp,sY⟩:=uE rfl;obtain⟨a1,k1,rfl⟩:=aA lp;have nN:=ae (fH lp);clear uE A5 lp sY;go_wp2_with fail;refine(yu _ x _ nN.out).mono ?_;rintro e w2⟨rfl,hb2⟩;have eV:=ae (e9.out.below hb2);have hx2:w2.heap[w.heap.size]? = some (.cells #[.int .u32 0,.int .u32 0,.int .u64 0,.int .u32 0] 64):=by grind [Below.block,Hid.out]
  have k0:w2.cell? ⟨w.heap.size,0,none⟩=some (.int .u32 0):=by rw[ar hx2];rfl
  have Wv:w2.cell? ⟨w.heap.size,1,none⟩=some (.int .u32 0):=by rw[ar hx2];rfl
  have Ww:w2.cell? ⟨w.heap.size,2,none⟩=some (.int .u64 0):=by rw[ar hx2];rfl
  have k3':w2.cell? ⟨w.heap.size,3,none⟩=some (.int .u32 0):=by rw[ar hx2];rfl
  have z0:=aO hx2 0;have z1:=aO hx2 1;have z2:=aO hx2 2;have z3:=aO hx2 3;have iD:=ae (zH.out w2 (.int .u32 (x.t.toNat:Int)) (.int .u32 (x.h.toNat:Int)) (.int .u64 (x.x.toNat:Int)) (.int .u32 (x.m.toNat:Int)) hx2);have eH:Hid (Moved (fun _=>False) n pb db w o d ((((w2.setCell ⟨w.heap.size,0,none⟩ (.int .u32 (x.t.toNat:Int))).setCell ⟨w.heap.size,1,none⟩ (.int .u32 (x.h.toNat:Int))).setCell ⟨w.heap.size,2,none⟩ (.int .u64 (x.x.toNat:Int))).setCell ⟨w.heap.size,3,none⟩ (.int .u32 (x.m.toNat:Int))) o1 d1 L):=ae ((((eV.out.setCell ⟨w.heap.size,0,none⟩ _ oT.out (.inr (Nat.le_refl _))).setCell ⟨w.heap.size,1,none⟩ _ oT.out (.inr (Nat.le_refl _))).setCell ⟨w.heap.size,2,none⟩ _ oT.out (.inr (Nat.le_refl _))).setCell ⟨w.heap.size,3,none⟩ _ oT.out (.inr (Nat.le_refl _)));clear hb2 hx2;go_wp2;generalize ((((w2.setCell ⟨w.heap.size,0,none⟩ (.int .u32 (x.t.toNat:Int))).setCell ⟨w.heap.size,1,none⟩ (.int .u32 (x.h.toNat:Int))).setCell ⟨w.heap.size,2,none⟩ (.int .u64 (x.x.toNat:Int))).setCell ⟨w.heap.size,3,none⟩ (.int .u32 (x.m.toNat:Int)))=w3 at *;have q0:w3.cell? ⟨w.heap.size,0,none⟩=some (.int .u32 (x.t.toNat:Int)):=by rw[ar iD.out];rfl
  have q1:w3.cell? ⟨w.heap.size,1,none⟩=some (.int .u32 (x.h.toNat:Int)):=by rw[ar iD.out];rfl
  have q2:w3.cell? ⟨w.heap.size,2,none⟩=some (.int .u64 (x.x.toNat:Int)):=by rw[ar iD.out];rfl
  have q3:w3.cell? ⟨w.heap.size,3,none⟩=some (.int .u32 (x.m.toNat:Int)):=by rw[ar iD.out];rfl
  clear k0 Wv Ww k3' z0 z1 z2 z3;exact bodyPost_ret (v:=.tuple #[.agg #[.int .u32 (x.t.toNat:Int),.int .u32 (x.h.toNat:Int),.int .u64 (x.x.toNat:Int),.int .u32 (x.m.toNat:Int)],.int .i64 0]) (by simp[results,Tryz.results60,go_sem,q0,q1,q2,q3]) rfl ⟨0,d1,o1,x,rfl,eH.out,Dx.out,fun _=>rfl,fun h=>absurd rfl h⟩
 ·obtain rfl:=A5 hc1;have zS:¬(c1:Int)=0:=by omega
  have RN:=ae hc1;have k0:w1.cell? ⟨w.heap.size,0,none⟩=some (.int .u32 0):=by rw[ar kQ.out];rfl
  have Wv:w1.cell? ⟨w.heap.size,1,none⟩=some (.int .u32 0):=by rw[ar kQ.out];rfl
  have Ww:w1.cell? ⟨w.heap.size,2,none⟩=some (.int .u64 0):=by rw[ar kQ.out];rfl
  have k3':w1.cell? ⟨w.heap.size,3,none⟩=some (.int .u32 0):=by rw[ar kQ.out];rfl
  have z0:=aO kQ.out 0;have z1:=aO kQ.out 1;have z2:=aO kQ.out 2;have z3:=aO kQ.out 3;have iD:=ae (zH.out w1 (.int .u32 0) (.int .u32 0) (.int .u64 0) (.int .u32 0) kQ.out);have eH:Hid (Moved (fun _=>False) n pb db w o d ((((w1.setCell ⟨w.heap.size,0,none⟩ (.int .u32 0)).setCell ⟨w.heap.size,1,none⟩ (.int .u32 0)).setCell ⟨w.heap.size,2,none⟩ (.int .u64 0)).setCell ⟨w.heap.size,3,none⟩ (.int .u32 0)) o1 d1 L):=ae ((((e9.out.setCell ⟨w.heap.size,0,none⟩ _ oT.out (.inr (Nat.le_refl _))).setCell ⟨w.heap.size,1,none⟩ _ oT.out (.inr (Nat.le_refl _))).setCell ⟨w.heap.size,2,none⟩ _ oT.out (.inr (Nat.le_refl _))).setCell ⟨w.heap.size,3,none⟩ _ oT.out (.inr (Nat.le_refl _)));clear uE A5 hc1;go_wp2;generalize ((((w1.setCell ⟨w.heap.size,0,none⟩ (.int .u32 0)).setCell ⟨w.heap.size,1,none⟩ (.int .u32 0)).setCell ⟨w.heap.size,2,none⟩ (.int .u64 0)).setCell ⟨w.heap.size,3,none⟩ (.int .u32 0))=w3 at *;have q0:w3.cell? ⟨w.heap.size,0,none⟩=some (.int .u32 0):=by rw[ar iD.out];rfl
  have q1:w3.cell? ⟨w.heap.size,1,none⟩=some (.int .u32 0):=by rw[ar iD.out];rfl
  have q2:w3.cell? ⟨w.heap.size,2,none⟩=some (.int .u64 0):=by rw[ar iD.out];rfl
  have q3:w3.cell? ⟨w.heap.size,3,none⟩=some (.int .u32 0):=by rw[ar iD.out];rfl
  clear k0 Wv Ww k3' z0 z1 z2 z3;exact bodyPost_ret (v:=.tuple #[.agg #[.int .u32 0,.int .u32 0,.int .u64 0,.int .u32 0],.int .i64 (c1:Int)]) (by simp[results,Tryz.results60,go_sem,q0,q1,q2,q3]) rfl ⟨c1,d1,o1,AJ,rfl,eH.out,Dx.out,fun h=>absurd h RN.out,fun _=>rfl⟩
theorem uX(HW:aP)(h:aR w pb db n o d L)(hst:aF w sb pb name 20)(ho:o sb=none){es:List aD}{fl:Bool}(hL:aB L name=some (ax es fl)){i:Nat}{x:aD}(hi:es[i]? = some x) :
 Calls prog 60 #[ptrTo sb,.int .i64 (i:Int)] w (DV n pb db w o d L x):=by
 have mU:=aN hi;refine(sK (fun c d'=>c=0\/lK d d' L c) h (x:=x) (fun W hW=>?_)).mono fun e w' ⟨c,d',o',y,h1,h2,h3,h4,_⟩=>⟨c,d',o',y,h1,h2,h3,h4⟩;have:=ly HW (h.below hW) (hst.below hW) ho ag ag hL (fw es) (i:=i) (by grind);rw[List.getElem_map]at this;rw[List.getElem?_eq_getElem mU]at hi;rw[Option.some.inj hi]at this;exact this
def qg(b:Bool):FuncId:=if b then 56 else 55
theorem Ln(x:aD)(w:World):Calls prog 55 #[.agg #[.int .u32 (x.t.toNat:Int),.int .u32 (x.h.toNat:Int),.int .u64 (x.x.toNat:Int),.int .u32 (x.m.toNat:Int)]] w fun e w'=>e=.returned (.int .u32 (x.t.toNat:Int))/\Below w.heap.size w w':=by
 go_enter func55,ntmps55;go_wp2;go_ret;exact⟨rfl,ak.alloc (Nat.le_refl _) _⟩
theorem O5(x:aD)(w:World):Calls prog 56 #[.agg #[.int .u32 (x.t.toNat:Int),.int .u32 (x.h.toNat:Int),.int .u64 (x.x.toNat:Int),.int .u32 (x.m.toNat:Int)]] w fun e w'=>e=.returned (.int .u32 (x.h.toNat:Int))/\Below w.heap.size w w':=by
 go_enter func56,ntmps56;go_wp2;go_ret;exact⟨rfl,ak.alloc (Nat.le_refl _) _⟩
theorem Nl(b:Bool)(x:aD)(w:World):Calls prog (qg b) #[.agg #[.int .u32 (x.t.toNat:Int),.int .u32 (x.h.toNat:Int),.int .u64 (x.x.toNat:Int),.int .u32 (x.m.toNat:Int)]] w fun e w'=>e=.returned (.int .u32 (gj b x:Int))/\Below w.heap.size w w':=by
 cases b
 ·exact Ln x w
 ·exact O5 x w
end
end
section
open Go.RowKit Go.Maps Go.MapKept
structure fy(w:World)(o:au)(xb kb fb vb sb:Nat)(b:Bool)(v bc:Nat):Prop where
 xs:∃t,w.heap[xb]? = some (.cells #[ptrTo sb] t)
 bad:∃t,w.heap[kb]? = some (.cells #[.int .i64 (bc:Int)] t)
 fn:∃t,w.heap[fb]? = some (.cells #[.func (.func (qg b)) #[] #[]] t)
 vtx:∃t,w.heap[vb]? = some (.cells #[.int .u32 (v:Int)] t)
 oxb:o xb=none
 okb:o kb=none
 sj:o fb=none
 Ll:o vb=none
 xk:xb≠kb
 fk:fb≠kb
 vk:vb≠kb
section
variable {w w':World} {pb db n sb xb kb fb vb v bc:Nat} {b:Bool} {name:Name} {o o':au} {d d':Dsk} {L L':aH}
theorem eG{w:World}{x:Nat}{ob:Obj}(h:w.heap[x]? = some ob):x<w.heap.size:=(Array.getElem?_eq_some_iff.1 h).1
theorem br{w w':World}(hb:Below w.heap.size w w'){a:Addr}{v:Value}(hc:w.cell? a=some v):w'.cell? a=some v:=(hb.cell (World.block_lt_of_cell? w a hc)).trans hc
theorem fy.lts(h:fy w o xb kb fb vb sb b v bc):xb<w.heap.size/\kb<w.heap.size/\fb<w.heap.size/\vb<w.heap.size:=by
 obtain⟨_,h1⟩:=h.xs;obtain⟨_,h2⟩:=h.bad;obtain⟨_,h3⟩:=h.fn;obtain⟨_,h4⟩:=h.vtx;exact⟨eG h1,eG h2,eG h3,eG h4⟩
theorem fy.cells(h:fy w o xb kb fb vb sb b v bc):w.cell? ⟨xb,0,none⟩=some (ptrTo sb)/\w.cell? ⟨kb,0,none⟩=some (.int .i64 (bc:Int))/\w.cell? ⟨fb,0,none⟩=some (.func (.func (qg b)) #[] #[])/\w.cell? ⟨vb,0,none⟩=some (.int .u32 (v:Int))/\w.frozen? ⟨kb,0,none⟩=false:=by
 obtain⟨_,h1⟩:=h.xs;obtain⟨_,h2⟩:=h.bad;obtain⟨_,h3⟩:=h.fn;obtain⟨_,h4⟩:=h.vtx;refine⟨?_,?_,?_,?_,aO h2 _⟩
 ·rw[ar h1];rfl
 ·rw[ar h2];rfl
 ·rw[ar h3];rfl
 ·rw[ar h4];rfl
theorem fy.moved(h:fy w o xb kb fb vb sb b v bc)(hm:Moved (fun _=>False) n pb db w o d w' o' d' L'):fy w' o' xb kb fb vb sb b v bc:=by
 obtain⟨l1,l2,l3,l4⟩:=h.lts;obtain⟨t1,h1⟩:=h.xs;obtain⟨t2,h2⟩:=h.bad;obtain⟨t3,h3⟩:=h.fn;obtain⟨t4,h4⟩:=h.vtx;exact⟨⟨t1,hm.heap h1 h.oxb (fun h=>h)⟩,⟨t2,hm.heap h2 h.okb (fun h=>h)⟩,⟨t3,hm.heap h3 h.sj (fun h=>h)⟩,⟨t4,hm.heap h4 h.Ll (fun h=>h)⟩,hm.free l1 h.oxb,hm.free l2 h.okb,hm.free l3 h.sj,hm.free l4 h.Ll,h.xk,h.fk,h.vk⟩
theorem fy.below(h:fy w o xb kb fb vb sb b v bc)(hb:Below w.heap.size w w'):fy w' o xb kb fb vb sb b v bc:=by
 obtain⟨l1,l2,l3,l4⟩:=h.lts;obtain⟨t1,h1⟩:=h.xs;obtain⟨t2,h2⟩:=h.bad;obtain⟨t3,h3⟩:=h.fn;obtain⟨t4,h4⟩:=h.vtx;exact⟨⟨t1,(hb.block _ l1).trans h1⟩,⟨t2,(hb.block _ l2).trans h2⟩,⟨t3,(hb.block _ l3).trans h3⟩,⟨t4,(hb.block _ l4).trans h4⟩,h.oxb,h.okb,h.sj,h.Ll,h.xk,h.fk,h.vk⟩
theorem fy.set(h:fy w o xb kb fb vb sb b v bc)(c:Nat):fy (w.setCell ⟨kb,0,none⟩ (.int .i64 (c:Int))) o xb kb fb vb sb b v c:=by
 obtain⟨t1,h1⟩:=h.xs;obtain⟨t2,h2⟩:=h.bad;obtain⟨t3,h3⟩:=h.fn;obtain⟨t4,h4⟩:=h.vtx;refine⟨⟨t1,(Below.heap_setCell _ _ _ _ h.xk).trans h1⟩,⟨t2,aT h2 0 _⟩,⟨t3,(Below.heap_setCell _ _ _ _ h.fk).trans h3⟩,⟨t4,(Below.heap_setCell _ _ _ _ h.vk).trans h4⟩,h.oxb,h.okb,h.sj,h.Ll,h.xk,h.fk,h.vk⟩
theorem xy(b:Bool)(args:Array Value)(w:World):Sem.run prog (callFunc (qg b) args) w=.ok (.enter (qg b) args) w:=by
 cases b
 ·show Sem.run prog (callFunc 55 args) w=.ok (.enter 55 args) w;go_simp
 ·show Sem.run prog (callFunc 56 args) w=.ok (.enter 56 args) w;go_simp
def A6(n pb db:Nat)(w:World)(o:au)(d:Dsk)(L:aH)(xb kb fb vb sb:Nat)(b:Bool)(v bc:Nat)(x:aD)(e:Ending)(w':World):Prop:=
 ∃r c d' o',e=.returned (.bool r)/\Moved (·=kb) n pb db w o d w' o' d' L/\fy w' o' xb kb fb vb sb b v c/\((c=bc/\r=decide (v<=gj b x))\/lK d d' L c)
theorem Lr(HW:aP)(h:aR w pb db n o d L)(hst:aF w sb pb name 20)(ho:o sb=none){es:List aD}{fl:Bool}(hL:aB L name=some (ax es fl))(hm:fy w o xb kb fb vb sb b v bc){i:Nat}{x:aD}(hi:es[i]? = some x) :
 Calls prog 89 #[.int .i64 (i:Int),.pointer (some ⟨xb,0,none⟩),.pointer (some ⟨kb,0,none⟩),.pointer (some ⟨fb,0,none⟩),.pointer (some ⟨vb,0,none⟩)] w (A6 n pb db w o d L xb kb fb vb sb b v bc x):=by
 have mX:=ae (uX HW h hst ho hL hi);have HO:=ae hm;obtain⟨c1,c2,c3,c4,-⟩:=hm.cells;obtain⟨l1,l2,l3,l4⟩:=hm.lts;have HE:Hid (∀(y:aD)(W:World),Calls prog (qg b) #[.agg #[.int .u32 (y.t.toNat:Int),.int .u32 (y.h.toNat:Int),.int .u64 (y.x.toNat:Int),.int .u32 (y.m.toNat:Int)]] W fun e w'=>e=.returned (.int .u32 (gj b y:Int))/\Below W.heap.size W w'):=ae (fun y W=>Nl b y W);clear h hst ho hL hi hm;unfold ptrTo at *;go_enter func89,ntmps89;go_wp2_with fail;refine mX.out.mono ?_;rintro e w1⟨c,d1,o1,y,rfl,ej,tM,S6⟩;have e9:=ae ej;have Dx:=ae tM;have Yw:=ae S6;have DF:=ae (HO.out.moved ej);clear ej tM S6 c1 c2 c3 c4;have cO:Hid (Below w1.heap.size w1 (w1.alloc (.cells #[.int .u32 (y.t.toNat:Int),.int .u32 (y.h.toNat:Int),.int .u64 (y.x.toNat:Int),.int .u32 (y.m.toNat:Int)] 64))):=ae aj;have kQ:Hid ((w1.alloc (.cells #[.int .u32 (y.t.toNat:Int),.int .u32 (y.h.toNat:Int),.int .u64 (y.x.toNat:Int),.int .u32 (y.m.toNat:Int)] 64)).heap[w1.heap.size]? = some (.cells #[.int .u32 (y.t.toNat:Int),.int .u32 (y.h.toNat:Int),.int .u64 (y.x.toNat:Int),.int .u32 (y.m.toNat:Int)] 64)):=ae (heap_alloc_new w1 _);have U7:=ae (DF.out.below cO.out);have Yx:Hid (Moved (·=kb) n pb db w o d (w1.alloc (.cells #[.int .u32 (y.t.toNat:Int),.int .u32 (y.h.toNat:Int),.int .u64 (y.x.toNat:Int),.int .u32 (y.m.toNat:Int)] 64)) o1 d1 L):=ae ((e9.out.below cO.out).mono (fun _ _ h=>h.elim));have m2:=DF.out.lts.2.1;have m5:=U7.out.cells.2.2.2.2;have m6:=U7.out.cells.2.1;have m7:=DF.out.cells.2.1;obtain⟨-,-,-,-,c5⟩:=DF.out.cells;have s7:Hid (w1.heap.size≠kb):=ae af;have lh:∀(W:World)(bc':Nat),Moved (·=kb) n pb db w o d W o1 d1 L->fy W o1 xb kb fb vb sb b v bc'->(bc'=bc/\y=x\/lK d d1 L bc')->∀W' r,Below W.heap.size W W'->r=decide (v<=gj b y)->A6 n pb db w o d L xb kb fb vb sb b v bc x (.returned (.bool r)) W':=by
  intro W bc' g1 g2 g3 W' r g4 g5;refine⟨r,bc',d1,o1,rfl,g1.below g4,g2.below g4,g3.imp (fun⟨a1,a2⟩=>⟨a1,by rw[g5,a2]⟩) id⟩
 have IG:=ae lh;clear lh;by_cases hc:c=0
 ·subst hc;have HF:Hid (bc=bc/\y=x\/lK d d1 L bc):=ae (.inl ⟨rfl,Yw.out rfl⟩);have eP:=ae (IG.out _ _ Yx.out U7.out HF.out);go_wp2;generalize w1.alloc (.cells #[.int .u32 (y.t.toNat:Int),.int .u32 (y.h.toNat:Int),.int .u64 (y.x.toNat:Int),.int .u32 (y.m.toNat:Int)] 64)=W at *;have q0:W.cell? ⟨w1.heap.size,0,none⟩=some (.int .u32 (y.t.toNat:Int)):=by rw[ar kQ.out];rfl
  have q1:W.cell? ⟨w1.heap.size,1,none⟩=some (.int .u32 (y.h.toNat:Int)):=by rw[ar kQ.out];rfl
  have q2:W.cell? ⟨w1.heap.size,2,none⟩=some (.int .u64 (y.x.toNat:Int)):=by rw[ar kQ.out];rfl
  have q3:W.cell? ⟨w1.heap.size,3,none⟩=some (.int .u32 (y.m.toNat:Int)):=by rw[ar kQ.out];rfl
  obtain⟨-,-,k3,k4,-⟩:=(show fy W o1 xb kb fb vb sb b v _ from U7.out).cells;have m9:w1.heap.size<W.heap.size:=eG kQ.out;have Q0:=ae q0;have Q1:=ae q1;have Q2:=ae q2;have Q3:=ae q3;have K3:=ae k3;have K4:=ae k4;clear q0 q1 q2 q3 k3 k4;refine wq W ?_;refine qz ?_ (fun w' hw'=>by have z3:=br hw' K3.out;go_simp<;>rfl);refine qz ?_ (fun w' hw'=>by have z0:=br hw' Q0.out;have z1:=br hw' Q1.out;have z2:=br hw' Q2.out;have z3:=br hw' Q3.out;go_simp<;>rfl);refine sS rfl (fun w' hw'=>(by go_simp;exact xy b _ _)) (fun w' hw'=>((HE.out y w').mono (fun e w'' h=>⟨h.1,hw'.trans (h.2.mono hw'.size)⟩))) (fun K hK=>?_);go_simp;refine hK _ ?_;clear hK K;refine qz ?_ (fun w' hw'=>by have z4:=br hw' K4.out;go_simp<;>rfl);iterate 2 (refine qz ?_)
  refine wpQuiet_nil ?_;intro w4 hw4;have HW4:=ae hw4;clear hw4;go_wp2;go_ret;refine eP.out _ _ HW4.out ?_;simp
 ·have hc':¬(c:Int)=0:=by omega
  have HF:Hid (c=bc/\y=x\/lK d d1 L c):=ae (.inr (Dx.out.resolve_left hc));have aqM:((c:Int) != 0)=true:=by simp;exact hc
  have kZ:Hid (((w1.setCell ⟨kb,0,none⟩ (.int .i64 (c:Int))).alloc (.cells #[.int .u32 (y.t.toNat:Int),.int .u32 (y.h.toNat:Int),.int .u64 (y.x.toNat:Int),.int .u32 (y.m.toNat:Int)] 64)).heap[w1.heap.size]? = some (.cells #[.int .u32 (y.t.toNat:Int),.int .u32 (y.h.toNat:Int),.int .u64 (y.x.toNat:Int),.int .u32 (y.m.toNat:Int)] 64)):=ae (by
   have:=heap_alloc_new (w1.setCell ⟨kb,0,none⟩ (.int .i64 (c:Int))) (.cells #[.int .u32 (y.t.toNat:Int),.int .u32 (y.h.toNat:Int),.int .u64 (y.x.toNat:Int),.int .u32 (y.m.toNat:Int)] 64);rw[World.size_setCell]at this;exact this)
  have O6:=ae (((e9.out.mono (S':=(·=kb)) (fun _ _ h=>h.elim)).setCell ⟨kb,0,none⟩ (.int .i64 (c:Int)) DF.out.okb (.inl rfl)).alloc (.cells #[.int .u32 (y.t.toNat:Int),.int .u32 (y.h.toNat:Int),.int .u64 (y.x.toNat:Int),.int .u32 (y.m.toNat:Int)] 64));have Wa:=ae ((DF.out.set c).below (ak.alloc (Nat.le_refl _) (.cells #[.int .u32 (y.t.toNat:Int),.int .u32 (y.h.toNat:Int),.int .u64 (y.x.toNat:Int),.int .u32 (y.m.toNat:Int)] 64)));have eP:=ae (IG.out _ _ O6.out Wa.out HF.out);clear kQ cO U7 Yx;go_wp2;generalize (w1.setCell ⟨kb,0,none⟩ (.int .i64 (c:Int))).alloc (.cells #[.int .u32 (y.t.toNat:Int),.int .u32 (y.h.toNat:Int),.int .u64 (y.x.toNat:Int),.int .u32 (y.m.toNat:Int)] 64)=W at *;have q0:W.cell? ⟨w1.heap.size,0,none⟩=some (.int .u32 (y.t.toNat:Int)):=by rw[ar kZ.out];rfl
  have q1:W.cell? ⟨w1.heap.size,1,none⟩=some (.int .u32 (y.h.toNat:Int)):=by rw[ar kZ.out];rfl
  have q2:W.cell? ⟨w1.heap.size,2,none⟩=some (.int .u64 (y.x.toNat:Int)):=by rw[ar kZ.out];rfl
  have q3:W.cell? ⟨w1.heap.size,3,none⟩=some (.int .u32 (y.m.toNat:Int)):=by rw[ar kZ.out];rfl
  obtain⟨-,-,k3,k4,-⟩:=(show fy W o1 xb kb fb vb sb b v _ from Wa.out).cells;have m9:w1.heap.size<W.heap.size:=eG kZ.out;have Q0:=ae q0;have Q1:=ae q1;have Q2:=ae q2;have Q3:=ae q3;have K3:=ae k3;have K4:=ae k4;clear q0 q1 q2 q3 k3 k4;refine wq W ?_;refine qz ?_ (fun w' hw'=>by have z3:=br hw' K3.out;go_simp<;>rfl);refine qz ?_ (fun w' hw'=>by have z0:=br hw' Q0.out;have z1:=br hw' Q1.out;have z2:=br hw' Q2.out;have z3:=br hw' Q3.out;go_simp<;>rfl);refine sS rfl (fun w' hw'=>(by go_simp;exact xy b _ _)) (fun w' hw'=>((HE.out y w').mono (fun e w'' h=>⟨h.1,hw'.trans (h.2.mono hw'.size)⟩))) (fun K hK=>?_);go_simp;refine hK _ ?_;clear hK K;refine qz ?_ (fun w' hw'=>by have z4:=br hw' K4.out;go_simp<;>rfl);iterate 2 (refine qz ?_)
  refine wpQuiet_nil ?_;intro w4 hw4;have HW4:=ae hw4;clear hw4;go_wp2;go_ret;refine eP.out _ _ HW4.out ?_;simp
def Fq(b:Bool)(es:List aD):Prop:=∀(i j:Nat)(x y:aD),es[i]? = some x->es[j]? = some y->i<=j->gj b x<=gj b y
def Split(b:Bool)(v:Nat)(es:List aD)(lo hi:Nat):Prop:=(∀(j:Nat)(x:aD),es[j]? = some x->j<lo->gj b x<v)/\(∀(j:Nat)(x:aD),es[j]? = some x->hi<=j->v<=gj b x)
theorem Split.up{b:Bool}{v:Nat}{es:List aD}{lo hi m:Nat}{x:aD}(h:Split b v es lo hi)(hr:Fq b es)(hm:es[m]? = some x)(hx:gj b x<v):Split b v es (m+1) hi:=
 ⟨fun j y hy hj=>Nat.lt_of_le_of_lt (hr j m y x hy hm af) hx,h.2⟩
theorem Split.down{b:Bool}{v:Nat}{es:List aD}{lo hi m:Nat}{x:aD}(h:Split b v es lo hi)(hr:Fq b es)(hm:es[m]? = some x)(hx:v<=gj b x):Split b v es lo m:=
 ⟨h.1,fun j y hy hj=>Nat.le_trans hx (hr m j x y hm hy hj)⟩
theorem lK.more{d d' ig:Dsk}{L:aH}{c:Nat}(h:lK d d' L c)(ho:bR d' ig):lK d ig L c:=h.imp id (fun⟨h1,h2⟩=>⟨h1,ho.dead h2⟩)
def A7(n pb db:Nat)(w:World)(o:au)(d:Dsk)(L:aH)(xb kb fb vb sb:Nat)(b:Bool)(v:Nat)(es:List aD)(e:Ending)(w':World):Prop:=
 ∃k c d' o',e=.returned (.int .i64 ((k:Nat):Int))/\k<=es.length/\Moved (·=kb) n pb db w o d w' o' d' L/\fy w' o' xb kb fb vb sb b v c/\((c=0/\Split b v es k k)\/lK d d' L c)
theorem Ls(HW:aP)(h:aR w pb db n o d L)(hst:aF w sb pb name 20)(ho:o sb=none){es:List aD}{fl:Bool}(hL:aB L name=some (ax es fl))(hk:sb≠kb)(hm:fy w o xb kb fb vb sb b v 0)(hr:Fq b es)(hN:es.length<1000000) :
 Calls prog 88 #[.int .i64 (es.length:Int),.func (.func 89) #[] #[.pointer (some ⟨xb,0,none⟩),.pointer (some ⟨kb,0,none⟩),.pointer (some ⟨fb,0,none⟩),.pointer (some ⟨vb,0,none⟩)]] w (A7 n pb db w o d L xb kb fb vb sb b v es):=by
 have afd:Hid (∀W o' d' c(m:Nat)x,aR W pb db n o' d' L->aF W sb pb name 20->o' sb=none->fy W o' xb kb fb vb sb b v c->es[m]? = some x->Calls prog 89 #[.int .i64 (m:Int),.pointer (some ⟨xb,0,none⟩),.pointer (some ⟨kb,0,none⟩),.pointer (some ⟨fb,0,none⟩),.pointer (some ⟨vb,0,none⟩)] W (A6 n pb db W o' d' L xb kb fb vb sb b v c x)):=ae (fun W o' d' c m x a1 a2 a3 a4 a5=>Lr HW a1 a2 a3 hL a4 a5);have H:=ae h;have HST:=ae hst;have Wy:=ae ho;have HM:=ae hm;have HR:=ae hr;have HES:Hid (∀m,m<es.length->∃x,es[m]? = some x):=ae (fun m hm=>⟨_,List.getElem?_eq_getElem hm⟩);have hsp:Hid (Split b v es 0 es.length):=ae ⟨fun j x _ hj=>absurd hj (Nat.not_lt_zero _),fun j x hx hj=>absurd (aN hx) af⟩;obtain⟨N,hNe⟩:∃N,N=es.length:=⟨_,rfl⟩;rw[<- hNe]at HES hsp hN ⊢;have s7:=ae hNe;clear h hst ho hL hm hr hNe;go_enter func88,ntmps88;go_wp2;go_loopw [5,6] (fun i j wr=>∃(lo hi c:Nat)(d':Dsk)(o':au),lo<=hi/\hi<=N/\i=.int .i64 (lo:Int)/\j=.int .i64 (hi:Int)/\Moved (·=kb) n pb db w o d wr o' d' L/\fy wr o' xb kb fb vb sb b v c/\((c=0/\Split b v es lo hi)\/lK d d' L c)) (fun i j _=>(intOf j).toNat-(intOf i).toNat)
 case atStart=>exact⟨0,N,0,d,o,Nat.zero_le _,Nat.le_refl _,rfl,rfl,Moved.refl _ H.out,HM.out,.inl ⟨rfl,hsp.out⟩⟩
 case round=>
  obtain⟨lo,hi,c,d1,o1,hlh,hhN,rfl,rfl,ej,afe,hs1⟩:=hrel;have e9:=ae ej;have DF:=ae afe;have jg:=ae hs1;clear ej afe hs1;by_cases hlt:lo<hi
  ·obtain⟨m,hme⟩:∃m,m=(lo+hi)/2:=⟨_,rfl⟩;have ej:lo<=m:=by omega
   have cT:m<hi:=by omega
   have hmi:((lo:Int)+(hi:Int))/2=(m:Int):=by omega
   clear hme;obtain⟨x,hx⟩:=HES.out m af;have U6:=ae (afd.out wr o1 d1 c m _ e9.out.aY (HST.out.moved e9.out Wy.out hk) (e9.out.free HST.out.lt Wy.out) DF.out hx);have HX:=ae hx;clear hx;go_wp2_with fail;clear hmi;refine U6.out.mono ?_;rintro e w2⟨r,c2,d2,o2,rfl,eE,aff,hs3⟩;have eH:Hid (Moved (·=kb) n pb db w o d w2 o2 d2 L):=ae (e9.out.trans eE (fun _ _ h=>h));have mQ:=ae aff;have fF:Hid ((c2=0/\(r=true->Split b v es lo m)/\(r=false->Split b v es (m+1) hi))\/lK d d2 L c2):=ae (by
    rcases hs3 with⟨h1,h2⟩| h2
    ·rcases jg.out with⟨h3,h4⟩| h4
     ·refine .inl ⟨h1.trans h3,fun hr=>?_,fun hr=>?_⟩
      ·rw[hr]at h2;exact h4.down HR.out HX.out (of_decide_eq_true h2.symm)
      ·rw[hr]at h2;exact h4.up HR.out HX.out (Nat.lt_of_not_le (of_decide_eq_false h2.symm))
     ·rw[h1];exact .inr (h4.more eE.on)
    ·exact .inr (h2.later e9.out.on.bO))
   clear eE aff hs3 U6;cases r with
   |false=>
     have gD:Hid (c2=0/\Split b v es (m+1) hi\/lK d d2 L c2):=ae (fF.out.imp (fun h=>⟨h.1,h.2.2 rfl⟩) id);clear fF;go_wp2;go_roundw
     case rel=>exact⟨m+1,hi,c2,d2,o2,af,hhN,by go_num,rfl,eH.out,mQ.out,gD.out⟩
     case measure=>simp[intOf];omega
   |true=>
     have gD:Hid (c2=0/\Split b v es lo m\/lK d d2 L c2):=ae (fF.out.imp (fun h=>⟨h.1,h.2.1 rfl⟩) id);clear fF;go_wp2;go_roundw
     case rel=>exact⟨lo,m,c2,d2,o2,af,af,rfl,rfl,eH.out,mQ.out,gD.out⟩
     case measure=>simp[intOf];omega
  ·obtain rfl:lo=hi:=by omega
   go_wp2;go_ret;exact⟨lo,c,d1,o1,rfl,by rw[<- s7.out];exact hhN,e9.out,DF.out,jg.out⟩
end
end
end Go.Proofs.YthkkgdpomhhjjaaGreatDoor
