/-
  Joined.
-/
import Derived.Test.YthkkgdpomhhjjaaGreatDoorX08
import Derived.Below
import Derived.Deep.RegionWith
import Derived.Laws.IdiomStrings
set_option maxRecDepth 100000
set_option maxHeartbeats 8000000
namespace Go.Proofs.YthkkgdpomhhjjaaGreatDoor
open Go.Proofs.Tryz
section
open Go.RowKit Go.Maps Go.MapKept
def Zx:ByteArray:=⟨#[116,46]⟩
def ownName(x:Name):Bool:=Lib.hasPrefix x.data.toList Zx.data.toList
theorem rz(k:Nat):ownName (dx k)=true:=by
 unfold ownName dx Zx Lib.hasPrefix;simp
section
variable {w w':World} {pb db n cb kb sb jb bg made:Nat} {by':Bool} {name:Name} {o o':ar} {d d':Dsk} {L L':aC}
theorem Ak(s:ByteArray)(w:World):Calls prog 114 #[.string s,.string ⟨#[116,46]⟩] w fun e w'=>e=.returned (.bool (ownName s))/\w=w':=
 (Any.strings_HasPrefix (P:=prog) (ρ:=Tryz.zY) { Tryz.Y2 with } s ⟨#[116,46]⟩ w).mono fun _ _ ⟨h1,h2⟩=>⟨h1,h2.symm⟩
theorem vV{i N:Nat}{x:aH}{sz:Nat}(h:bz w cb sb i N x)(hs:aD w sb pb name sz):sb≠cb:=by
 rintro rfl;obtain⟨t,h1⟩:=h;obtain⟨t',h2⟩:=hs;rw[h1]at h2;have:=Option.some.inj h2;injection this with a b;have:=congrArg Array.size a;simp at this
theorem Dc(w:World)(pb:Nat)(x:Int)(b:Bool)(hx:x=(lS b:Int)):cS ((w.alloc (.cells #[.int .i64 x] 3)).alloc (.cells #[.pointer (some ⟨pb,0,none⟩),.func (.func 115) #[] #[.pointer (some ⟨w.heap.size,0,none⟩)],.int .i64 0] 205)) (w.heap.size+1) pb w.heap.size 0 b:=by
 subst hx;refine⟨⟨205,?_⟩,⟨3,?_⟩⟩
 ·have:=heap_alloc_new (w.alloc (.cells #[.int .i64 (lS b:Int)] 3)) (.cells #[.pointer (some ⟨pb,0,none⟩),.func (.func 115) #[] #[.pointer (some ⟨w.heap.size,0,none⟩)],.int .i64 0] 205);rw[show(w.alloc (.cells #[.int .i64 (lS b:Int)] 3)).heap.size=w.heap.size+1 by simp]at this;exact this
 ·rw[(MapKept.heap_alloc _ _).2 _ ah];exact heap_alloc_new w _
theorem Dd(HW:aP){m:Nat}(yD:dX m)(h:aQ w pb db n o d L)(hn:8<=n){es:List aH}{fl:Bool}{p9 out:Name}(hL:aA L p9=some (aw es fl))(hio:p9≠out)(hi:ownName p9=false)(ho:ownName out=false)(hout:bL out=true)(hno:aA L out=none)(Bp:∀k,aA L (dx k)=none)(hm:es.length<=m) :
 Calls prog 77 #[ptrTo pb,.string p9,.string out,.int .i64 (lS by':Int)] w (oA (fun _=>False) n pb db w o d L out (aJ by' es) es.length):=by
 have hto:∀k,out≠dx k:=fun k e=>by rw[e,rz]at ho;cases ho
 have zn:=aa (Ak p9);have jW:=aa (Ak out);simp only[hi]at zn;simp only[ho]at jW;have ry:=aa (fun W(hW:Below w.heap.size w W)=>jr (h.below hW));have pP:Hid (∀W,Below w.heap.size w W->∀jb bg,cS W jb pb bg 0 by'->Calls prog 116 #[ptrTo jb,.string p9] W (qA n pb db W o d L p9 es.length)):=aa (fun W hW jb bg hj=>xJ HW (h.below hW) hj hL);have mJ:Hid (∀W o' d',aQ W pb db n o' d' L->Calls prog 71 #[ptrTo pb,.string out] W (fL n pb db W o' d' L out)):=aa (fun W o' d' hW=>ku hW out (b9 hout));have oq:Hid (∀d':Dsk,cY d' L out=if d'.tick.dead=true then 6 else 0):=aa (fun d'=>by
  unfold cY;rw[hout,hno];rfl)
 have tO:Hid (∀W o' d',aQ W pb db n o' d' (aS L out (.inl (([]:List Pg),true)))->Calls prog 62 #[ptrTo pb,.string out] W (GH W pb db n o' d' (aS L out (.inl (([]:List Pg),true))) out)):=aa (fun W o' d' hW=>tV hW (ps:=[]) (fl:=true) (by rw[ay,if_pos rfl]));have hdel:Hid (bZ (aS L out (.inl (([]:List Pg),true))) out=L):=aa (by rw[CV,Ad hno]);have xK:Hid (∀W o' d' cb sb jb bg,aQ W pb db n o' d' L->cS W jb pb bg 0 by'->o' jb=none->o' bg=none->bg≠jb->bz W cb sb 0 es.length z7->aD W sb pb p9 20->o' cb=none->o' sb=none->cb≠jb->cb≠bg->sb≠jb->sb≠cb ->
  Calls prog 117 #[ptrTo jb,ptrTo cb,.string out] W (oA (fun x=>x=cb\/x=jb) n pb db W o' d' L out (aJ by' es) es.length)):=aa (fun W o' d' cb sb jb bg a1 a2 a3 a4 a5 a6 a7 a8 a9 b1 b2 b3 b4=>yD a1 hn a2 a3 a4 a5 hL a6 a7 a8 a9 b1 b2 b3 b4 hout hno Bp hto hm)
 have hne:(p9.toList == out.toList)=false:=qu hio;have T8:n<=4096:=by
  obtain⟨fb,mb,l,hand,mf,hp,rfl,-⟩:=h;exact hp.most
 have H:=aa h;have hn8:¬(n:Int)<8:=by omega
 clear h hn hL hio hi ho hout hno Bp hm hto;have hby:((lS by':Int)=0\/(lS by':Int)=1):=by cases by'<;>simp[lS]
 have UQ:Hid (∀v,Below w.heap.size w (w.alloc (.cells #[v] 3))):=aa (fun v=>aj.alloc (Nat.le_refl _) _);have HBC:Hid (∀v,(w.alloc (.cells #[v] 3)).heap[w.heap.size]? = some (.cells #[v] 3)):=aa (fun v=>heap_alloc_new w _);obtain⟨bn,PE⟩:∃bn:Int,bn=(lS by':Int):=⟨_,rfl⟩;rw[<- PE]at hby ⊢;have HBN:=aa PE;clear PE;unfold ptrTo at *;generalize es.length=N at *;rcases hby with rfl | rfl;all_goals
  go_enter func77,ntmps77;go_wp2_with fail;refine(zn.o _).mono ?_;rintro e w'⟨rfl,rfl⟩;go_wp2_with fail;refine(jW.o _).mono ?_;rintro e w'⟨rfl,rfl⟩;go_wp2_with fail;refine(ry.o _ (UQ.o _)).mono ?_;rintro e w'⟨rfl,rfl⟩;go_wp2_with fail
 all_goals
  first
   | (have Zh:Hid (cS ((w.alloc (.cells #[.int .i64 0] 3)).alloc (.cells #[.pointer (some ⟨pb,0,none⟩),.func (.func 115) #[] #[.pointer (some ⟨w.heap.size,0,none⟩)],.int .i64 0] 205)) (w.heap.size+1) pb w.heap.size 0 by'):=aa (Dc w pb 0 by' HBN.o)
      have NC:Hid (Below w.heap.size w ((w.alloc (.cells #[.int .i64 0] 3)).alloc (.cells #[.pointer (some ⟨pb,0,none⟩),.func (.func 115) #[] #[.pointer (some ⟨w.heap.size,0,none⟩)],.int .i64 0] 205))):=aa ((UQ.o _).alloc ah _);have hsz:w.heap.size+2=((w.alloc (.cells #[.int .i64 0] 3)).alloc (.cells #[.pointer (some ⟨pb,0,none⟩),.func (.func 115) #[] #[.pointer (some ⟨w.heap.size,0,none⟩)],.int .i64 0] 205)).heap.size:=by simp
      have Mg:=aa hsz;clear hsz;generalize (w.alloc (.cells #[.int .i64 0] 3)).alloc (.cells #[.pointer (some ⟨pb,0,none⟩),.func (.func 115) #[] #[.pointer (some ⟨w.heap.size,0,none⟩)],.int .i64 0] 205)=W1 at *)
   | (have Zh:Hid (cS ((w.alloc (.cells #[.int .i64 1] 3)).alloc (.cells #[.pointer (some ⟨pb,0,none⟩),.func (.func 115) #[] #[.pointer (some ⟨w.heap.size,0,none⟩)],.int .i64 0] 205)) (w.heap.size+1) pb w.heap.size 0 by'):=aa (Dc w pb 1 by' HBN.o)
      have NC:Hid (Below w.heap.size w ((w.alloc (.cells #[.int .i64 1] 3)).alloc (.cells #[.pointer (some ⟨pb,0,none⟩),.func (.func 115) #[] #[.pointer (some ⟨w.heap.size,0,none⟩)],.int .i64 0] 205))):=aa ((UQ.o _).alloc ah _);have hsz:w.heap.size+2=((w.alloc (.cells #[.int .i64 1] 3)).alloc (.cells #[.pointer (some ⟨pb,0,none⟩),.func (.func 115) #[] #[.pointer (some ⟨w.heap.size,0,none⟩)],.int .i64 0] 205)).heap.size:=by simp
      have Mg:=aa hsz;clear hsz;generalize (w.alloc (.cells #[.int .i64 1] 3)).alloc (.cells #[.pointer (some ⟨pb,0,none⟩),.func (.func 115) #[] #[.pointer (some ⟨w.heap.size,0,none⟩)],.int .i64 0] 205)=W1 at *)
  have hco:=aa (pP.o W1 NC.o (w.heap.size+1) w.heap.size Zh.o);refine hco.o.mono ?_;rintro e w2⟨v2,c2,d2,o2,rfl,cR,p7,jl⟩;have HC2:=aa cR;have GM:=aa p7;have eT:Hid (au (fun _=>False) n pb db w o d w2 o2 d2 L):=aa ((au.aW H.o NC.o).trans cR (fun _ _ h=>h));clear cR p7 hco;by_cases hc2:c2=0
  ·subst hc2;obtain⟨cb,sb,rfl,hs2,oy,Kr,Af,Vn,Q8⟩:=jl rfl;have eK:=aa hs2;have nB:=aa oy;have RI:=aa Kr;have B8:=aa Af;have Zy:=hs2.lt;have adF:=oy.lt;have Kj:Hid (sb≠cb):=aa (vV hs2 oy);have ao4:w.heap.size+2<=cb:=by rw[Mg.o];exact Vn
   have ao5:w.heap.size+2<=sb:=by rw[Mg.o];exact Q8
   clear jl hs2 oy Kr Af Vn Q8;unfold ptrTo;have hcc:=aa (mJ.o w2 o2 d2 eT.o.aY);unfold fL at hcc;rw[oq.o d2]at hcc;cases Mc:d2.tick.dead with
   |true=>
     rw[Mc,if_pos rfl]at hcc;have oP:=aa Mc;clear Mc;go_wp2_with fail;refine hcc.o.mono ?_;rintro e w3⟨d3,o3,rfl,ep,-,hdd⟩;rw[if_neg af]at ep;have eD:=aa (eT.o.trans ep (fun _ _ h=>h));have uR:=aa (hdd (by first | exact oP.o | trivial));clear ep hdd hcc;go_wp2;go_ret;exact⟨6,d3,o3,L,rfl,eD.o,fun _ _=>rfl,.inr (.inr ⟨rfl,uR.o⟩)⟩
   |false=>
     rw[Mc,if_neg ah]at hcc;clear Mc;go_wp2_with fail;refine hcc.o.mono ?_;rintro e w3⟨d3,o3,rfl,ep,-,-⟩;simp only[if_true]at ep;have Jh:=aa (HC2.o.trans ep (fun _ _ h=>h));have eD:=aa (eT.o.trans ep (fun _ _ h=>h));have fC:Hid (bz w3 cb sb 0 N z7):=aa (eK.o.kept (ep.block Zy RI.o (fun h=>h)));have B9:Hid (aD w3 sb pb p9 20):=aa (nB.o.moved ep B8.o (fun h=>h));have adG:Hid (o3 cb=none):=aa (ep.free Zy RI.o);have vQ:Hid (o3 sb=none):=aa (ep.free adF B8.o);have Xt:cb<w3.heap.size:=Nat.lt_of_lt_of_le Zy ep.size;have adH:sb<w3.heap.size:=Nat.lt_of_lt_of_le adF ep.size;have hdd:=aa (tO.o w3 o3 d3 ep.aY);clear ep hcc;go_wp2_with fail;refine hdd.o.mono ?_;rintro e w4⟨c4,d4,o4,L4,rfl,oQ,tB,hg4,tT,aiY⟩;have eV:au (fun _=>False) n pb db w3 o3 d3 w4 o4 d4 L4:=ji oQ tB hg4 tT;have gl:=aa (eD.o.trans eV (fun _ _ h=>h));have Bh:=aa (Jh.o.trans eV (fun _ _ h=>h));have gp:Hid (bz w4 cb sb 0 N z7):=aa (fC.o.kept (eV.block Xt adG.o (fun h=>h)));have tZ:Hid (aD w4 sb pb p9 20):=aa (B9.o.moved eV vQ.o (fun h=>h));have aiZ:Hid (o4 cb=none):=aa (eV.free Xt adG.o);have Vi:Hid (o4 sb=none):=aa (eV.free adH vQ.o);clear oQ tB hg4 tT eV hdd;rcases aiY with⟨rfl,he⟩|⟨rfl,kr,dp,he⟩
     ·have he':=he.trans hdel.o;rw[he']at gl Bh;have HJ4:Hid (cS w4 (w.heap.size+1) pb w.heap.size 0 by'):=aa (Zh.o.moved Bh.o (H.o.fresh ae) (H.o.fresh (Nat.le_refl _)) (fun h=>h) (fun h=>h));have Ng:=aa (xK.o w4 o4 d4 cb sb (w.heap.size+1) w.heap.size gl.o.aY HJ4.o (Bh.o.free Zh.o.lt.1 (H.o.fresh ae)) (Bh.o.free Zh.o.lt.2 (H.o.fresh (Nat.le_refl _))) ae gp.o tZ.o aiZ.o Vi.o ae ae ae Kj.o);clear he he';go_wp2_with fail;refine Ng.o.mono ?_;rintro e w5⟨c5,d5,o5,L5,rfl,kC,adI,Be⟩;have lx:=aa (gl.o.trans kC (fun x hx e=>by omega));have ai0:=aa adI;have Nu:Hid ((c5=0/\∀x,aA L5 x=aA (aS L out (aw (aJ by' es) true)) x)\/jq d d5 (need L+8*N) c5):=aa (Be.imp id (fun h=>h.later gl.o.on.bC));clear kC adI Be Ng;go_wp2;go_ret;exact⟨c5,d5,o5,L5,rfl,lx.o,ai0.o,Nu.o⟩
     ·have HE:=aa he;have HD:=aa kr;clear he kr;go_wp2;go_ret;refine⟨6,d4,o4,L4,rfl,gl.o,fun x hx=>?_,.inr (.inr ⟨rfl,HD.o⟩)⟩;rw[HE.o,ay,if_neg (fun e=>hx (.inl e)),ay,if_neg (fun e=>hx (.inl e))]
  ·have J9:¬(c2:Int)=0:=by omega
   have BQ:Hid (jq d d2 (need L+8*N) c2):=aa ((GM.o.resolve_left hc2).num (Nat.le_add_right _ _));clear hc2 jl;go_wp2;go_ret;exact⟨c2,d2,o2,L,rfl,eT.o,fun _ _=>rfl,.inr BQ.o⟩
end
end
section
open Go Go.RowKit
section
variable {P:Program} {C:World->Prop} {Pd:Nat->Value->World->Prop} {l:List Oper} {a0:Act}
structure jQ(C:World->Prop)(Pd:Nat->Value->World->Prop)(l:List Oper)(a0:Act)(listed:Array Bool)(a:Act)(w:World):Prop where
 size:listed.size=l.length
 cls:C w
 Xu:a.tmps.size=a0.tmps.size
 dfr:a.defers=a0.defers
 out:∀k,(∀o∈l,o.dst≠some k)->a.tmps[k]? = a0.tmps[k]?
 slot:∀(i:Nat)(o:Oper)(k:Nat),l[i]? = some o->o.dst=some k->listed.getD i true=true->∃v,a.tmps[k]? = some v/\Pd i v w
def mU(Pd:Nat->Value->World->Prop)(l:List Oper)(a0:Act)(o:Oper)(a:Act)(w:World):Prop:=
 (∀k,(∀o∈l,o.dst≠some k)->a.tmps[k]? = a0.tmps[k]?)/\a.tmps.size=a0.tmps.size /\
 ∀e∈o.after,Region.binds .any e=true->∀(oj:Oper)(k:Nat),l[e.on]? = some oj->oj.dst=some k->∃v,a.tmps[k]? = some v/\Pd e.on v w
def uy(P:Program)(Pd:Nat->Value->World->Prop)(i:Nat)(o:Oper)(a:Act)(w:World):Prop:=
 ∀(Q:Exit->Act->World->Prop)(K:Act->World->Prop),(∀v w',Below w.heap.size w w'->Pd i v w'->K (a.put o.dst v) w')->o.wp P a w K Q
theorem N6{Q:Exit->Act->World->Prop}(hg:∀o∈l,o.guard=none)(hd:∀(i j:Nat)(oi oj:Oper)(k:Nat),l[i]? = some oi->l[j]? = some oj->oi.dst=some k->oj.dst=some k->i=j)(hb:∀o∈l,∀k,o.dst=some k->k<a0.tmps.size)(Hq:∀w w',C w->Below w.heap.size w w'->C w')(hP:∀i v w w',Below w.heap.size w w'->Pd i v w->Pd i v w')(hstep:∀(i:Nat)(o:Oper),l[i]? = some o->∀a w,C w->mU Pd l a0 o a w->uy P Pd i o a w)(hend:∀listed a w,jQ C Pd l a0 listed a w->Region.ready .any l.toArray listed=[]->Q .normal a w)(f:Nat) :
 ∀(listed:Array Bool)(a:Act)(w:World),jQ C Pd l a0 listed a w->listed.toList.count false<=f->wpAny P .any l.toArray Q f listed a w:=by
 induction f with
 |zero=>
   intro listed a w inv hf;have hall:∀i,listed.getD i true=true:=fun i=>by
    rw[Array.getD_eq_getD_getElem?];grind [List.count_pos_iff]
   have hr:Region.ready .any l.toArray listed=[]:=by
    grind [Region.ready,List.filter_eq_nil_iff]
   exact⟨hr,hend _ _ _ inv hr⟩
 |succ f ih=>
   intro listed a w inv hf;refine⟨hend _ _ _ inv,fun i hi=>?_⟩;obtain⟨uY,o,ho,hall⟩:=mem_ready.1 hi;have kH:l[i]? = some o:=by grind
   have hol:o∈l:=List.mem_of_getElem? kH;have lu:i<l.length:=(List.getElem?_eq_some_iff.1 kH).1;have adK:mU Pd l a0 o a w:=⟨inv.out,inv.Xu,fun e he PE oj k lB hk=>inv.slot _ oj k lB hk (by
    grind)⟩
   have hw:Region.wanted o (yielded l.toArray a.tmps)=true:=by
    grind [Region.wanted]
   unfold wpOp;rw[ho];simp only[hw,if_true];refine .inl (hstep i o kH a w inv.cls adK _ _ (fun v w' hbw hv=>ih _ _ _ ⟨?_,Hq _ _ inv.cls hbw,?_,?_,fun k hk=>?_,fun j oj k lB hk hlj=>?_⟩ ?_))
   ·grind [jQ.size]
   ·unfold Act.put;grind [jQ.Xu]
   ·unfold Act.put;grind [jQ.dfr]
   ·unfold Act.put;grind [jQ.out]
   ·by_cases fg:i=j
    ·grind [Act.put,jQ.Xu]
    ·have ai1:listed.getD j true=true:=by
      rw[Array.getD_eq_getD_getElem?,Array.getElem?_setIfInBounds_ne fg]at hlj;grind [Array.getD_eq_getD_getElem?]
     obtain⟨u,hu1,hu2⟩:=inv.slot j oj k lB hk ai1;refine⟨u,?_,hP _ _ _ _ hbw hu2⟩;unfold Act.put;grind
   ·have tF:listed[i]? = some false:=by
     rw[Array.getD_eq_getD_getElem?]at uY;grind
    grind
theorem Cg{id:Nat}{Q:Exit->Act->World->Prop}{w:World}(C:World->Prop)(Pd:Nat->Value->World->Prop)(hm:P.follows .mixedOrders=true)(hg:∀o∈l,o.guard=none)(hd:∀(i j:Nat)(oi oj:Oper)(k:Nat),l[i]? = some oi->l[j]? = some oj->oi.dst=some k->oj.dst=some k->i=j)(hb:∀o∈l,∀k,o.dst=some k->k<a0.tmps.size)(hC:C w.drew)(Hq:∀w w',C w->Below w.heap.size w w'->C w')(hP:∀i v w w',Below w.heap.size w w'->Pd i v w->Pd i v w')(hstep:∀(i:Nat)(o:Oper),l[i]? = some o->∀a w,C w->mU Pd l a0 o a w->uy P Pd i o a w)(hend:∀listed a w,jQ C Pd l a0 listed a w->Region.ready .any l.toArray listed=[]->Q .normal a w):(Code.region id l.toArray true).wp P Q a0 w:=by
 refine wp_region_any hm ?_;refine N6 hg hd hb Hq hP hstep hend _ _ _ _ ⟨ah,hC,rfl,rfl,fun _ _=>rfl,fun i o k ho _ hl=>?_⟩ ?_
 ·have lu:i<l.length:=(List.getElem?_eq_some_iff.1 ho).1;simp_all
 simp
def Hr(l:List Oper)(n:Nat):Bool:=
 l.all (fun o=>o.guard.isNone) && l.all (fun o=>match o.dst with | some k=>decide (k<n) | none=>true) &&
  (List.range l.length).all fun i=>(List.range l.length).all fun j=>decide (i=j) || (match (l[i]?).bind (·.dst),(l[j]?).bind (·.dst) with | some a,some b=>decide (a≠b) | _,_=>true)
theorem Al{id:Nat}{Q:Exit->Act->World->Prop}{w:World}(C:World->Prop)(Pd:Nat->Value->World->Prop)(hm:P.follows .mixedOrders=true)(hB:Hr l a0.tmps.size=true)(hC:C w.drew)(Hq:∀w w',C w->Below w.heap.size w w'->C w')(hP:∀i v w w',Below w.heap.size w w'->Pd i v w->Pd i v w')(hstep:∀(i:Nat)(o:Oper),l[i]? = some o->∀a w,C w->mU Pd l a0 o a w->uy P Pd i o a w)(hend:∀listed a w,jQ C Pd l a0 listed a w->Region.ready .any l.toArray listed=[]->Q .normal a w):(Code.region id l.toArray true).wp P Q a0 w:=by
 simp only[Hr,Bool.and_eq_true,List.all_eq_true]at hB;obtain⟨⟨h1,h2⟩,h3⟩:=hB;refine Cg C Pd hm (fun o ho=>by simp_all) (fun i j oi oj k hi hj TP hkj=>?_) (fun o ho k hk=>?_) hC Hq hP hstep hend
 ·have h4:=h3 i (List.mem_range.2 (List.getElem?_eq_some_iff.1 hi).1) j (List.mem_range.2 (List.getElem?_eq_some_iff.1 hj).1);grind
 grind
theorem oB{i:Nat}{o:Oper}{a:Act}{w w':World}{v:Value}(h:(execOp a.eval o).run P w=.ok (.value v) w')(hb:Below w.heap.size w w')(hp:Pd i v w'):uy P Pd i o a w:=by
 intro Q K hK;unfold Oper.wp;rw[h];exact hK v w' hb hp
theorem N7{i:Nat}{o:Oper}{a:Act}{w:World}{f:FuncId}{args:Array Value}(h:(execOp a.eval o).run P w=.ok (.enter f args) w)(hc:Calls P f args w fun e w'=>∃v,e=.returned v/\Below w.heap.size w w'/\Pd i v w'):uy P Pd i o a w:=by
 intro Q K hK;unfold Oper.wp;rw[h];refine Calls.mono hc ?_;grind
theorem mU.get{o:Oper}{a:Act}{w:World}(h:mU Pd l a0 o a w)(j:Nat){oj:Oper}{k:Nat}(hj:(o.after.toList.any fun e=>decide (e.on=j) && Region.binds .any e)=true)(ho:l[j]? = some oj)(hk:oj.dst=some k):∃v,a.tmps[k]? = some v/\Pd j v w:=by
 rw[List.any_eq_true]at hj;obtain⟨e,he,h1⟩:=hj;rw[Bool.and_eq_true,decide_eq_true_eq]at h1;obtain⟨rfl,h2⟩:=h1;obtain⟨v,h3,h4⟩:=h.2.2 e (by grind) h2 oj k ho hk;grind
theorem mU.old{o:Oper}{a:Act}{w:World}(h:mU Pd l a0 o a w)(k:Nat){v:Value}(hk:(l.all fun o=>decide (o.dst≠some k))=true)(h0:a0.tmps[k]? = some v):a.tmps[k]? = some v:=by
 refine(h.1 k fun o ho=>?_).trans h0;grind
theorem Vr{C:World->Prop}{listed:Array Bool}{a:Act}{w:World}(h:jQ C Pd l a0 listed a w)(hr:Region.ready .any l.toArray listed=[])(hB:((List.range l.length).all fun i=>match l[i]? with | some o=>o.after.toList.all (fun e=>decide (e.on<i)) | none=>true)=true) :
 ∀(i:Nat)(o:Oper)(k:Nat),l[i]? = some o->o.dst=some k->∃v,a.tmps[k]? = some v/\Pd i v w:=by
 have hall:∀i,i<l.length->listed.getD i true=true:=by
  intro i;induction i using Nat.strongRecOn with
  |_ i ih=>
    intro hi;by_cases hd:listed.getD i true=true
    ·exact hd
    ·exfalso
     have hd':listed.getD i true=false:=by grind
     have hm:i∈Region.ready .any l.toArray listed:=by
      refine mem_ready.2 ⟨hd',l[i],ah,fun e he _=>?_⟩;rw[List.all_eq_true]at hB;have h1:=hB i (List.mem_range.2 hi);grind
     grind
 grind [jQ.slot]
theorem xO{a b:Act}(hs:a.tmps.size=b.tmps.size)(hd:a.defers=b.defers)(he:∀k,k<b.tmps.size->a.tmps[k]? = b.tmps[k]?):a=b:=by
 obtain⟨ta,da⟩:=a;obtain⟨tb,db⟩:=b;grind [Array.ext]
def nK(a:Act):List Oper->List Value->Act
 |o::l,v::vs=>nK (a.put o.dst v) l vs
 |_,_=>a
theorem qG(a:Act)(d:Option Tmp)(v:Value):(a.put d v).tmps.size=a.tmps.size:=by
 unfold Act.put;grind
theorem se(a:Act)(d:Option Tmp)(v:Value):(a.put d v).defers=a.defers:=by
 unfold Act.put;grind
theorem pD(a:Act)(d:Option Tmp)(v:Value)(k:Nat)(h:d≠some k):(a.put d v).tmps[k]? = a.tmps[k]? := by
 unfold Act.put;grind
theorem qH(l:List Oper):∀(a:Act)(vs:List Value),(nK a l vs).tmps.size=a.tmps.size/\(nK a l vs).defers=a.defers/\∀k,(∀o:Oper,o∈l->o.dst≠some k)->(nK a l vs).tmps[k]? = a.tmps[k]? := by
 induction l with
 |nil=>intro a vs;cases vs<;>exact⟨rfl,rfl,fun _ _=>rfl⟩
 |cons o l ih=>
   intro a vs;cases vs with
   |nil=>exact⟨rfl,rfl,fun _ _=>rfl⟩
   |cons v vs=>
     obtain⟨h1,h2,h3⟩:=ih (a.put o.dst v) vs;exact⟨h1.trans (qG _ _ _),h2.trans (se _ _ _),fun k hk=>(h3 k (fun o' kH=>hk o' (by grind))).trans (pD _ _ _ _ (hk o ah))⟩
theorem De(l:List Oper):∀(a:Act)(vs:List Value)(i:Nat)(o:Oper)(k:Nat)(v:Value),l[i]? = some o->o.dst=some k->vs[i]? = some v->k<a.tmps.size->(∀(j:Nat)(oj:Oper),l[j]? = some oj->oj.dst=some k->j=i)->(nK a l vs).tmps[k]? = some v:=by
 induction l with
 |nil=>simp
 |cons o' l ih=>
   intro a vs i o k v ho hk hv hb hu;cases vs with
   |nil=>cases hv
   |cons v' vs=>
     cases i with
     |zero=>
       cases ho;cases hv;refine((qH l (a.put _ v) vs).2.2 k (fun x hx e=>?_)).trans ?_
       ·obtain⟨j,hj⟩:=List.mem_iff_getElem?.1 hx;have:=hu (j+1) x (by grind) e;omega
       grind [Act.put]
     |succ i=>
       refine ih (a.put o'.dst v') vs i o k v (by grind) hk (by grind) (by grind [qG]) (fun j oj hj he=>?_);have:=hu (j+1) oj (by grind) he;omega
theorem Vs{C:World->Prop}{listed:Array Bool}{a:Act}{w:World}(h:jQ C Pd l a0 listed a w)(hr:Region.ready .any l.toArray listed=[])(hB:Hr l a0.tmps.size=true)(hA:((List.range l.length).all fun i=>match l[i]? with | some o=>o.after.toList.all (fun e=>decide (e.on<i)) && o.dst.isSome | none=>true)=true) :
 ∃vs:List Value,vs.length=l.length/\(∀i v,vs[i]? = some v->Pd i v w)/\a=nK a0 l vs:=by
 rw[List.all_eq_true]at hA;have hA':∀(i:Nat)(o:Oper),l[i]? = some o->(o.after.toList.all (fun e=>decide (e.on<i)))=true/\∃k,o.dst=some k:=fun i o ho=>by
  grind [Option.isSome_iff_exists]
 have qa:=Vr h hr (by
  grind)
 simp only[Hr,Bool.and_eq_true,List.all_eq_true]at hB;obtain⟨⟨_,h2⟩,h3⟩:=hB;have alV:∀(i j:Nat)(oi oj:Oper)(k:Nat),l[i]? = some oi->l[j]? = some oj->oi.dst=some k->oj.dst=some k->i=j:=fun i j oi oj k hi hj TP hkj=>by
  grind
 refine⟨l.map fun o=>(o.dst.bind (a.tmps[·]?)).getD undef,List.length_map _,fun i v hv=>?_,?_⟩
 ·grind
 ·obtain⟨k1,k2,k3⟩:=qH l a0 (l.map fun o=>(o.dst.bind (a.tmps[·]?)).getD undef);refine xO (by rw[k1,h.Xu]) (by rw[k2,h.dfr]) (fun k hk=>?_);rw[k1]at hk;by_cases he:∃o∈l,o.dst=some k
  ·obtain⟨o,ho,fw⟩:=he;obtain⟨i,hi⟩:=List.mem_iff_getElem?.1 ho;grind [De]
  grind [jQ.out]
end
end
section
open Go.RowKit Go.Maps Go.MapKept
def aI(c:UInt8)(k:Nat):Name:=⟨([c,46]++Lib.decDigits k).toArray⟩
def qI(w:World):Prop:=Lib.TabIs prog w "internal/strconv.uint64pow10" .u64 Lib.pow10Tab
theorem Mv:prog.globalNamed "internal/strconv.uint64pow10"=some 0:=by rfl
theorem qI.kept{w w':World}(h:qI w)(hb:w'.heap[(0:Nat)]? = w.heap[(0:Nat)]?):qI w':=by
 grind [qI,Lib.TabIs,World.var?,Mv]
theorem qI.lt{w:World}(h:qI w):0<w.heap.size:=by
 grind [qI,Lib.TabIs,World.var?,Mv]
def js(w:World)(o:ar)(gen:Nat):Prop:=gen<100\/(gen<=1048576/\qI w/\o 0=none)
theorem js.le{w:World}{o:ar}{gen:Nat}(h:js w o gen):gen<=1048576:=h.elim (fun h=>by omega) (fun h=>h.1)
theorem js.below{w w':World}{o:ar}{gen:Nat}(h:js w o gen)(hb:Below w.heap.size w w'):js w' o gen:=
 h.imp id fun⟨h1,h2,h3⟩=>⟨h1,h2.kept (hb.block _ h2.lt),h3⟩
theorem js.moved{S:Nat->Prop}{n pb db gen:Nat}{w w':World}{o o':ar}{d d':Dsk}{L':aC}(h:js w o gen)(hm:au S n pb db w o d w' o' d' L')(hs:∀x,¬S x):js w' o' gen:=
 h.imp id fun⟨h1,h2,h3⟩=>⟨h1,h2.kept (hm.block h2.lt h3 (hs _)),hm.free h2.lt h3⟩
theorem Df:∀(n k:Nat),k<10^(n+1)->(Lib.decDigits k).all iZ=true/\(Lib.decDigits k).length<=n+1:=by
 have hb:∀j,j<10->iZ (UInt8.ofNat (48+j))=true:=by decide
 intro n;induction n with
 |zero=>
   grind [Lib.decDigits]
 |succ n ih=>
   grind [Lib.decDigits]
theorem yE(c:UInt8)(k:Nat)(hk:k<100)(w:World) :
 Calls prog 18 #[.int .u8 (c.toNat:Int),.int .i64 (k:Int)] w fun e w'=>e=.returned (.string (aI c k))/\Below w.heap.size w w':=by
 have hit:=aa (fun W=>Any.strconv_Itoa_small (P:=prog) (ρ:=Tryz.uf) { Tryz.itoa with } k hk W);have Jr:¬(k:Int)<0:=by omega
 have TQ:(Lib.decDigits k).length<=2:=by
  grind [Lib.decDigits_one,Lib.decDigits_two]
 have HT:Hid ((⟨#[c,46]⟩:ByteArray)++⟨(Lib.decDigits k).toArray⟩=aI c k):=aa (by
  rfl)
 have hcv:Sem.run prog (convert 39 9 (.slice (some ⟨w.heap.size,0,none⟩) 2 2)) (w.alloc (.cells #[.int .u8 (c.toNat:Int),.int .u8 46] 5)).drew=.ok (.string ⟨#[c,46]⟩) (w.alloc (.cells #[.int .u8 (c.toNat:Int),.int .u8 46] 5)).drew:=
  run_convert_bytes_back (P:=prog) _ 39 9 5 ⟨w.heap.size,0,none⟩ 2 [c,46] Tryz.underlying39 Tryz.underlying5 Tryz.underlying9 (fun j hj=>by
   rw[bF,Nat.zero_add];match j,hj with
   |0,_=>simp
   |1,_=>simp)
 generalize Lib.decDigits k=dg at *;go_enter func18,ntmps18;go_wp2;go_region_with (go_at_call 51;refine(hit.o _).mono ?_;rintro e w'⟨rfl,rfl⟩)
 all_goals
  go_wp2;go_ret;exact⟨by rw[<- HT.o];rfl,ai.drew⟩
def EI(c:UInt8)(k:Nat)(dg:List UInt8)(full:Name):Nat->Value->World->Prop
 |0,v,_=>v=.int .u8 (c.toNat:Int)
 |1,v,W=>∃g,v=.slice (some ⟨g,0,none⟩) 2 2/\W.cell? ⟨g,0,none⟩=some (.int .u8 (c.toNat:Int))/\W.cell? ⟨g,1,none⟩=some (.int .u8 46)
 |2,v,_=>v=.string ⟨#[c,46]⟩
 |3,v,_=>v=.int .i64 (k:Int)
 |4,v,_=>v=.string ⟨dg.toArray⟩
 |_,v,_=>v=.string full
theorem Kt{c:UInt8}{k:Nat}{dg:List UInt8}{full:Name}(i:Nat)(v:Value)(w w':World)(hb:Below w.heap.size w w')(h:EI c k dg full i v w):EI c k dg full i v w':=by
 match i,h with
 |0,h=>exact h
 |1,⟨g,h1,h2,h3⟩=>exact⟨g,h1,(hb.cell (World.block_lt_of_cell? w _ h2)).trans h2,(hb.cell (World.block_lt_of_cell? w _ h3)).trans h3⟩
 |2,h=>exact h
 |3,h=>exact h
 |4,h=>exact h
 |_+5,h=>exact h
theorem Hs(w:World)(k:Nat)(os:Array Obj):Below w.heap.size w (Go.Sort.grow (w.drewN k) os):=
 ⟨rfl,rfl,rfl,ah,fun j hj=>by show(w.heap++os)[j]? = w.heap[j]?;grind⟩
theorem yF(c:UInt8)(k:Nat)(hk:k<=1048576)(w:World)(hp:qI w) :
 Calls prog 18 #[.int .u8 (c.toNat:Int),.int .i64 (k:Int)] w fun e w'=>e=.returned (.string (aI c k))/\Below w.heap.size w w':=by
 have hit:Hid (∀W,Below w.heap.size w W->Calls prog 51 #[.int .i64 (k:Int)] W fun e w'=>∃v,e=.returned v/\Below W.heap.size W w'/\v=.string ⟨(Lib.decDigits k).toArray⟩):=aa (fun W hW=>by
  refine(Any.strconv_Itoa (P:=prog) (ρ:=Tryz.uf) { Tryz.itoa with } (k:Int) ae ae W (hp.kept (hW.block _ hp.lt))).mono ?_;grind [Lib.itoa_nonneg,Hs])
 have Jr:¬(k:Int)<0:=by omega
 have HT:Hid ((⟨#[c,46]⟩:ByteArray)++⟨(Lib.decDigits k).toArray⟩=aI c k):=aa (by
  rfl)
 have hcv:Hid (∀(W:World)(g:Nat),W.cell? ⟨g,0,none⟩=some (.int .u8 (c.toNat:Int))->W.cell? ⟨g,1,none⟩=some (.int .u8 46)->Sem.run prog (convert 39 9 (.slice (some ⟨g,0,none⟩) 2 2)) W=.ok (.string ⟨#[c,46]⟩) W):=aa (fun W g h0 h1=>
  run_convert_bytes_back (P:=prog) _ 39 9 5 ⟨g,0,none⟩ 2 [c,46] Tryz.underlying39 Tryz.underlying5 Tryz.underlying9 (fun j hj=>by
   rw[bF,Nat.zero_add];match j,hj with
   |0,_=>exact h0
   |1,_=>exact h1))
 have TQ:(Lib.decDigits k).length<=7:=(Df 6 k ae).2;clear hp;generalize Lib.decDigits k=dg at *;generalize aI c k=full at *;go_enter func18,ntmps18;go_wp2;refine Al (Below w.heap.size w) (EI c k dg full) (by rfl) (by rfl) aj.drew (fun w1 w2 h1 h2=>h1.trans (h2.mono h1.size)) Kt ?_ ?_
 ·intro i o ho a W hC Ht;match i,ho with
  |0,ho=>
    cases ho;have h0:=Ht.old 0 rfl rfl;refine oB (v:=.int .u8 (c.toNat:Int)) (w':=W) ?_ aj rfl;go_simp
  |1,ho=>
    cases ho;obtain⟨v7,h7,rfl⟩:=Ht.get 0 rfl rfl rfl;refine oB (v:=.slice (some ⟨W.heap.size,0,none⟩) 2 2) (w':=W.alloc (.cells #[.int .u8 (c.toNat:Int),.int .u8 46] 5)) ?_ ai ⟨W.heap.size,rfl,ah,ah⟩;go_simp
  |2,ho=>
    cases ho;obtain⟨v8,h8,g,rfl,c0,c1⟩:=Ht.get 1 rfl rfl rfl;have hc:=hcv.o W g c0 c1;refine oB (v:=.string ⟨#[c,46]⟩) (w':=W) ?_ aj rfl;go_simp
  |3,ho=>
    cases ho;have h1:=Ht.old 1 rfl rfl;refine oB (v:=.int .i64 (k:Int)) (w':=W) ?_ aj rfl;go_simp
  |4,ho=>
    cases ho;obtain⟨v10,h10,rfl⟩:=Ht.get 3 rfl rfl rfl;refine N7 (f:=51) (args:=#[.int .i64 (k:Int)]) ?_ (hit.o W hC);go_simp
  |5,ho=>
    cases ho;obtain⟨v9,h9,rfl⟩:=Ht.get 2 rfl rfl rfl;obtain⟨v11,h11,rfl⟩:=Ht.get 4 rfl rfl rfl;refine oB (v:=.string full) (w':=W) ?_ aj rfl;rw[<- HT.o];go_simp;omega
  |6,ho=>
    cases ho;obtain⟨v12,Ej,rfl⟩:=Ht.get 5 rfl rfl rfl;refine oB (v:=.string full) (w':=W) ?_ aj rfl;go_simp
  |_+7,ho=>cases ho
 ·intro listed a W inv hr;have HB:=aa inv.cls;obtain⟨vs,hl,hp,rfl⟩:=Vs inv hr (by rfl) (by rfl);match vs,hl with
  | [v0,v1,v2,v3,v4,v5,v6],_=>
    obtain rfl:=hp 6 v6 rfl;clear hp hl hr inv;simp only[nK];go_simp;go_wp2;go_ret;exact⟨rfl,HB.o⟩
theorem dQ(c:UInt8)(k:Nat){w:World}{o:ar}(h:js w o k) :
 Calls prog 18 #[.int .u8 (c.toNat:Int),.int .i64 (k:Int)] w fun e w'=>e=.returned (.string (aI c k))/\Below w.heap.size w w':=by
 rcases h with h |⟨h1,h2,_⟩
 ·exact yE c k h w
 ·exact yF c k h1 w h2
theorem qJ(k:Nat)(hk:k<=1048576)(w:World):Calls prog 66 #[.int .i64 (k:Int)] w fun e w'=>e=.returned (.bool true)/\w=w':=by
 have h1:(k:Int)<=1048576:=by omega
 have h2:(k:Int) >= 0:=by omega
 go_enter func66,ntmps66;go_wp2;go_ret;simp
end
section
open Go.RowKit Go.Maps Go.MapKept
def bY(vs:List ck)(fl:Bool):gS:=.inl (bw (eJ 12) (vs.map ck.bytes),fl)
theorem qK(vs:List ck):gC 12 (vs.map ck.bytes):=fun r hr=>by
 obtain⟨e,_,rfl⟩:=List.mem_map.1 hr;exact e.eA
theorem fT(vs:List ck)(fl:Bool):(bY vs fl).need<=4*vs.length:=by
 unfold bY gS.need;dsimp only;rw[dS,List.length_map];have:cy (eJ 12) vs.length<=vs.length:=by
  unfold cy;have Ej:eJ 12=20:=by decide
  rw[Ej];omega
 omega
def eB(w:World)(v:Value)(vs:List ck):Prop:=
 ∃a cap,v=.slice a vs.length cap/\vs.length<=cap/\cap<=maxLen/\(vs.length=0\/∃b off,a=some ⟨b,off,none⟩/\∀i(h:i<vs.length),w.cell? ⟨b,off+i*3,none⟩=some (.int .u32 (vs[i].r.toNat:Int))/\w.cell? ⟨b,off+i*3+1,none⟩=some (.int .u32 (vs[i].l.toNat:Int))/\w.cell? ⟨b,off+i*3+2,none⟩=some (.int .u32 (vs[i].g.toNat:Int)))
theorem uz(c:UInt8)(hc:iZ c=true){k:Nat}(h:k<=1048576):bL (aI c k)=true:=by
 obtain⟨h1,h2⟩:=Df 6 k ae;unfold bL aI;have hs:(ByteArray.mk ([c,46]++Lib.decDigits k).toArray).size=2+(Lib.decDigits k).length:=by
  show Array.size _=_;simp;omega
 rw[hs];simp only[List.cons_append,List.nil_append,List.all_cons,h1,hc,Bool.and_eq_true,decide_eq_true_eq];refine⟨⟨⟨trivial,af,trivial⟩,ae⟩,ae⟩
theorem rA(c:UInt8)(hc:c≠116)(k:Nat):ownName (aI c k)=false:=by
 unfold ownName aI Zx Lib.hasPrefix;simp[List.isPrefixOf];intro h;exact absurd h.symm hc
theorem ir{c c':UInt8}(hc:c≠c')(k k':Nat):aI c k≠aI c' k':=by
 unfold aI;intro h;have h1:=congrArg (fun x:ByteArray=>x.data.toList) h;simp only[List.cons_append,List.cons.injEq]at h1;exact hc h1.1
theorem bo(c:UInt8)(hc:c≠116)(k j:Nat):aI c k≠dx j:=fun e=>by
 have h1:=rA c hc k;rw[e,rz]at h1;cases h1
noncomputable def fP(L:aC)(gen:Nat)(es:List aH)(vs:List ck):aC:=
 aS (aS (aS L (aI 101 gen) (aw (aJ false es) true)) (aI 114 gen) (aw (aJ true es) true)) (aI 118 gen) (bY vs true)
def EJ(gen:Nat)(x:Name):Prop:=x=aI 101 gen\/x=aI 114 gen\/x=aI 118 gen\/∃k,k<128/\x=dx k
def R5(n pb db:Nat)(w:World)(o:ar)(d:Dsk)(L:aC)(gen:Nat)(es:List aH)(vs:List ck)(e:Ending)(w':World):Prop:=
 ∃c d' o' L',e=.returned (.int .i64 ((c:Nat):Int))/\au (fun _=>False) n pb db w o d w' o' d' L'/\(∀x,¬EJ gen x->aA L' x=aA L x)/\((c=0/\L'=fP L gen es vs)\/jq d d' (need L+20*es.length+4*vs.length) c)
section
variable {w w':World} {pb db n:Nat} {name:Name} {o o':ar} {d d':Dsk} {L L':aC}
theorem sf(HW:aP){m:Nat}(yD:dX m)(h:aQ w pb db n o d L)(hn:8<=n){es:List aH}{fl:Bool}{raw:Name}{gen:Nat}(hg:js w o gen)(hL:aA L raw=some (aw es fl))(Ch:ownName raw=false)(hm:es.length<=m)(he:aA L (aI 101 gen)=none)(hr:aA L (aI 114 gen)=none)(hv:aA L (aI 118 gen)=none)(Bp:∀k,aA L (dx k)=none){v:Value}{vs:List ck}(hvs:eB w v vs)(mj:∀x,v.ownBlock=some x->o x=none)(YL:vs.length<65535) :
 Calls prog 45 #[ptrTo pb,.string raw,.int .i64 (gen:Int),v] w (R5 n pb db w o d L gen es vs):=by
 have Zz:raw≠aI 101 gen:=fun e=>by rw[e,he]at hL;cases hL
 have pq:raw≠aI 114 gen:=fun e=>by rw[e,hr]at hL;cases hL
 have Ku:=aa (qJ gen hg.le);have ZA:=aa (fun W o'(hW:js W o' gen)=>dQ 101 gen hW);have ZB:=aa (fun W o'(hW:js W o' gen)=>dQ 114 gen hW);have ZC:=aa (fun W o'(hW:js W o' gen)=>dQ 118 gen hW);have hs1:Hid (∀W o' d',aQ W pb db n o' d' L->Calls prog 77 #[ptrTo pb,.string raw,.string (aI 101 gen),.int .i64 0] W (oA (fun _=>False) n pb db W o' d' L (aI 101 gen) (aJ false es) es.length)):=aa (fun W o' d' hW=>
  Dd (by':=false) HW yD hW hn hL Zz Ch (rA 101 af gen) (uz 101 af hg.le) he Bp hm)
 obtain⟨L1,Ms⟩:∃L1,L1=aS L (aI 101 gen) (aw (aJ false es) true):=⟨_,rfl⟩;have Xv:aA L1 raw=some (aw es fl):=by rw[Ms,ay,if_neg Zz,hL]
 have hr1:aA L1 (aI 114 gen)=none:=by rw[Ms,ay,if_neg (ir af _ _),hr]
 have adL:∀k,aA L1 (dx k)=none:=fun k=>by rw[Ms,ay,if_neg (fun e=>bo 101 af gen k e.symm),Bp]
 have hs2:Hid (∀W o' d',aQ W pb db n o' d' L1->Calls prog 77 #[ptrTo pb,.string raw,.string (aI 114 gen),.int .i64 1] W (oA (fun _=>False) n pb db W o' d' L1 (aI 114 gen) (aJ true es) es.length)):=aa (fun W o' d' hW=>
  Dd (by':=true) HW yD hW hn Xv pq Ch (rA 114 af gen) (uz 114 af hg.le) hr1 adL hm)
 obtain⟨L2,hL2⟩:∃L2,L2=aS L1 (aI 114 gen) (aw (aJ true es) true):=⟨_,rfl⟩;have hv2:aA L2 (aI 118 gen)=none:=by rw[hL2,ay,if_neg (ir af _ _),Ms,ay,if_neg (ir af _ _),hv]
 have Vt:=uz 118 af hg.le;have Kv:=aa hg;have mJ:Hid (∀W o' d',aQ W pb db n o' d' L2->Calls prog 71 #[ptrTo pb,.string (aI 118 gen)] W (fL n pb db W o' d' L2 (aI 118 gen))):=aa (fun W o' d' hW=>ku hW _ (b9 Vt));have oq:Hid (∀d':Dsk,cY d' L2 (aI 118 gen)=if d'.tick.dead=true then 6 else 0):=aa (fun d'=>by
  unfold cY;rw[Vt,hv2];rfl)
 have pP:Hid (∀W o' d' L',aQ W pb db n o' d' L'->Calls prog 67 #[ptrTo pb,.string (aI 118 gen),.int .i64 12] W (dU W pb (aI 118 gen) 12 (cN d' (aI 118 gen)))):=aa (fun W o' d' L' hW=>dV (sz:=12) hW _ (b9 Vt) af af);have kZ:Hid (∀W o' d' sb rs,aQ W pb db n o' d' (aS L2 (aI 118 gen) (bY rs false))->aD W sb pb (aI 118 gen) 12->o' sb=none->rs.length<65535->∀rv(x:ck),Rd W rv x.bytes->(∀b,rv.ownBlock=some b->o' b=none) ->
  Calls prog 72 #[ptrTo sb,rv] W (jk (fun _=>False) n pb db W o' d' (aS L2 (aI 118 gen) (bY rs false)) (aS L2 (aI 118 gen) (bY (rs++[x]) false)))):=aa (fun W o' d' sb rs hW hst kH hl rv x hr hro=>by
  have:=jY HW hW hst kH af af (by rw[ay,if_pos rfl];rfl) (qK rs) (by rw[List.length_map];exact hl) hr x.eA hro;rw[iO]at this;unfold bY at this ⊢;rw[List.map_append];exact this)
 have LZ:Hid (∀W o' d',aQ W pb db n o' d' (aS L2 (aI 118 gen) (bY vs false))->Calls prog 79 #[ptrTo pb,.string (aI 118 gen)] W (jk (fun _=>False) n pb db W o' d' (aS L2 (aI 118 gen) (bY vs false)) (aS L2 (aI 118 gen) (bY vs true)))):=aa (fun W o' d' hW=>by
  have:=pB HW hW (name:=aI 118 gen) (ps:=bw (eJ 12) (vs.map ck.bytes)) (fl:=false) (by rw[ay,if_pos rfl];rfl);rw[iO]at this;exact this)
 have HK1:Hid ((L1.map (·.1)).Nodup):=aa (by rw[Ms];exact cC h.keys);have HK2:Hid ((L2.map (·.1)).Nodup):=aa (by rw[hL2,Ms];exact cC (cC h.keys));have F9:Hid (need L1<=need L+4*es.length):=aa (by
  have h1:=cM L (aI 101 gen) (aw (aJ false es) true);have h2:=cE (aJ false es) true;have h3:=cF false es;rw[Ms];omega)
 have T3:Hid (∀rs:List ck,rs.length<=vs.length->need (aS L2 (aI 118 gen) (bY rs false))<=need L+20*es.length+4*vs.length):=aa (fun rs hrs=>by
  have h1:=cM L1 (aI 114 gen) (aw (aJ true es) true);have h2:=cE (aJ true es) true;have h3:=cF true es;have h4:=cM L2 (aI 118 gen) (bY rs false);have h5:=fT rs false;have h6:=F9.o;rw[<- hL2]at h1;omega)
 have C0:Hid (∀x,¬EJ gen x->aA L1 x=aA L x):=aa (fun x hx=>by rw[Ms,ay,if_neg (fun e=>hx (.inl e))]);have pZ:Hid (∀x,¬EJ gen x->aA L2 x=aA L x):=aa (fun x hx=>by rw[hL2,ay,if_neg (fun e=>hx (.inr (.inl e))),C0.o x hx]);have ZE:Hid (fP L gen es vs=aS L2 (aI 118 gen) (bY vs true)):=aa (by unfold fP;rw[hL2,Ms]);have sO:Hid (∀x,¬EJ gen x->¬gV (aI 101 gen) x/\¬gV (aI 114 gen) x/\x≠aI 118 gen):=aa (fun x hx=>⟨fun e=>hx (e.imp id (fun h=>.inr (.inr h))),fun e=>hx (.inr (e.imp id .inr)),fun e=>hx (.inr (.inr (.inl e)))⟩);have ai2:Hid (∀x,aA L1 x=aA (aS L (aI 101 gen) (aw (aJ false es) true)) x):=aa (fun x=>by rw[Ms]);have ai3:Hid (∀x,aA L2 x=aA (aS L1 (aI 114 gen) (aw (aJ true es) true)) x):=aa (fun x=>by rw[hL2]);have H:=aa h;have HVS:=aa hvs;have vI:=aa mj;obtain⟨va,vc,rfl,ao8,ai4,-⟩:=hvs;unfold maxLen at ai4;have hvw:Hid (∀(x:ck)W,Calls prog 78 #[.agg #[.int .u32 (x.r.toNat:Int),.int .u32 (x.l.toNat:Int),.int .u32 (x.g.toNat:Int)]] W (iY W x.bytes)):=aa (fun x W=>Eh x W);clear h hg hL Ch hm he hr hv Bp mj Zz pq Xv hr1 adL hv2 Vt Ms hL2;unfold ptrTo at *;generalize aI 101 gen=nE at *;generalize aI 114 gen=nR at *;generalize aI 118 gen=nV at *;go_enter func45,ntmps45;go_wp2_with fail;refine(Ku.o _).mono ?_;rintro e w'⟨rfl,rfl⟩;go_wp2_with fail;refine(ZA.o _ o Kv.o).mono ?_;rintro e w1⟨rfl,hb1⟩;have cQ:=aa hb1;clear hb1;go_wp2_with fail;refine(hs1.o w1 o d (H.o.below cQ.o)).mono ?_;rintro e w2⟨c2,d2,o2,L2',rfl,cR,adM,hc2⟩;have eT:=aa ((au.aW H.o cQ.o).trans cR (fun _ _ h=>h));have N4:=aa adM;clear cR adM;rcases hc2 with⟨rfl,hl2⟩| p7
 ·have JQ:Hid (au (fun _=>False) n pb db w o d w2 o2 d2 L1):=aa (eT.o.congr HK1.o (fun x=>(ai2.o x).trans (hl2 x).symm));clear hl2 eT N4;go_wp2_with fail;refine(ZB.o _ o2 (Kv.o.moved JQ.o (fun _ h=>h))).mono ?_;rintro e w3⟨rfl,hb3⟩;have eD:=aa (JQ.o.below hb3);clear hb3;go_wp2_with fail;refine(hs2.o w3 o2 d2 eD.o.aY).mono ?_;rintro e w4⟨c4,d4,o4,L4',rfl,eV,Cf,ij⟩;have gl:=aa (eD.o.trans eV (fun _ _ h=>h));have N5:=aa Cf;clear eV Cf;rcases ij with⟨rfl,hl4⟩| yo
  ·have adN:Hid (au (fun _=>False) n pb db w o d w4 o4 d4 L2):=aa (gl.o.congr HK2.o (fun x=>(ai3.o x).trans (hl4 x).symm));clear hl4 gl N5;go_wp2_with fail;refine(ZC.o _ o4 (Kv.o.moved adN.o (fun _ h=>h))).mono ?_;rintro e w5⟨rfl,oN⟩;have lx:=aa (adN.o.below oN);clear oN;have hcc:=aa (mJ.o w5 o4 d4 lx.o.aY);unfold fL at hcc;rw[oq.o d4]at hcc;cases Ph:d4.tick.dead with
   |true=>
     rw[Ph,if_pos rfl]at hcc;have P7:=aa Ph;clear Ph;go_wp2_with fail;refine hcc.o.mono ?_;rintro e w6⟨d6,o6,rfl,nP,-,hdd⟩;rw[if_neg af]at nP;have xN:=aa (lx.o.trans nP (fun _ _ h=>h));have uR:=aa (hdd (by first | exact P7.o | trivial));clear nP hdd hcc;go_wp2;go_ret;exact⟨6,d6,o6,L2,rfl,xN.o,pZ.o,.inr (.inr ⟨rfl,uR.o⟩)⟩
   |false=>
     rw[Ph,if_neg ah]at hcc;clear Ph;go_wp2_with fail;refine hcc.o.mono ?_;rintro e w6⟨d6,o6,rfl,nP,adO,-⟩;simp only[if_true]at nP;have iT:aA (aS L2 nV (.inl (([]:List Pg),true))) nV=some (.inl (([]:List Pg),true)):=by rw[ay,if_pos rfl]
     have JI:cN d6 nV=0:=by
      rw[gQ nP.aY iT,adO (by trivial)];rfl
     have RO:au (fun _=>False) n pb db w5 o4 d4 w6 o6 d6 (aS L2 nV (bY [] false)):=
      ⟨(nP.aY.weaken iT).congr (cC HK2.o) (fun x=>by
        show aA (aS L2 nV (.inl (([]:List Pg),false))) x=_;rw[ay,ay,ay];by_cases e:x=nV
        ·rw[if_pos e,if_pos e]
        ·rw[if_neg e,if_neg e,if_neg e]),nP.turn,nP.grow,nP.on⟩
     have xN:=aa (lx.o.trans RO (fun _ _ h=>h));have hco:=aa (pP.o w6 o6 d6 _ nP.aY);rw[JI]at hco;have HF6:=aa (fun x(hx:w6.heap.size<=x)=>nP.aY.fresh hx);clear nP RO adO JI iT hcc;go_wp2_with fail;refine hco.o.mono ?_;rintro e w7⟨v7,rfl,LX,N8,-⟩;obtain⟨sb,rfl,R6,BW⟩:=N8 rfl;have Bk:=aa (xN.o.below LX);have RR:=aa R6;have ZF:Hid (o6 sb=none):=aa (HF6.o _ BW);clear LX R6 N8 hco;unfold ptrTo;generalize hV:vs.length=V at *;have HV:=aa hV;clear hV;go_wp2;go_loopw [60] (fun i wr=>∃(k:Nat)(d':Dsk)(o':ar),k<=V/\i=.int .i64 (k:Int)/\au (fun _=>False) n pb db w o d wr o' d' (aS L2 nV (bY (vs.take k) false))/\aD wr sb pb nV 12/\o' sb=none) (fun i _=>V-(intOf i).toNat)
     case atStart=>exact⟨0,d6,o6,Nat.zero_le _,rfl,by simpa using Bk.o,RR.o,ZF.o⟩
     case round=>
      obtain⟨k,d8,o8,hk,rfl,Mq,Vu,ZG⟩:=hrel;have rT:=aa Mq;have ai5:=aa Vu;have ZH:=aa ZG;have apb:=Vu.lt;by_cases hlt:k<V
      ·have hkv:k<vs.length:=by rw[HV.o];exact hlt
       obtain⟨a',c',BU,-,-,hcs⟩:=HVS.o;cases BU;obtain hcs |⟨b,off,rfl,hcs⟩:=hcs
       ·omega
       obtain⟨g0,g1,g2⟩:=hcs k hkv;have e0:=Mq.cell g0 (vI.o b rfl) (fun h=>h);have e1:=Mq.cell g1 (vI.o b rfl) (fun h=>h);have e2:=Mq.cell g2 (vI.o b rfl) (fun h=>h);have hbl:b<wr.heap.size:=World.block_lt_of_cell? _ _ e0;have vU:Hid (vs.take k++[vs[k]]=vs.take (k+1)):=aa (by rw[List.take_succ_eq_append_getElem hkv]);have Jz:(vs.take k).length<65535:=by rw[List.length_take,HV.o];omega
       have R7:=aa (fun W=>hvw.o vs[k] W);have R9:=aa (fun W rv(hW:aQ W pb db n o8 d8 (aS L2 nV (bY (vs.take k) false)))(hst:aD W sb pb nV 12)(hr:Rd W rv vs[k].bytes)(hro:∀b,rv.ownBlock=some b->o8 b=none)=>kZ.o W o8 d8 sb (vs.take k) hW hst ZH.o Jz rv vs[k] hr hro);have qa:Hid (∀ob:Obj,au (fun _=>False) n pb db w o d (wr.alloc ob) o8 d8 (aS L2 nV (bY (vs.take k) false))):=aa (fun ob=>rT.o.alloc ob);have ai6:Hid ((vs.take k).length<=vs.length):=aa (by rw[List.length_take];omega);clear g0 g1 g2 hcs Mq Vu ZG;generalize vs[k]=y at *;go_wp2_with fail;refine(R7.o _).mono ?_;rintro e w9⟨v9,rfl,ho9,N9⟩;have Mw:=aa ((qa.o _).below N9);have ZI:aD w9 sb pb nV 12:=(ai5.o.below ai).below N9;have adP:∀b,v9.ownBlock=some b->o8 b=none:=fun b hb=>rT.o.aY.fresh (Nat.le_trans ah (aG ho9 b hb));have Ua:=aa (R9.o w9 v9 Mw.o.aY ZI (fD ho9) adP);have adQ:=aa ZI;clear ho9 N9 ZI adP e0 e1 e2 R9 R7;go_wp2_with fail;refine Ua.o.mono ?_;rintro e Vv⟨c10,d10,o10,rfl,Am,ZJ⟩;have adR:Hid (aD Vv sb pb nV 12):=aa (adQ.o.moved Am ZH.o (fun h=>h));have adS:Hid (o10 sb=none):=aa (Am.free adQ.o.lt ZH.o);by_cases hc:c10=0
       ·subst hc;rw[if_pos rfl,vU.o]at Am;have Sa:=aa (Mw.o.trans Am (fun _ _ h=>h));clear Am ZJ Ua;go_wp2;go_roundw
        case rel=>exact⟨k+1,d10,o10,ae,by go_num,Sa.o,adR.o,adS.o⟩
        case measure=>simp[intOf];omega
       ·have hc':¬(c10:Int)=0:=by omega
        rw[if_neg hc]at Am;have Sa:=aa (Mw.o.trans Am (fun _ _ h=>h));have ai8:Hid (jq d d10 (need L+20*es.length+4*vs.length) c10):=aa (((ZJ.resolve_left hc).num (T3.o (vs.take k) ai6.o)).later Mw.o.on.bC);clear Am ZJ Ua hc;go_wp2;go_ret;exact⟨c10,d10,o10,_,rfl,Sa.o,fun x hx=>by rw[ay,if_neg (sO.o x hx).2.2,pZ.o x hx],.inr ai8.o⟩
      ·have htk:vs.take k=vs:=List.take_of_length_le (by rw[HV.o];omega);rw[htk]at rT;have Gw:=aa (LZ.o wr o8 d8 rT.o.aY);clear htk Mq Vu ZG;go_wp2_with fail;refine Gw.o.mono ?_;rintro e w9⟨c9,d9,o9,rfl,WM,he9⟩;have Mw:=aa (rT.o.trans WM (fun _ _ h=>h));have HE9:=aa he9;clear WM he9 Gw;go_wp2;go_ret;refine⟨c9,d9,o9,_,rfl,Mw.o,fun x hx=>?_,?_⟩
       ·split
        ·rw[ay,if_neg (sO.o x hx).2.2,pZ.o x hx]
        ·rw[ay,if_neg (sO.o x hx).2.2,pZ.o x hx]
       ·rcases HE9.o with h | h
        ·subst h;exact .inl ⟨rfl,by rw[if_pos rfl];exact ZE.o.symm⟩
        ·exact .inr (by rw[HV.o];exact(h.num (T3.o vs (by rw[HV.o];exact Nat.le_refl _))).later rT.o.on.bC)
  ·have tU:¬(c4:Int)=0:=by have:=yo.ne;omega
   have BL:Hid (jq d d4 (need L+20*es.length+4*vs.length) c4):=aa ((yo.mono (by have:=F9.o;omega)).later eD.o.on.bC);clear yo;go_wp2;go_ret;exact⟨c4,d4,o4,L4',rfl,gl.o,fun x hx=>(N5.o x (sO.o x hx).2.1).trans (C0.o x hx),.inr BL.o⟩
 ·have J9:¬(c2:Int)=0:=by have:=p7.ne;omega
  have GM:Hid (jq d d2 (need L+20*es.length+4*vs.length) c2):=aa (p7.mono ae);clear p7;go_wp2;go_ret;exact⟨c2,d2,o2,L2',rfl,eT.o,fun x hx=>N4.o x (sO.o x hx).1,.inr GM.o⟩
end
end
section
open Go.RowKit Go.Maps Go.MapKept
def bS(w:World)(gb:Nat)(x0 x1 x2 x3:Value):Prop:=∃t,w.heap[gb]? = some (.cells #[x0,x1,x2,x3] t)
section
variable {S:Nat->Prop} {w w':World} {pb db n gb:Nat} {name:Name} {o o':ar} {d d':Dsk} {L L':aC} {x0 x1 x2 x3:Value}
theorem bS.kept(h:bS w gb x0 x1 x2 x3)(hb:w'.heap[gb]? = w.heap[gb]?):bS w' gb x0 x1 x2 x3:=by
 obtain⟨t,h⟩:=h;exact⟨t,hb.trans h⟩
theorem bS.lt(h:bS w gb x0 x1 x2 x3):gb<w.heap.size:=by
 obtain⟨t,h⟩:=h;exact(Array.getElem?_eq_some_iff.1 h).1
theorem bS.below(h:bS w gb x0 x1 x2 x3)(hb:Below w.heap.size w w'):bS w' gb x0 x1 x2 x3:=h.kept (hb.block _ h.lt)
theorem bS.moved(h:bS w gb x0 x1 x2 x3)(hm:au S n pb db w o d w' o' d' L')(ho:o gb=none)(hs:¬S gb):bS w' gb x0 x1 x2 x3:=h.kept (hm.block h.lt ho hs)
theorem bS.cells(h:bS w gb x0 x1 x2 x3):w.cell? ⟨gb,0,none⟩=some x0/\w.cell? ⟨gb,1,none⟩=some x1/\w.cell? ⟨gb,2,none⟩=some x2/\w.cell? ⟨gb,3,none⟩=some x3/\∀j,w.frozen? ⟨gb,j,none⟩=false:=by
 obtain⟨t,h⟩:=h;refine⟨?_,?_,?_,?_,fun j=>aO h j⟩<;>rw[aq h]<;>rfl
theorem bS.ai9(h:bS w gb x0 x1 x2 x3)(v:Value):bS (w.setCell ⟨gb,0,none⟩ v) gb v x1 x2 x3:=by
 obtain⟨t,h⟩:=h;exact⟨t,aT h 0 v⟩
theorem bS.aja(h:bS w gb x0 x1 x2 x3)(v:Value):bS (w.setCell ⟨gb,1,none⟩ v) gb x0 v x2 x3:=by
 obtain⟨t,h⟩:=h;exact⟨t,aT h 1 v⟩
theorem bS.ajb(h:bS w gb x0 x1 x2 x3)(v:Value):bS (w.setCell ⟨gb,2,none⟩ v) gb x0 x1 v x3:=by
 obtain⟨t,h⟩:=h;exact⟨t,aT h 2 v⟩
theorem bS.ajc(h:bS w gb x0 x1 x2 x3)(v:Value):bS (w.setCell ⟨gb,3,none⟩ v) gb x0 x1 x2 v:=by
 obtain⟨t,h⟩:=h;exact⟨t,aT h 3 v⟩
structure cW(w:World)(o:ar)(gb pb gen N:Nat)(ob ib vb:Nat):Prop where
 raw:bS w gb (ptrTo ob) (ptrTo ib) (ptrTo vb) (.int .i64 (N:Int))
 out:aD w ob pb (aI 101 gen) 20
 p9:aD w ib pb (aI 114 gen) 20
 qL:aD w vb pb (aI 118 gen) 12
 Vw:o gb=none
 PF:o ob=none
 Ub:o ib=none
 Jm:o vb=none
theorem cW.moved{gen N ob ib vb:Nat}(h:cW w o gb pb gen N ob ib vb)(hm:au (fun _=>False) n pb db w o d w' o' d' L'):cW w' o' gb pb gen N ob ib vb:=
 ⟨h.raw.moved hm h.Vw (fun h=>h),h.out.moved hm h.PF (fun h=>h),h.p9.moved hm h.Ub (fun h=>h),h.qL.moved hm h.Jm (fun h=>h),hm.free h.raw.lt h.Vw,hm.free h.out.lt h.PF,hm.free h.p9.lt h.Ub,hm.free h.qL.lt h.Jm⟩
theorem cW.below{gen N ob ib vb:Nat}(h:cW w o gb pb gen N ob ib vb)(hb:Below w.heap.size w w'):cW w' o gb pb gen N ob ib vb:=
 ⟨h.raw.below hb,h.out.below hb,h.p9.below hb,h.qL.below hb,h.Vw,h.PF,h.Ub,h.Jm⟩
theorem aD.lX{sb sz b j:Nat}{v:Value}(h:aD w sb pb name sz)(hne:sb≠b):aD (w.setCell ⟨b,j,none⟩ v) sb pb name sz:=h.kept (Below.heap_setCell _ _ _ _ hne)
def si(n pb db:Nat)(w:World)(o:ar)(d:Dsk)(L:aC)(gen N:Nat)(e:Ending)(w':World):Prop:=
 ∃v c d' o',e=.returned (.tuple #[v,.int .i64 ((c:Nat):Int)])/\au (fun _=>False) n pb db w o d w' o' d' L/\(c=0\/kJ d d' L c)/\(c=0->∃gb ob ib vb,v=ptrTo gb/\cW w' o' gb pb gen N ob ib vb)/\(c≠0->v=.pointer none)
theorem sW(h:aQ w pb db n o d L){ps:List Pg}{fl:Bool}(hL:aA L name=some (.inl (ps,fl))){c:Nat}(hc:cN d name=c)(h0:c≠0):c=6/\d.dead=true:=by
 rw[gQ h hL]at hc;split at hc
 ·exact⟨hc.symm,by assumption⟩
 ·exact absurd hc.symm h0
theorem sj(HW:aP)(h:aQ w pb db n o d L){gen:Nat}(hg:js w o gen){vs:List ck}{es1 Uc:List aH}{fl0 fl1 fl2:Bool}(hv:aA L (aI 118 gen)=some (bY vs fl0))(he:aA L (aI 101 gen)=some (aw es1 fl1))(hr:aA L (aI 114 gen)=some (aw Uc fl2)) :
 Calls prog 34 #[ptrTo pb,.int .i64 (gen:Int)] w (si n pb db w o d L gen vs.length):=by
 have Ku:=aa (qJ gen hg.le);have ZA:=aa (fun W o'(hW:js W o' gen)=>dQ 101 gen hW);have ZB:=aa (fun W o'(hW:js W o' gen)=>dQ 114 gen hW);have ZC:=aa (fun W o'(hW:js W o' gen)=>dQ 118 gen hW);have hoV:Hid (∀W o' d',aQ W pb db n o' d' L->Calls prog 67 #[ptrTo pb,.string (aI 118 gen),.int .i64 12] W (dU W pb (aI 118 gen) 12 (cN d' (aI 118 gen)))/\∀c,cN d' (aI 118 gen)=c->c≠0->c=6/\d'.dead=true):=aa (fun W o' d' hW=>⟨dV (sz:=12) hW _ (b9 (h.ok hv)) af af,fun c h1 h2=>sW hW hv h1 h2⟩);have hoE:Hid (∀W o' d',aQ W pb db n o' d' L->Calls prog 67 #[ptrTo pb,.string (aI 101 gen),.int .i64 20] W (dU W pb (aI 101 gen) 20 (cN d' (aI 101 gen)))/\∀c,cN d' (aI 101 gen)=c->c≠0->c=6/\d'.dead=true):=aa (fun W o' d' hW=>⟨dV (sz:=20) hW _ (b9 (h.ok he)) af af,fun c h1 h2=>sW hW he h1 h2⟩);have hoR:Hid (∀W o' d',aQ W pb db n o' d' L->Calls prog 67 #[ptrTo pb,.string (aI 114 gen),.int .i64 20] W (dU W pb (aI 114 gen) 20 (cN d' (aI 114 gen)))/\∀c,cN d' (aI 114 gen)=c->c≠0->c=6/\d'.dead=true):=aa (fun W o' d' hW=>⟨dV (sz:=20) hW _ (b9 (h.ok hr)) af af,fun c h1 h2=>sW hW hr h1 h2⟩);have hlen:Hid (∀W o' d' sb,aQ W pb db n o' d' L->aD W sb pb (aI 118 gen) 12->o' sb=none->Calls prog 59 #[ptrTo sb] W (CW n pb db W o' d' L (CX vs.length))):=aa (fun W o' d' sb hW hst kH=>by
  have:=jX HW hW hst kH af af hv (qK vs);rw[List.length_map]at this;exact this)
 have H:=aa h;have Kv:=aa hg;clear h hg hv he hr;unfold ptrTo at *;generalize vs.length=N at *;go_enter func34,ntmps34;go_wp2_with fail;refine(Ku.o _).mono ?_;rintro e w'⟨rfl,rfl⟩;have HG0:Hid (bS (w.alloc (.cells #[.pointer none,.pointer none,.pointer none,.int .i64 0] 121)) w.heap.size (.pointer none) (.pointer none) (.pointer none) (.int .i64 0)):=aa ⟨_,heap_alloc_new w _⟩;have kE:Hid (Below w.heap.size w (w.alloc (.cells #[.pointer none,.pointer none,.pointer none,.int .i64 0] 121))):=aa ai;have HOG:Hid (o w.heap.size=none):=aa (H.o.fresh (Nat.le_refl _));go_wp2_with fail;generalize w.alloc (.cells #[.pointer none,.pointer none,.pointer none,.int .i64 0] 121)=W0 at *;refine(ZC.o _ o (Kv.o.below kE.o)).mono ?_;rintro e w1⟨rfl,hb1⟩;have Je:=aa (HG0.o.below hb1);have cQ:Hid (Below w.heap.size w w1):=aa (kE.o.trans (hb1.mono kE.o.size));clear hb1;go_wp2_with fail;obtain⟨hcV,hbV⟩:=hoV.o w1 o d (H.o.below cQ.o);have HCV:=aa hcV;have HBV:=aa hbV;clear hcV hbV;generalize jW:cN d (aI 118 gen)=c2 at *;have pO:=aa jW;clear jW;refine HCV.o.mono ?_;rintro e w2⟨v2,rfl,hb2,jl,Sb⟩;have yl:=aa (Je.o.below hb2);have cX:Hid (Below w.heap.size w w2):=aa (cQ.o.trans (hb2.mono cQ.o.size));have ahc:w.heap.size<w1.heap.size:=Je.o.lt;have JQ:Hid (∀v,au (fun _=>False) n pb db w o d (w2.setCell ⟨w.heap.size,2,none⟩ v) o d L):=aa (fun v=>(au.aW H.o cX.o).setCell _ _ HOG.o (.inr (Nat.le_refl _)));clear hb2;obtain⟨g0,g1,g2,g3,gz⟩:=yl.o.cells;have gz2:=gz 2;clear gz;by_cases hc2:c2=0
 ·subst hc2;obtain⟨vb,rfl,oy,hvb⟩:=jl rfl;have pq:vb≠w.heap.size:=by omega
  have Fy:Hid (aD (w2.setCell ⟨w.heap.size,2,none⟩ (.pointer (some ⟨vb,0,none⟩))) vb pb (aI 118 gen) 12):=aa (oy.lX pq);have Ud:Hid (bS (w2.setCell ⟨w.heap.size,2,none⟩ (.pointer (some ⟨vb,0,none⟩))) w.heap.size (.pointer none) (.pointer none) (.pointer (some ⟨vb,0,none⟩)) (.int .i64 0)):=aa (yl.o.ajb _);have eD:=aa (JQ.o (.pointer (some ⟨vb,0,none⟩)));have HOV:Hid (o vb=none):=aa (H.o.fresh ae);clear jl Sb oy;unfold ptrTo;go_wp2_with fail;generalize w2.setCell ⟨w.heap.size,2,none⟩ (.pointer (some ⟨vb,0,none⟩))=w3 at *;have vB:=aa (hlen.o w3 o d vb eD.o.aY Fy.o HOV.o);refine vB.o.mono ?_;rintro e w4⟨c4,d4,o4,⟨x4,rfl,Xw⟩,eV,yo⟩;have FD:=aa Xw;have BL:=aa yo;have gl:=aa (eD.o.trans eV (fun _ _ h=>h));have zH:=aa (Ud.o.moved eV HOG.o (fun h=>h));have JV:=aa (Fy.o.moved eV HOV.o (fun h=>h));have Vx:Hid (o4 w.heap.size=none):=aa (eV.free Ud.o.lt HOG.o);have Vy:Hid (o4 vb=none):=aa (eV.free Fy.o.lt HOV.o);clear eV yo Xw vB g0 g1 g2 g3 gz2;obtain⟨g0,g1,g2,g3,gz⟩:=zH.o.cells;have gz3:=gz 3;clear gz;have lx:Hid (au (fun _=>False) n pb db w o d (w4.setCell ⟨w.heap.size,3,none⟩ (.int .i64 (x4:Int))) o4 d4 L):=aa (gl.o.setCell _ _ Vx.o (.inr (Nat.le_refl _)));have HG5:Hid (bS (w4.setCell ⟨w.heap.size,3,none⟩ (.int .i64 (x4:Int))) w.heap.size (.pointer none) (.pointer none) (.pointer (some ⟨vb,0,none⟩)) (.int .i64 (x4:Int))):=aa (zH.o.ajc _);have Ny:Hid (aD (w4.setCell ⟨w.heap.size,3,none⟩ (.int .i64 (x4:Int))) vb pb (aI 118 gen) 12):=aa (JV.o.lX pq);by_cases ij:c4=0
  ·subst ij;have HX:=aa (FD.o rfl);go_wp2_with fail;generalize w4.setCell ⟨w.heap.size,3,none⟩ (.int .i64 (x4:Int))=w5 at *;clear g0 g1 g2 g3 gz3;refine(ZA.o _ o4 (Kv.o.moved lx.o (fun _ h=>h))).mono ?_;rintro e w6⟨rfl,FA⟩;have xN:=aa (lx.o.below FA);have HG6:=aa (HG5.o.below FA);have HV6:=aa (Ny.o.below FA);clear FA;go_wp2_with fail;obtain⟨hcE,hbE⟩:=hoE.o w6 o4 d4 xN.o.aY;have HCE:=aa hcE;have Rf:=aa hbE;clear hcE hbE;generalize hp7:cN d4 (aI 101 gen)=c7 at *;clear hp7;refine HCE.o.mono ?_;rintro e w7⟨v7,rfl,LX,N8,Sc⟩;have Bk:=aa (xN.o.below LX);have HG7:=aa (HG6.o.below LX);have HV7:=aa (HV6.o.below LX);have T7:w.heap.size<w6.heap.size:=HG6.o.lt;clear LX;obtain⟨g0,g1,g2,g3,gz⟩:=HG7.o.cells;have gz0:=gz 0;clear gz;have adU:Hid (∀v,au (fun _=>False) n pb db w o d (w7.setCell ⟨w.heap.size,0,none⟩ v) o4 d4 L):=aa (fun v=>Bk.o.setCell _ _ Vx.o (.inr (Nat.le_refl _)));by_cases Ni:c7=0
   ·subst Ni;obtain⟨ob,rfl,R6,Ca⟩:=N8 rfl;have adV:ob≠w.heap.size:=by omega
    have HO8:Hid (aD (w7.setCell ⟨w.heap.size,0,none⟩ (.pointer (some ⟨ob,0,none⟩))) ob pb (aI 101 gen) 20):=aa (R6.lX adV);have Xo:Hid (aD (w7.setCell ⟨w.heap.size,0,none⟩ (.pointer (some ⟨ob,0,none⟩))) vb pb (aI 118 gen) 12):=aa (HV7.o.lX pq);have HG8:Hid (bS (w7.setCell ⟨w.heap.size,0,none⟩ (.pointer (some ⟨ob,0,none⟩))) w.heap.size (.pointer (some ⟨ob,0,none⟩)) (.pointer none) (.pointer (some ⟨vb,0,none⟩)) (.int .i64 (x4:Int))):=aa (HG7.o.ai9 _);have rT:=aa (adU.o (.pointer (some ⟨ob,0,none⟩)));have Vl:Hid (o4 ob=none):=aa (xN.o.aY.fresh Ca);clear N8 Sc R6;unfold ptrTo;go_wp2_with fail;generalize w7.setCell ⟨w.heap.size,0,none⟩ (.pointer (some ⟨ob,0,none⟩))=w8 at *;clear g0 g1 g2 g3 gz0;refine(ZB.o _ o4 (Kv.o.moved rT.o (fun _ h=>h))).mono ?_;rintro e w9⟨rfl,N9⟩;have Mw:=aa (rT.o.below N9);have HG9:=aa (HG8.o.below N9);have HV9:=aa (Xo.o.below N9);have HO9:=aa (HO8.o.below N9);clear N9;go_wp2_with fail;obtain⟨hcR,hbR⟩:=hoR.o w9 o4 d4 Mw.o.aY;have HCR:=aa hcR;have HBR:=aa hbR;clear hcR hbR;generalize ajh:cN d4 (aI 114 gen)=c10 at *;clear ajh;refine HCR.o.mono ?_;rintro e Vv⟨v10,rfl,Sd,Sg,Kw⟩;have Sa:=aa (Mw.o.below Sd);have adW:=aa (HG9.o.below Sd);have aji:=aa (HV9.o.below Sd);have ajj:=aa (HO9.o.below Sd);have hs9:w.heap.size<w9.heap.size:=HG9.o.lt;clear Sd;obtain⟨g0,g1,g2,g3,gz⟩:=adW.o.cells;have gz1:=gz 1;clear gz;have Xx:Hid (∀v,au (fun _=>False) n pb db w o d (Vv.setCell ⟨w.heap.size,1,none⟩ v) o4 d4 L):=aa (fun v=>Sa.o.setCell _ _ Vx.o (.inr (Nat.le_refl _)));by_cases Vz:c10=0
    ·subst Vz;obtain⟨ib,rfl,Xy,hib⟩:=Sg rfl;have adX:ib≠w.heap.size:=by omega
     have adY:=aa (Xy.lX (j:=1) (v:=.pointer (some ⟨ib,0,none⟩)) adX);have HOI:Hid (o4 ib=none):=aa (Mw.o.aY.fresh hib);clear Sg Kw Xy;unfold ptrTo;go_wp2;go_ret2;refine⟨_,0,d4,o4,rfl,Xx.o _,.inl rfl,fun _=>⟨w.heap.size,ob,ib,vb,rfl,⟨?_,ajj.o.lX adV,adY.o,aji.o.lX pq,Vx.o,Vl.o,HOI.o,Vy.o⟩⟩,fun h=>absurd rfl h⟩;rw[<- HX.o];exact adW.o.aja _
    ·obtain rfl:=Kw Vz;obtain⟨h6,hdd⟩:=HBR.o c10 rfl Vz;have uR:=aa hdd;subst h6;clear Sg Kw Vz hdd;go_wp2;go_ret2;exact⟨_,6,d4,o4,rfl,Xx.o _,.inr (.inr ⟨rfl,uR.o⟩),fun h=>absurd h af,fun _=>rfl⟩
   ·obtain rfl:=Sc Ni;obtain⟨h6,hdd⟩:=Rf.o c7 rfl Ni;have uR:=aa hdd;subst h6;clear N8 Sc Ni hdd;go_wp2;go_ret2;exact⟨_,6,d4,o4,rfl,adU.o _,.inr (.inr ⟨rfl,uR.o⟩),fun h=>absurd h af,fun _=>rfl⟩
  ·have tU:¬(c4:Int)=0:=by omega
   have QM:Hid (kJ d d4 L c4):=aa (BL.o.resolve_left ij);have Bh:=aa ij;clear ij;go_wp2;go_ret2;exact⟨_,c4,d4,o4,rfl,lx.o,.inr QM.o,fun h=>absurd h Bh.o,fun _=>rfl⟩
 ·obtain rfl:=Sb hc2;obtain⟨h6,hdd⟩:=HBV.o c2 rfl hc2;have uR:=aa hdd;subst h6;clear jl Sb hc2 hdd;go_wp2;go_ret2;exact⟨_,6,d,o,rfl,JQ.o _,.inr (.inr ⟨rfl,uR.o⟩),fun h=>absurd h af,fun _=>rfl⟩
end
end
section
open Go.RowKit Go.Maps Go.MapKept
section
variable {w w':World} {pb db n gb gen N ob ib vb:Nat} {name:Name} {o o':ar} {d d':Dsk} {L L':aC}
theorem Ci(hg:cW w o gb pb gen N ob ib vb):Calls prog 20 #[ptrTo gb] w fun e w'=>e=.returned (.int .i64 (N:Int))/\w=w':=by
 obtain⟨-,-,-,g3,-⟩:=hg.raw.cells;clear hg;unfold ptrTo;go_enter func20,ntmps20;go_wp2;go_ret;exact⟨rfl,rfl⟩
def qM(x:ck):Value:=.agg #[.int .u32 (x.r.toNat:Int),.int .u32 (x.l.toNat:Int),.int .u32 (x.g.toNat:Int)]
def ajl:ck:=⟨0,0,0⟩
def Sh(n pb db:Nat)(w:World)(o:ar)(d:Dsk)(L:aC)(x:ck)(e:Ending)(w':World):Prop:=
 ∃c d' o',e=.returned (.tuple #[qM (if c=0 then x else ajl),.int .i64 ((c:Nat):Int)])/\au (fun _=>False) n pb db w o d w' o' d' L/\(c=0\/kJ d d' L c)
theorem EK(HW:aP)(h:aQ w pb db n o d L)(hg:cW w o gb pb gen N ob ib vb){vs:List ck}{fl:Bool}(hL:aA L (aI 118 gen)=some (bY vs fl))(hN:N=vs.length)(v:Nat)(hv:v<vs.length)(hv':v<4294967296) :
 Calls prog 23 #[ptrTo gb,.int .u32 (v:Int)] w (Sh n pb db w o d L vs[v]):=by
 have iT:Hid (∀W,Below w.heap.size w W->Calls prog 57 #[ptrTo vb,.int .i64 (v:Int)] W (Eg n pb db W o d L vs[v].bytes)):=aa (fun W hW=>by
  have:=k9 HW (h.below hW) (hg.qL.below hW) hg.Jm af af hL (qK vs) (i:=v) (by rw[List.length_map];exact hv);rw[List.getElem_map]at this;exact this)
 obtain⟨-,-,g2,g3,-⟩:=hg.raw.cells;have hgl:=hg.raw.lt;have H:=aa h;have hlt:¬((v:Int) >= (N:Int)):=by omega
 generalize vs[v]=x at *;clear h hg hL hN hv;unfold ptrTo at *;have kE:Hid (Below w.heap.size w (w.alloc (.cells #[.int .u32 0,.int .u32 0,.int .u32 0] 55))):=aa ai;have mr:Hid ((w.alloc (.cells #[.int .u32 0,.int .u32 0,.int .u32 0] 55)).heap[w.heap.size]? = some (.cells #[.int .u32 0,.int .u32 0,.int .u32 0] 55)):=aa (heap_alloc_new w _);have Jn:Hid (o w.heap.size=none):=aa (H.o.fresh (Nat.le_refl _));go_enter func23,ntmps23;go_wp2_with fail;generalize w.alloc (.cells #[.int .u32 0,.int .u32 0,.int .u32 0] 55)=W0 at *;refine(iT.o W0 kE.o).mono ?_;rintro e w1⟨v1,c1,d1,o1,rfl,dZ,td,tY,Ao⟩;have hbl:w.heap.size<W0.heap.size:=(Array.getElem?_eq_some_iff.1 mr.o).1;have eY:=aa ((au.aW H.o kE.o).trans dZ (fun _ _ h=>h));have kD:=aa (dZ.heap mr.o Jn.o (fun h=>h));have CU:=aa td;have oC:Hid (o1 w.heap.size=none):=aa (dZ.free hbl Jn.o);clear dZ td;by_cases hc1:c1=0
 ·subst hc1;obtain⟨kY,tF⟩:=tY rfl;obtain⟨a1,k1,rfl⟩:=az kY;have nx:=aa (fD kY);clear tY Ao kY tF;go_wp2_with fail;refine(GU _ x _ nx.o).mono ?_;rintro e w2⟨rfl,hb2⟩;have eT:=aa (eY.o.below hb2);have hx2:w2.heap[w.heap.size]? = some (.cells #[.int .u32 0,.int .u32 0,.int .u32 0] 55):=by rw[hb2.block _ (Array.getElem?_eq_some_iff.1 kD.o).1];exact kD.o
  have k0:w2.cell? ⟨w.heap.size,0,none⟩=some (.int .u32 0):=by rw[aq hx2];rfl
  have VA:w2.cell? ⟨w.heap.size,1,none⟩=some (.int .u32 0):=by rw[aq hx2];rfl
  have VB:w2.cell? ⟨w.heap.size,2,none⟩=some (.int .u32 0):=by rw[aq hx2];rfl
  have z0:=aO hx2 0;have z1:=aO hx2 1;have z2:=aO hx2 2;have apx:w.heap.size<w2.heap.size:=(Array.getElem?_eq_some_iff.1 hx2).1;have hx3:(((w2.setCell ⟨w.heap.size,0,none⟩ (.int .u32 (x.r.toNat:Int))).setCell ⟨w.heap.size,1,none⟩ (.int .u32 (x.l.toNat:Int))).setCell ⟨w.heap.size,2,none⟩ (.int .u32 (x.g.toNat:Int))).heap[w.heap.size]? = some (.cells #[.int .u32 (x.r.toNat:Int),.int .u32 (x.l.toNat:Int),.int .u32 (x.g.toNat:Int)] 55):=aT (aT (aT hx2 0 _) 1 _) 2 _;have eD:Hid (au (fun _=>False) n pb db w o d (((w2.setCell ⟨w.heap.size,0,none⟩ (.int .u32 (x.r.toNat:Int))).setCell ⟨w.heap.size,1,none⟩ (.int .u32 (x.l.toNat:Int))).setCell ⟨w.heap.size,2,none⟩ (.int .u32 (x.g.toNat:Int))) o1 d1 L):=aa (((eT.o.setCell ⟨w.heap.size,0,none⟩ _ oC.o (.inr (Nat.le_refl _))).setCell ⟨w.heap.size,1,none⟩ _ oC.o (.inr (Nat.le_refl _))).setCell ⟨w.heap.size,2,none⟩ _ oC.o (.inr (Nat.le_refl _)));have iq:=aa hx3;clear hb2 hx2 hx3;go_wp2;generalize (((w2.setCell ⟨w.heap.size,0,none⟩ (.int .u32 (x.r.toNat:Int))).setCell ⟨w.heap.size,1,none⟩ (.int .u32 (x.l.toNat:Int))).setCell ⟨w.heap.size,2,none⟩ (.int .u32 (x.g.toNat:Int)))=w3 at *;have q0:w3.cell? ⟨w.heap.size,0,none⟩=some (.int .u32 (x.r.toNat:Int)):=by rw[aq iq.o];rfl
  have q1:w3.cell? ⟨w.heap.size,1,none⟩=some (.int .u32 (x.l.toNat:Int)):=by rw[aq iq.o];rfl
  have q2:w3.cell? ⟨w.heap.size,2,none⟩=some (.int .u32 (x.g.toNat:Int)):=by rw[aq iq.o];rfl
  clear k0 VA VB z0 z1 z2;exact bodyPost_ret (v:=.tuple #[.agg #[.int .u32 (x.r.toNat:Int),.int .u32 (x.l.toNat:Int),.int .u32 (x.g.toNat:Int)],.int .i64 0]) (by simp[results,Tryz.results23,go_sem,q0,q1,q2]) rfl ⟨0,d1,o1,rfl,eD.o,.inl rfl⟩
 ·obtain rfl:=Ao hc1;have zk:¬(c1:Int)=0:=by omega
  have QX:=aa hc1;have k0:w1.cell? ⟨w.heap.size,0,none⟩=some (.int .u32 0):=by rw[aq kD.o];rfl
  have VA:w1.cell? ⟨w.heap.size,1,none⟩=some (.int .u32 0):=by rw[aq kD.o];rfl
  have VB:w1.cell? ⟨w.heap.size,2,none⟩=some (.int .u32 0):=by rw[aq kD.o];rfl
  have z0:=aO kD.o 0;have z1:=aO kD.o 1;have z2:=aO kD.o 2;have ajm:w.heap.size<w1.heap.size:=(Array.getElem?_eq_some_iff.1 kD.o).1;have hx3:(((w1.setCell ⟨w.heap.size,0,none⟩ (.int .u32 0)).setCell ⟨w.heap.size,1,none⟩ (.int .u32 0)).setCell ⟨w.heap.size,2,none⟩ (.int .u32 0)).heap[w.heap.size]? = some (.cells #[.int .u32 0,.int .u32 0,.int .u32 0] 55):=aT (aT (aT kD.o 0 _) 1 _) 2 _;have eD:Hid (au (fun _=>False) n pb db w o d (((w1.setCell ⟨w.heap.size,0,none⟩ (.int .u32 0)).setCell ⟨w.heap.size,1,none⟩ (.int .u32 0)).setCell ⟨w.heap.size,2,none⟩ (.int .u32 0)) o1 d1 L):=aa (((eY.o.setCell ⟨w.heap.size,0,none⟩ _ oC.o (.inr (Nat.le_refl _))).setCell ⟨w.heap.size,1,none⟩ _ oC.o (.inr (Nat.le_refl _))).setCell ⟨w.heap.size,2,none⟩ _ oC.o (.inr (Nat.le_refl _)));have iq:=aa hx3;clear tY Ao hc1 hx3;go_wp2;generalize (((w1.setCell ⟨w.heap.size,0,none⟩ (.int .u32 0)).setCell ⟨w.heap.size,1,none⟩ (.int .u32 0)).setCell ⟨w.heap.size,2,none⟩ (.int .u32 0))=w3 at *;have q0:w3.cell? ⟨w.heap.size,0,none⟩=some (.int .u32 0):=by rw[aq iq.o];rfl
  have q1:w3.cell? ⟨w.heap.size,1,none⟩=some (.int .u32 0):=by rw[aq iq.o];rfl
  have q2:w3.cell? ⟨w.heap.size,2,none⟩=some (.int .u32 0):=by rw[aq iq.o];rfl
  clear k0 VA VB z0 z1 z2;exact bodyPost_ret (v:=.tuple #[.agg #[.int .u32 0,.int .u32 0,.int .u32 0],.int .i64 (c1:Int)]) (by simp[results,Tryz.results23,go_sem,q0,q1,q2]) rfl ⟨c1,d1,o1,by rw[if_neg QX.o];rfl,eD.o,CU.o⟩
end
end
section
open Go.RowKit Go.Maps Go.MapKept
section
variable {w w':World} {pb db n gb gen N sb:Nat} {name:Name} {o o':ar} {d d':Dsk} {L L':aC}
def pE(E:Nat->Dsk->Prop)(n pb db:Nat)(w:World)(o:ar)(d:Dsk)(L:aC)(x:aH)(e:Ending)(w':World):Prop:=
 ∃c d' o' y,e=.returned (.tuple #[.agg #[.int .u32 (y.t.toNat:Int),.int .u32 (y.h.toNat:Int),.int .u64 (y.x.toNat:Int),.int .u32 (y.m.toNat:Int)],.int .i64 ((c:Nat):Int)])/\au (fun _=>False) n pb db w o d w' o' d' L/\E c d'/\(c=0->y=x)/\(c≠0->y=z7)
def Dg(n pb db:Nat)(w:World)(o:ar)(d:Dsk)(L:aC)(x:aH)(e:Ending)(w':World):Prop:=
 ∃c d' o' y,e=.returned (.tuple #[.agg #[.int .u32 (y.t.toNat:Int),.int .u32 (y.h.toNat:Int),.int .u64 (y.x.toNat:Int),.int .u32 (y.m.toNat:Int)],.int .i64 ((c:Nat):Int)])/\au (fun _=>False) n pb db w o d w' o' d' L/\(c=0\/kJ d d' L c)/\(c=0->y=x)
def Hu(E:Nat->Dsk->Prop)(n pb db:Nat)(w:World)(o:ar)(d:Dsk)(L:aC)(r:Rec)(e:Ending)(w':World):Prop:=
 ∃v c d' o',e=.returned (.tuple #[v,.int .i64 ((c:Nat):Int)])/\au (fun _=>False) n pb db w o d w' o' d' L/\E c d' /\
  (c=0->w'.ownsRow w.heap.size 5 1 v r.length (r.map bv)/\∀x,v.ownBlock=some x->o' x=none)/\(c≠0->v=.slice none 0 0)
theorem sk(E:Nat->Dsk->Prop)(h:aQ w pb db n o d L){i:Int}{x:aH}(Hv:∀W,Below w.heap.size w W->Calls prog 57 #[ptrTo sb,.int .i64 i] W (Hu E n pb db W o d L x.bytes)) :
 Calls prog 60 #[ptrTo sb,.int .i64 i] w (pE E n pb db w o d L x):=by
 have iT:=aa Hv;have H:=aa h;clear h Hv;unfold ptrTo at *;have kE:Hid (Below w.heap.size w (w.alloc (.cells #[.int .u32 0,.int .u32 0,.int .u64 0,.int .u32 0] 64))):=aa ai;have mr:Hid ((w.alloc (.cells #[.int .u32 0,.int .u32 0,.int .u64 0,.int .u32 0] 64)).heap[w.heap.size]? = some (.cells #[.int .u32 0,.int .u32 0,.int .u64 0,.int .u32 0] 64)):=aa (heap_alloc_new w _);have Jn:Hid (o w.heap.size=none):=aa (H.o.fresh (Nat.le_refl _));go_enter func60,ntmps60;go_wp2_with fail;generalize w.alloc (.cells #[.int .u32 0,.int .u32 0,.int .u64 0,.int .u32 0] 64)=W0 at *;refine(iT.o W0 kE.o).mono ?_;rintro e w1⟨v1,c1,d1,o1,rfl,dZ,td,tY,Ao⟩;have hbl:w.heap.size<W0.heap.size:=(Array.getElem?_eq_some_iff.1 mr.o).1;have eY:=aa ((au.aW H.o kE.o).trans dZ (fun _ _ h=>h));have kD:=aa (dZ.heap mr.o Jn.o (fun h=>h));have CU:=aa td;have oC:Hid (o1 w.heap.size=none):=aa (dZ.free hbl Jn.o);clear dZ td;have yZ:Hid (∀(w2:World)(a b c e:Value),w2.heap[w.heap.size]? = some (.cells #[.int .u32 0,.int .u32 0,.int .u64 0,.int .u32 0] 64)->((((w2.setCell ⟨w.heap.size,0,none⟩ a).setCell ⟨w.heap.size,1,none⟩ b).setCell ⟨w.heap.size,2,none⟩ c).setCell ⟨w.heap.size,3,none⟩ e).heap[w.heap.size]? = some (.cells #[a,b,c,e] 64)):=aa (fun w2 a b c e hx=>aT (aT (aT (aT hx 0 _) 1 _) 2 _) 3 _);by_cases hc1:c1=0
 ·subst hc1;obtain⟨kY,tF⟩:=tY rfl;obtain⟨a1,k1,rfl⟩:=az kY;have nx:=aa (fD kY);clear tY Ao kY tF;go_wp2_with fail;refine(xE _ x _ nx.o).mono ?_;rintro e w2⟨rfl,hb2⟩;have eT:=aa (eY.o.below hb2);have hx2:w2.heap[w.heap.size]? = some (.cells #[.int .u32 0,.int .u32 0,.int .u64 0,.int .u32 0] 64):=by grind [Below.block,Hid.out]
  have k0:w2.cell? ⟨w.heap.size,0,none⟩=some (.int .u32 0):=by rw[aq hx2];rfl
  have VA:w2.cell? ⟨w.heap.size,1,none⟩=some (.int .u32 0):=by rw[aq hx2];rfl
  have VB:w2.cell? ⟨w.heap.size,2,none⟩=some (.int .u64 0):=by rw[aq hx2];rfl
  have k3':w2.cell? ⟨w.heap.size,3,none⟩=some (.int .u32 0):=by rw[aq hx2];rfl
  have z0:=aO hx2 0;have z1:=aO hx2 1;have z2:=aO hx2 2;have z3:=aO hx2 3;have iq:=aa (yZ.o w2 (.int .u32 (x.t.toNat:Int)) (.int .u32 (x.h.toNat:Int)) (.int .u64 (x.x.toNat:Int)) (.int .u32 (x.m.toNat:Int)) hx2);have eD:Hid (au (fun _=>False) n pb db w o d ((((w2.setCell ⟨w.heap.size,0,none⟩ (.int .u32 (x.t.toNat:Int))).setCell ⟨w.heap.size,1,none⟩ (.int .u32 (x.h.toNat:Int))).setCell ⟨w.heap.size,2,none⟩ (.int .u64 (x.x.toNat:Int))).setCell ⟨w.heap.size,3,none⟩ (.int .u32 (x.m.toNat:Int))) o1 d1 L):=aa ((((eT.o.setCell ⟨w.heap.size,0,none⟩ _ oC.o (.inr (Nat.le_refl _))).setCell ⟨w.heap.size,1,none⟩ _ oC.o (.inr (Nat.le_refl _))).setCell ⟨w.heap.size,2,none⟩ _ oC.o (.inr (Nat.le_refl _))).setCell ⟨w.heap.size,3,none⟩ _ oC.o (.inr (Nat.le_refl _)));clear hb2 hx2;go_wp2;generalize ((((w2.setCell ⟨w.heap.size,0,none⟩ (.int .u32 (x.t.toNat:Int))).setCell ⟨w.heap.size,1,none⟩ (.int .u32 (x.h.toNat:Int))).setCell ⟨w.heap.size,2,none⟩ (.int .u64 (x.x.toNat:Int))).setCell ⟨w.heap.size,3,none⟩ (.int .u32 (x.m.toNat:Int)))=w3 at *;have q0:w3.cell? ⟨w.heap.size,0,none⟩=some (.int .u32 (x.t.toNat:Int)):=by rw[aq iq.o];rfl
  have q1:w3.cell? ⟨w.heap.size,1,none⟩=some (.int .u32 (x.h.toNat:Int)):=by rw[aq iq.o];rfl
  have q2:w3.cell? ⟨w.heap.size,2,none⟩=some (.int .u64 (x.x.toNat:Int)):=by rw[aq iq.o];rfl
  have q3:w3.cell? ⟨w.heap.size,3,none⟩=some (.int .u32 (x.m.toNat:Int)):=by rw[aq iq.o];rfl
  clear k0 VA VB k3' z0 z1 z2 z3;exact bodyPost_ret (v:=.tuple #[.agg #[.int .u32 (x.t.toNat:Int),.int .u32 (x.h.toNat:Int),.int .u64 (x.x.toNat:Int),.int .u32 (x.m.toNat:Int)],.int .i64 0]) (by simp[results,Tryz.results60,go_sem,q0,q1,q2,q3]) rfl ⟨0,d1,o1,x,rfl,eD.o,CU.o,fun _=>rfl,fun h=>absurd rfl h⟩
 ·obtain rfl:=Ao hc1;have zk:¬(c1:Int)=0:=by omega
  have QX:=aa hc1;have k0:w1.cell? ⟨w.heap.size,0,none⟩=some (.int .u32 0):=by rw[aq kD.o];rfl
  have VA:w1.cell? ⟨w.heap.size,1,none⟩=some (.int .u32 0):=by rw[aq kD.o];rfl
  have VB:w1.cell? ⟨w.heap.size,2,none⟩=some (.int .u64 0):=by rw[aq kD.o];rfl
  have k3':w1.cell? ⟨w.heap.size,3,none⟩=some (.int .u32 0):=by rw[aq kD.o];rfl
  have z0:=aO kD.o 0;have z1:=aO kD.o 1;have z2:=aO kD.o 2;have z3:=aO kD.o 3;have iq:=aa (yZ.o w1 (.int .u32 0) (.int .u32 0) (.int .u64 0) (.int .u32 0) kD.o);have eD:Hid (au (fun _=>False) n pb db w o d ((((w1.setCell ⟨w.heap.size,0,none⟩ (.int .u32 0)).setCell ⟨w.heap.size,1,none⟩ (.int .u32 0)).setCell ⟨w.heap.size,2,none⟩ (.int .u64 0)).setCell ⟨w.heap.size,3,none⟩ (.int .u32 0)) o1 d1 L):=aa ((((eY.o.setCell ⟨w.heap.size,0,none⟩ _ oC.o (.inr (Nat.le_refl _))).setCell ⟨w.heap.size,1,none⟩ _ oC.o (.inr (Nat.le_refl _))).setCell ⟨w.heap.size,2,none⟩ _ oC.o (.inr (Nat.le_refl _))).setCell ⟨w.heap.size,3,none⟩ _ oC.o (.inr (Nat.le_refl _)));clear tY Ao hc1;go_wp2;generalize ((((w1.setCell ⟨w.heap.size,0,none⟩ (.int .u32 0)).setCell ⟨w.heap.size,1,none⟩ (.int .u32 0)).setCell ⟨w.heap.size,2,none⟩ (.int .u64 0)).setCell ⟨w.heap.size,3,none⟩ (.int .u32 0))=w3 at *;have q0:w3.cell? ⟨w.heap.size,0,none⟩=some (.int .u32 0):=by rw[aq iq.o];rfl
  have q1:w3.cell? ⟨w.heap.size,1,none⟩=some (.int .u32 0):=by rw[aq iq.o];rfl
  have q2:w3.cell? ⟨w.heap.size,2,none⟩=some (.int .u64 0):=by rw[aq iq.o];rfl
  have q3:w3.cell? ⟨w.heap.size,3,none⟩=some (.int .u32 0):=by rw[aq iq.o];rfl
  clear k0 VA VB k3' z0 z1 z2 z3;exact bodyPost_ret (v:=.tuple #[.agg #[.int .u32 0,.int .u32 0,.int .u64 0,.int .u32 0],.int .i64 (c1:Int)]) (by simp[results,Tryz.results60,go_sem,q0,q1,q2,q3]) rfl ⟨c1,d1,o1,z7,rfl,eD.o,CU.o,fun h=>absurd h QX.o,fun _=>rfl⟩
theorem uA(HW:aP)(h:aQ w pb db n o d L)(hst:aD w sb pb name 20)(ho:o sb=none){es:List aH}{fl:Bool}(hL:aA L name=some (aw es fl)){i:Nat}{x:aH}(hi:es[i]? = some x) :
 Calls prog 60 #[ptrTo sb,.int .i64 (i:Int)] w (Dg n pb db w o d L x):=by
 have lu:=aN hi;refine(sk (fun c d'=>c=0\/kJ d d' L c) h (x:=x) (fun W hW=>?_)).mono fun e w' ⟨c,d',o',y,h1,h2,h3,h4,_⟩=>⟨c,d',o',y,h1,h2,h3,h4⟩;have:=k9 HW (h.below hW) (hst.below hW) ho af af hL (fp es) (i:=i) (by grind);rw[List.getElem_map]at this;rw[List.getElem?_eq_getElem lu]at hi;rw[Option.some.inj hi]at this;exact this
def pS(b:Bool):FuncId:=if b then 56 else 55
theorem Ky(x:aH)(w:World):Calls prog 55 #[.agg #[.int .u32 (x.t.toNat:Int),.int .u32 (x.h.toNat:Int),.int .u64 (x.x.toNat:Int),.int .u32 (x.m.toNat:Int)]] w fun e w'=>e=.returned (.int .u32 (x.t.toNat:Int))/\Below w.heap.size w w':=by
 go_enter func55,ntmps55;go_wp2;go_ret;exact⟨rfl,aj.alloc (Nat.le_refl _) _⟩
theorem Oa(x:aH)(w:World):Calls prog 56 #[.agg #[.int .u32 (x.t.toNat:Int),.int .u32 (x.h.toNat:Int),.int .u64 (x.x.toNat:Int),.int .u32 (x.m.toNat:Int)]] w fun e w'=>e=.returned (.int .u32 (x.h.toNat:Int))/\Below w.heap.size w w':=by
 go_enter func56,ntmps56;go_wp2;go_ret;exact⟨rfl,aj.alloc (Nat.le_refl _) _⟩
theorem Mx(b:Bool)(x:aH)(w:World):Calls prog (pS b) #[.agg #[.int .u32 (x.t.toNat:Int),.int .u32 (x.h.toNat:Int),.int .u64 (x.x.toNat:Int),.int .u32 (x.m.toNat:Int)]] w fun e w'=>e=.returned (.int .u32 (fV b x:Int))/\Below w.heap.size w w':=by
 cases b
 ·exact Ky x w
 ·exact Oa x w
end
end
section
open Go.RowKit Go.Maps Go.MapKept
structure fq(w:World)(o:ar)(xb kb fb vb sb:Nat)(b:Bool)(v bc:Nat):Prop where
 xs:∃t,w.heap[xb]? = some (.cells #[ptrTo sb] t)
 bad:∃t,w.heap[kb]? = some (.cells #[.int .i64 (bc:Int)] t)
 fn:∃t,w.heap[fb]? = some (.cells #[.func (.func (pS b)) #[] #[]] t)
 vtx:∃t,w.heap[vb]? = some (.cells #[.int .u32 (v:Int)] t)
 oxb:o xb=none
 okb:o kb=none
 rV:o fb=none
 Jm:o vb=none
 xk:xb≠kb
 fk:fb≠kb
 vk:vb≠kb
section
variable {w w':World} {pb db n sb xb kb fb vb v bc:Nat} {b:Bool} {name:Name} {o o':ar} {d d':Dsk} {L L':aC}
theorem eC{w:World}{x:Nat}{ob:Obj}(h:w.heap[x]? = some ob):x<w.heap.size:=(Array.getElem?_eq_some_iff.1 h).1
theorem bm{w w':World}(hb:Below w.heap.size w w'){a:Addr}{v:Value}(hc:w.cell? a=some v):w'.cell? a=some v:=(hb.cell (World.block_lt_of_cell? w a hc)).trans hc
theorem fq.lts(h:fq w o xb kb fb vb sb b v bc):xb<w.heap.size/\kb<w.heap.size/\fb<w.heap.size/\vb<w.heap.size:=by
 obtain⟨_,h1⟩:=h.xs;obtain⟨_,h2⟩:=h.bad;obtain⟨_,h3⟩:=h.fn;obtain⟨_,h4⟩:=h.vtx;exact⟨eC h1,eC h2,eC h3,eC h4⟩
theorem fq.cells(h:fq w o xb kb fb vb sb b v bc):w.cell? ⟨xb,0,none⟩=some (ptrTo sb)/\w.cell? ⟨kb,0,none⟩=some (.int .i64 (bc:Int))/\w.cell? ⟨fb,0,none⟩=some (.func (.func (pS b)) #[] #[])/\w.cell? ⟨vb,0,none⟩=some (.int .u32 (v:Int))/\w.frozen? ⟨kb,0,none⟩=false:=by
 obtain⟨_,h1⟩:=h.xs;obtain⟨_,h2⟩:=h.bad;obtain⟨_,h3⟩:=h.fn;obtain⟨_,h4⟩:=h.vtx;refine⟨?_,?_,?_,?_,aO h2 _⟩
 ·rw[aq h1];rfl
 ·rw[aq h2];rfl
 ·rw[aq h3];rfl
 ·rw[aq h4];rfl
theorem fq.moved(h:fq w o xb kb fb vb sb b v bc)(hm:au (fun _=>False) n pb db w o d w' o' d' L'):fq w' o' xb kb fb vb sb b v bc:=by
 obtain⟨l1,l2,l3,l4⟩:=h.lts;obtain⟨t1,h1⟩:=h.xs;obtain⟨t2,h2⟩:=h.bad;obtain⟨t3,h3⟩:=h.fn;obtain⟨t4,h4⟩:=h.vtx;exact⟨⟨t1,hm.heap h1 h.oxb (fun h=>h)⟩,⟨t2,hm.heap h2 h.okb (fun h=>h)⟩,⟨t3,hm.heap h3 h.rV (fun h=>h)⟩,⟨t4,hm.heap h4 h.Jm (fun h=>h)⟩,hm.free l1 h.oxb,hm.free l2 h.okb,hm.free l3 h.rV,hm.free l4 h.Jm,h.xk,h.fk,h.vk⟩
theorem fq.below(h:fq w o xb kb fb vb sb b v bc)(hb:Below w.heap.size w w'):fq w' o xb kb fb vb sb b v bc:=by
 obtain⟨l1,l2,l3,l4⟩:=h.lts;obtain⟨t1,h1⟩:=h.xs;obtain⟨t2,h2⟩:=h.bad;obtain⟨t3,h3⟩:=h.fn;obtain⟨t4,h4⟩:=h.vtx;exact⟨⟨t1,(hb.block _ l1).trans h1⟩,⟨t2,(hb.block _ l2).trans h2⟩,⟨t3,(hb.block _ l3).trans h3⟩,⟨t4,(hb.block _ l4).trans h4⟩,h.oxb,h.okb,h.rV,h.Jm,h.xk,h.fk,h.vk⟩
theorem fq.set(h:fq w o xb kb fb vb sb b v bc)(c:Nat):fq (w.setCell ⟨kb,0,none⟩ (.int .i64 (c:Int))) o xb kb fb vb sb b v c:=by
 obtain⟨t1,h1⟩:=h.xs;obtain⟨t2,h2⟩:=h.bad;obtain⟨t3,h3⟩:=h.fn;obtain⟨t4,h4⟩:=h.vtx;refine⟨⟨t1,(Below.heap_setCell _ _ _ _ h.xk).trans h1⟩,⟨t2,aT h2 0 _⟩,⟨t3,(Below.heap_setCell _ _ _ _ h.fk).trans h3⟩,⟨t4,(Below.heap_setCell _ _ _ _ h.vk).trans h4⟩,h.oxb,h.okb,h.rV,h.Jm,h.xk,h.fk,h.vk⟩
theorem vW(b:Bool)(args:Array Value)(w:World):Sem.run prog (callFunc (pS b) args) w=.ok (.enter (pS b) args) w:=by
 cases b
 ·show Sem.run prog (callFunc 55 args) w=.ok (.enter 55 args) w;go_simp
 ·show Sem.run prog (callFunc 56 args) w=.ok (.enter 56 args) w;go_simp
def Ap(n pb db:Nat)(w:World)(o:ar)(d:Dsk)(L:aC)(xb kb fb vb sb:Nat)(b:Bool)(v bc:Nat)(x:aH)(e:Ending)(w':World):Prop:=
 ∃r c d' o',e=.returned (.bool r)/\au (·=kb) n pb db w o d w' o' d' L/\fq w' o' xb kb fb vb sb b v c/\((c=bc/\r=decide (v<=fV b x))\/kJ d d' L c)
theorem Kz(HW:aP)(h:aQ w pb db n o d L)(hst:aD w sb pb name 20)(ho:o sb=none){es:List aH}{fl:Bool}(hL:aA L name=some (aw es fl))(hm:fq w o xb kb fb vb sb b v bc){i:Nat}{x:aH}(hi:es[i]? = some x) :
 Calls prog 89 #[.int .i64 (i:Int),.pointer (some ⟨xb,0,none⟩),.pointer (some ⟨kb,0,none⟩),.pointer (some ⟨fb,0,none⟩),.pointer (some ⟨vb,0,none⟩)] w (Ap n pb db w o d L xb kb fb vb sb b v bc x):=by
 have mH:=aa (uA HW h hst ho hL hi);have HO:=aa hm;obtain⟨c1,c2,c3,c4,-⟩:=hm.cells;obtain⟨l1,l2,l3,l4⟩:=hm.lts;have HE:Hid (∀(y:aH)(W:World),Calls prog (pS b) #[.agg #[.int .u32 (y.t.toNat:Int),.int .u32 (y.h.toNat:Int),.int .u64 (y.x.toNat:Int),.int .u32 (y.m.toNat:Int)]] W fun e w'=>e=.returned (.int .u32 (fV b y:Int))/\Below W.heap.size W w'):=aa (fun y W=>Mx b y W);clear h hst ho hL hi hm;unfold ptrTo at *;go_enter func89,ntmps89;go_wp2_with fail;refine mH.o.mono ?_;rintro e w1⟨c,d1,o1,y,rfl,dZ,td,Si⟩;have eY:=aa dZ;have CU:=aa td;have Xz:=aa Si;have C0:=aa (HO.o.moved dZ);clear dZ td Si c1 c2 c3 c4;have cQ:Hid (Below w1.heap.size w1 (w1.alloc (.cells #[.int .u32 (y.t.toNat:Int),.int .u32 (y.h.toNat:Int),.int .u64 (y.x.toNat:Int),.int .u32 (y.m.toNat:Int)] 64))):=aa ai;have kD:Hid ((w1.alloc (.cells #[.int .u32 (y.t.toNat:Int),.int .u32 (y.h.toNat:Int),.int .u64 (y.x.toNat:Int),.int .u32 (y.m.toNat:Int)] 64)).heap[w1.heap.size]? = some (.cells #[.int .u32 (y.t.toNat:Int),.int .u32 (y.h.toNat:Int),.int .u64 (y.x.toNat:Int),.int .u32 (y.m.toNat:Int)] 64)):=aa (heap_alloc_new w1 _);have Ue:=aa (C0.o.below cQ.o);have XA:Hid (au (·=kb) n pb db w o d (w1.alloc (.cells #[.int .u32 (y.t.toNat:Int),.int .u32 (y.h.toNat:Int),.int .u64 (y.x.toNat:Int),.int .u32 (y.m.toNat:Int)] 64)) o1 d1 L):=aa ((eY.o.below cQ.o).mono (fun _ _ h=>h.elim));have m2:=C0.o.lts.2.1;have m5:=Ue.o.cells.2.2.2.2;have m6:=Ue.o.cells.2.1;have m7:=C0.o.cells.2.1;obtain⟨-,-,-,-,c5⟩:=C0.o.cells;have sO:Hid (w1.heap.size≠kb):=aa ae;have kV:∀(W:World)(bc':Nat),au (·=kb) n pb db w o d W o1 d1 L->fq W o1 xb kb fb vb sb b v bc'->(bc'=bc/\y=x\/kJ d d1 L bc')->∀W' r,Below W.heap.size W W'->r=decide (v<=fV b y)->Ap n pb db w o d L xb kb fb vb sb b v bc x (.returned (.bool r)) W':=by
  intro W bc' g1 g2 g3 W' r g4 g5;refine⟨r,bc',d1,o1,rfl,g1.below g4,g2.below g4,g3.imp (fun⟨a1,a2⟩=>⟨a1,by rw[g5,a2]⟩) id⟩
 have Hw:=aa kV;clear kV;by_cases hc:c=0
 ·subst hc;have HF:Hid (bc=bc/\y=x\/kJ d d1 L bc):=aa (.inl ⟨rfl,Xz.o rfl⟩);have eK:=aa (Hw.o _ _ XA.o Ue.o HF.o);go_wp2;generalize w1.alloc (.cells #[.int .u32 (y.t.toNat:Int),.int .u32 (y.h.toNat:Int),.int .u64 (y.x.toNat:Int),.int .u32 (y.m.toNat:Int)] 64)=W at *;have q0:W.cell? ⟨w1.heap.size,0,none⟩=some (.int .u32 (y.t.toNat:Int)):=by rw[aq kD.o];rfl
  have q1:W.cell? ⟨w1.heap.size,1,none⟩=some (.int .u32 (y.h.toNat:Int)):=by rw[aq kD.o];rfl
  have q2:W.cell? ⟨w1.heap.size,2,none⟩=some (.int .u64 (y.x.toNat:Int)):=by rw[aq kD.o];rfl
  have q3:W.cell? ⟨w1.heap.size,3,none⟩=some (.int .u32 (y.m.toNat:Int)):=by rw[aq kD.o];rfl
  obtain⟨-,-,k3,k4,-⟩:=(show fq W o1 xb kb fb vb sb b v _ from Ue.o).cells;have m9:w1.heap.size<W.heap.size:=eC kD.o;have Q0:=aa q0;have Q1:=aa q1;have Q2:=aa q2;have Q3:=aa q3;have K3:=aa k3;have K4:=aa k4;clear q0 q1 q2 q3 k3 k4;refine wq W ?_;refine qz ?_ (fun w' hw'=>by have z3:=bm hw' K3.o;go_simp<;>rfl);refine qz ?_ (fun w' hw'=>by have z0:=bm hw' Q0.o;have z1:=bm hw' Q1.o;have z2:=bm hw' Q2.o;have z3:=bm hw' Q3.o;go_simp<;>rfl);refine sF rfl (fun w' hw'=>(by go_simp;exact vW b _ _)) (fun w' hw'=>((HE.o y w').mono (fun e w'' h=>⟨h.1,hw'.trans (h.2.mono hw'.size)⟩))) (fun K hK=>?_);go_simp;refine hK _ ?_;clear hK K;refine qz ?_ (fun w' hw'=>by have z4:=bm hw' K4.o;go_simp<;>rfl);iterate 2 (refine qz ?_)
  refine wpQuiet_nil ?_;intro w4 hw4;have HW4:=aa hw4;clear hw4;go_wp2;go_ret;refine eK.o _ _ HW4.o ?_;simp
 ·have hc':¬(c:Int)=0:=by omega
  have HF:Hid (c=bc/\y=x\/kJ d d1 L c):=aa (.inr (CU.o.resolve_left hc));have apy:((c:Int) != 0)=true:=by simp;exact hc
  have my:Hid (((w1.setCell ⟨kb,0,none⟩ (.int .i64 (c:Int))).alloc (.cells #[.int .u32 (y.t.toNat:Int),.int .u32 (y.h.toNat:Int),.int .u64 (y.x.toNat:Int),.int .u32 (y.m.toNat:Int)] 64)).heap[w1.heap.size]? = some (.cells #[.int .u32 (y.t.toNat:Int),.int .u32 (y.h.toNat:Int),.int .u64 (y.x.toNat:Int),.int .u32 (y.m.toNat:Int)] 64)):=aa (by
   have:=heap_alloc_new (w1.setCell ⟨kb,0,none⟩ (.int .i64 (c:Int))) (.cells #[.int .u32 (y.t.toNat:Int),.int .u32 (y.h.toNat:Int),.int .u64 (y.x.toNat:Int),.int .u32 (y.m.toNat:Int)] 64);rw[World.size_setCell]at this;exact this)
  have Ob:=aa (((eY.o.mono (S':=(·=kb)) (fun _ _ h=>h.elim)).setCell ⟨kb,0,none⟩ (.int .i64 (c:Int)) C0.o.okb (.inl rfl)).alloc (.cells #[.int .u32 (y.t.toNat:Int),.int .u32 (y.h.toNat:Int),.int .u64 (y.x.toNat:Int),.int .u32 (y.m.toNat:Int)] 64));have Vl:=aa ((C0.o.set c).below (aj.alloc (Nat.le_refl _) (.cells #[.int .u32 (y.t.toNat:Int),.int .u32 (y.h.toNat:Int),.int .u64 (y.x.toNat:Int),.int .u32 (y.m.toNat:Int)] 64)));have eK:=aa (Hw.o _ _ Ob.o Vl.o HF.o);clear kD cQ Ue XA;go_wp2;generalize (w1.setCell ⟨kb,0,none⟩ (.int .i64 (c:Int))).alloc (.cells #[.int .u32 (y.t.toNat:Int),.int .u32 (y.h.toNat:Int),.int .u64 (y.x.toNat:Int),.int .u32 (y.m.toNat:Int)] 64)=W at *;have q0:W.cell? ⟨w1.heap.size,0,none⟩=some (.int .u32 (y.t.toNat:Int)):=by rw[aq my.o];rfl
  have q1:W.cell? ⟨w1.heap.size,1,none⟩=some (.int .u32 (y.h.toNat:Int)):=by rw[aq my.o];rfl
  have q2:W.cell? ⟨w1.heap.size,2,none⟩=some (.int .u64 (y.x.toNat:Int)):=by rw[aq my.o];rfl
  have q3:W.cell? ⟨w1.heap.size,3,none⟩=some (.int .u32 (y.m.toNat:Int)):=by rw[aq my.o];rfl
  obtain⟨-,-,k3,k4,-⟩:=(show fq W o1 xb kb fb vb sb b v _ from Vl.o).cells;have m9:w1.heap.size<W.heap.size:=eC my.o;have Q0:=aa q0;have Q1:=aa q1;have Q2:=aa q2;have Q3:=aa q3;have K3:=aa k3;have K4:=aa k4;clear q0 q1 q2 q3 k3 k4;refine wq W ?_;refine qz ?_ (fun w' hw'=>by have z3:=bm hw' K3.o;go_simp<;>rfl);refine qz ?_ (fun w' hw'=>by have z0:=bm hw' Q0.o;have z1:=bm hw' Q1.o;have z2:=bm hw' Q2.o;have z3:=bm hw' Q3.o;go_simp<;>rfl);refine sF rfl (fun w' hw'=>(by go_simp;exact vW b _ _)) (fun w' hw'=>((HE.o y w').mono (fun e w'' h=>⟨h.1,hw'.trans (h.2.mono hw'.size)⟩))) (fun K hK=>?_);go_simp;refine hK _ ?_;clear hK K;refine qz ?_ (fun w' hw'=>by have z4:=bm hw' K4.o;go_simp<;>rfl);iterate 2 (refine qz ?_)
  refine wpQuiet_nil ?_;intro w4 hw4;have HW4:=aa hw4;clear hw4;go_wp2;go_ret;refine eK.o _ _ HW4.o ?_;simp
def EM(b:Bool)(es:List aH):Prop:=∀(i j:Nat)(x y:aH),es[i]? = some x->es[j]? = some y->i<=j->fV b x<=fV b y
def Split(b:Bool)(v:Nat)(es:List aH)(lo hi:Nat):Prop:=(∀(j:Nat)(x:aH),es[j]? = some x->j<lo->fV b x<v)/\(∀(j:Nat)(x:aH),es[j]? = some x->hi<=j->v<=fV b x)
theorem Split.up{b:Bool}{v:Nat}{es:List aH}{lo hi m:Nat}{x:aH}(h:Split b v es lo hi)(hr:EM b es)(hm:es[m]? = some x)(hx:fV b x<v):Split b v es (m+1) hi:=
 ⟨fun j y hy hj=>Nat.lt_of_le_of_lt (hr j m y x hy hm ae) hx,h.2⟩
theorem Split.down{b:Bool}{v:Nat}{es:List aH}{lo hi m:Nat}{x:aH}(h:Split b v es lo hi)(hr:EM b es)(hm:es[m]? = some x)(hx:v<=fV b x):Split b v es lo m:=
 ⟨h.1,fun j y hy hj=>Nat.le_trans hx (hr m j x y hm hy hj)⟩
theorem kJ.more{d d' gT:Dsk}{L:aC}{c:Nat}(h:kJ d d' L c)(ho:bJ d' gT):kJ d gT L c:=h.imp id (fun⟨h1,h2⟩=>⟨h1,ho.dead h2⟩)
def Aq(n pb db:Nat)(w:World)(o:ar)(d:Dsk)(L:aC)(xb kb fb vb sb:Nat)(b:Bool)(v:Nat)(es:List aH)(e:Ending)(w':World):Prop:=
 ∃k c d' o',e=.returned (.int .i64 ((k:Nat):Int))/\k<=es.length/\au (·=kb) n pb db w o d w' o' d' L/\fq w' o' xb kb fb vb sb b v c/\((c=0/\Split b v es k k)\/kJ d d' L c)
theorem KA(HW:aP)(h:aQ w pb db n o d L)(hst:aD w sb pb name 20)(ho:o sb=none){es:List aH}{fl:Bool}(hL:aA L name=some (aw es fl))(hk:sb≠kb)(hm:fq w o xb kb fb vb sb b v 0)(hr:EM b es)(hN:es.length<1000000) :
 Calls prog 88 #[.int .i64 (es.length:Int),.func (.func 89) #[] #[.pointer (some ⟨xb,0,none⟩),.pointer (some ⟨kb,0,none⟩),.pointer (some ⟨fb,0,none⟩),.pointer (some ⟨vb,0,none⟩)]] w (Aq n pb db w o d L xb kb fb vb sb b v es):=by
 have ad2:Hid (∀W o' d' c(m:Nat)x,aQ W pb db n o' d' L->aD W sb pb name 20->o' sb=none->fq W o' xb kb fb vb sb b v c->es[m]? = some x->Calls prog 89 #[.int .i64 (m:Int),.pointer (some ⟨xb,0,none⟩),.pointer (some ⟨kb,0,none⟩),.pointer (some ⟨fb,0,none⟩),.pointer (some ⟨vb,0,none⟩)] W (Ap n pb db W o' d' L xb kb fb vb sb b v c x)):=aa (fun W o' d' c m x a1 a2 a3 a4 a5=>Kz HW a1 a2 a3 hL a4 a5);have H:=aa h;have HST:=aa hst;have VC:=aa ho;have HM:=aa hm;have HR:=aa hr;have HES:Hid (∀m,m<es.length->∃x,es[m]? = some x):=aa (fun m hm=>⟨_,List.getElem?_eq_getElem hm⟩);have hsp:Hid (Split b v es 0 es.length):=aa ⟨fun j x _ hj=>absurd hj (Nat.not_lt_zero _),fun j x hx hj=>absurd (aN hx) ae⟩;obtain⟨N,hNe⟩:∃N,N=es.length:=⟨_,rfl⟩;rw[<- hNe]at HES hsp hN ⊢;have sO:=aa hNe;clear h hst ho hL hm hr hNe;go_enter func88,ntmps88;go_wp2;go_loopw [5,6] (fun i j wr=>∃(lo hi c:Nat)(d':Dsk)(o':ar),lo<=hi/\hi<=N/\i=.int .i64 (lo:Int)/\j=.int .i64 (hi:Int)/\au (·=kb) n pb db w o d wr o' d' L/\fq wr o' xb kb fb vb sb b v c/\((c=0/\Split b v es lo hi)\/kJ d d' L c)) (fun i j _=>(intOf j).toNat-(intOf i).toNat)
 case atStart=>exact⟨0,N,0,d,o,Nat.zero_le _,Nat.le_refl _,rfl,rfl,au.refl _ H.o,HM.o,.inl ⟨rfl,hsp.o⟩⟩
 case round=>
  obtain⟨lo,hi,c,d1,o1,hlh,hhN,rfl,rfl,dZ,ad3,hs1⟩:=hrel;have eY:=aa dZ;have C0:=aa ad3;have iV:=aa hs1;clear dZ ad3 hs1;by_cases hlt:lo<hi
  ·obtain⟨m,hme⟩:∃m,m=(lo+hi)/2:=⟨_,rfl⟩;have dZ:lo<=m:=by omega
   have cR:m<hi:=by omega
   have hmi:((lo:Int)+(hi:Int))/2=(m:Int):=by omega
   clear hme;obtain⟨x,hx⟩:=HES.o m ae;have Ua:=aa (ad2.o wr o1 d1 c m _ eY.o.aY (HST.o.moved eY.o VC.o hk) (eY.o.free HST.o.lt VC.o) C0.o hx);have HX:=aa hx;clear hx;go_wp2_with fail;clear hmi;refine Ua.o.mono ?_;rintro e w2⟨r,c2,d2,o2,rfl,ep,ad4,hs3⟩;have eD:Hid (au (·=kb) n pb db w o d w2 o2 d2 L):=aa (eY.o.trans ep (fun _ _ h=>h));have mC:=aa ad4;have fC:Hid ((c2=0/\(r=true->Split b v es lo m)/\(r=false->Split b v es (m+1) hi))\/kJ d d2 L c2):=aa (by
    rcases hs3 with⟨h1,h2⟩| h2
    ·rcases iV.o with⟨h3,h4⟩| h4
     ·refine .inl ⟨h1.trans h3,fun hr=>?_,fun hr=>?_⟩
      ·rw[hr]at h2;exact h4.down HR.o HX.o (of_decide_eq_true h2.symm)
      ·rw[hr]at h2;exact h4.up HR.o HX.o (Nat.lt_of_not_le (of_decide_eq_false h2.symm))
     ·rw[h1];exact .inr (h4.more ep.on)
    ·exact .inr (h2.later eY.o.on.bC))
   clear ep ad4 hs3 Ua;cases r with
   |false=>
     have gp:Hid (c2=0/\Split b v es (m+1) hi\/kJ d d2 L c2):=aa (fC.o.imp (fun h=>⟨h.1,h.2.2 rfl⟩) id);clear fC;go_wp2;go_roundw
     case rel=>exact⟨m+1,hi,c2,d2,o2,ae,hhN,by go_num,rfl,eD.o,mC.o,gp.o⟩
     case measure=>simp[intOf];omega
   |true=>
     have gp:Hid (c2=0/\Split b v es lo m\/kJ d d2 L c2):=aa (fC.o.imp (fun h=>⟨h.1,h.2.1 rfl⟩) id);clear fC;go_wp2;go_roundw
     case rel=>exact⟨lo,m,c2,d2,o2,ae,ae,rfl,rfl,eD.o,mC.o,gp.o⟩
     case measure=>simp[intOf];omega
  ·obtain rfl:lo=hi:=by omega
   go_wp2;go_ret;exact⟨lo,c,d1,o1,rfl,by rw[<- sO.o];exact hhN,eY.o,C0.o,iV.o⟩
end
end
end Go.Proofs.YthkkgdpomhhjjaaGreatDoor
