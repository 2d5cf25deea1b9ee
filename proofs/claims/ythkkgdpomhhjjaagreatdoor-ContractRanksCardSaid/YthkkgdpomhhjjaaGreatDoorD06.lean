/-
  Joined.
-/
import Derived.Test.YthkkgdpomhhjjaaGreatDoorD05
import Derived.Sort.WalkA
import Derived.Shelf.SlicesQ.Load
import Derived.Shelf.SlicesQ.Reverse
import Derived.Shelf.RegionOpenPlain
import Derived.Sort.WalkB3
import Derived.Sort.LotD5
import Derived.Sort.Walk7
set_option maxRecDepth 100000
set_option maxHeartbeats 16000000
namespace Go.Proofs.YthkkgdpomhhjjaaGreatDoor
open Go.Proofs.Tryz
section
open Go.RowKit Go.Maps Go.MapKept
section
variable {S:Nat->Prop} {w w':World} {pb db n cb kb sb jb bf made:Nat} {by':Bool} {name:Name} {o o':ar} {d d':Dsk} {L L':aD}
theorem cU.moved(h:cU w jb pb bf made by')(hm:au S n pb db w o d w' o' d' L')(h1:o jb=none)(h2:o bf=none)(h3:¬S jb)(h4:¬S bf):cU w' jb pb bf made by':=
 h.kept (hm.block h.lt.1 h1 h3) (hm.block h.lt.2 h2 h4)
theorem Sound.weaken{fs:List bZ}(h:Sound d fs L){ps:List Pg}{fl:Bool}(hL:aB L name=some (.inl (ps,fl))):Sound d fs (aS L name (.inl (ps,false))) where
 keys:=cF h.keys
 fH:=h.fH
 names:=fun x=>by
  rw[cI,h.names];by_cases e:x=name
  ·subst e;simp[hL]
  ·simp[e]
 ok:=fun x hx=>by
  rw[cI]at hx;by_cases e:x=name
  ·subst e;exact h.ok x (by rw[hL];rfl)
  ·exact h.ok x (by simpa[e]using hx)
 dJ:=fun x Gv kO hg=>by
  rw[ay]at hg;by_cases e:x=name
  ·rw[if_pos e]at hg;cases hg;subst e;obtain⟨f,dp,q⟩:=h.dJ _ _ _ hL;exact⟨f,dp,q.get,q.now,q.le,q.most,q.short,q.B9,q.each,fun e=>(by cases e),q.ky⟩
  ·rw[if_neg e]at hg;exact h.dJ x Gv kO hg
 lQ:=fun x f' ls hg=>by
  rw[ay]at hg;by_cases e:x=name
  ·rw[if_pos e]at hg;cases hg
  ·rw[if_neg e]at hg;exact h.lQ x f' ls hg
 frames:=fun fr dS hf=>by
  obtain⟨Gv,kO,h1,h2⟩:=h.frames fr dS hf;rw[ay];by_cases e:fr.name=name
  ·rw[if_pos e];rw[e,hL]at h1;cases h1;exact⟨ps,false,rfl,h2⟩
  ·rw[if_neg e];exact⟨Gv,kO,h1,h2⟩
 blank:=h.blank
 once:=h.once
 dt:=fun x s hs=>by
  rw[cI,h.dt x s hs];simp
theorem aQ.weaken(h:aQ w pb db n o d L){ps:List Pg}{fl:Bool}(hL:aB L name=some (.inl (ps,fl))):aQ w pb db n o d (aS L name (.inl (ps,false))):=by
 obtain⟨fb,mb,l,hand,mf,h,hl,g⟩:=h;exact⟨fb,mb,l,hand,mf,h,hl,g.weaken hL⟩
theorem EC(fl:Bool):aw [] fl=.inl ([],fl):=rfl
def dh(d:Dsk)(L:aD)(name:Name):Nat:=if d.tick.dead=true then 6 else if bM name=false then 1 else if (aB L name).isSome=true then 4 else 0
def fK(n pb db:Nat)(w:World)(o:ar)(d:Dsk)(L:aD)(name:Name)(e:Ending)(w':World):Prop:=
 ∃d' o',e=.returned (.int .i64 (dh d L name:Int))/\au (fun _=>False) n pb db w o d w' o' d' (if dh d L name=0 then aS L name (.inl ([],true)) else L)/\(dh d L name=0->d'.dead=false)/\(d.tick.dead=true->d'.dead=true)
theorem kD(h:aQ w pb db n o d L)(name:Name)(hs:name.size<=1000):Calls prog 71 #[ptrTo pb,.string name] w (fK n pb db w o d L name):=by
 obtain⟨fb,mb,l,hand,mf,hp,hl,g⟩:=h;refine(zT hp name hs).mono ?_;rintro e w'⟨rfl,o',hd,ht,hg⟩;have FM:=hp.zQ hd ht hg;have oA:(d.create name).2=dh d L name:=by
  unfold Dsk.create dh;rw[<- g.names];split
  ·rfl
  ·split
   ·rfl
   ·split<;>rfl
 refine⟨(d.create name).1,o',by rw[oA],⟨⟨fb,mb,l,hand,mf,FM,hl,?_⟩,(aH.aX ht).mono (fun _ _ h=>.inl h),hg,?_⟩,?_,?_⟩
 ·unfold dh Dsk.create;rw[<- g.names];split
  ·exact g.tick
  ·rename_i hdd
   split
   ·exact g.tick
   ·rename_i eD
    split
    ·exact g.tick
    ·rename_i hno
     rw[if_pos rfl];refine g.create (by simpa using eD) ?_ rfl (Dsk.lK d);have:=g.names name;rw[Bool.not_eq_true]at hno;rw[hno]at this;exact Option.not_isSome_iff_eq_none.1 (by rw[<- this];simp)
 ·unfold Dsk.create;split
  ·exact bK.tick d
  ·split
   ·exact bK.tick d
   ·split
    ·exact bK.tick d
    ·exact(bK.tick d).of rfl rfl rfl
 ·intro h0;rw[<- oA]at h0;unfold Dsk.create at h0 ⊢;by_cases hdd:d.tick.dead=true
  ·rw[if_pos hdd]at h0;cases h0
  ·rw[if_neg hdd]at h0 ⊢;have hdf:d.tick.dead=false:=by simpa using hdd
   split
   ·exact hdf
   ·split<;>exact hdf
 ·intro hdd;unfold Dsk.create;rw[if_pos hdd];exact hdd
def dz(k:Nat):Name:=⟨([116,46]++Lib.decDigits k).toArray⟩
theorem Ds(hj:cU w jb pb bf made by')(hm:made<100)(hne:bf≠jb) :
 Calls prog 178 #[ptrTo jb] w fun e w'=>e=.returned (.string (dz made))/\cU w' jb pb bf (made+1) by'/\aH (·=jb) w w':=by
 obtain⟨-,-,hc2,-,hz⟩:=hj.cells;have HJ:=aa hj;have hit:=aa (fun W=>Any.strconv_Itoa_small (P:=prog) (ρ:=Tryz.uw) { Tryz.itoa with } made hm W);have kY:=hj.lt;have rN:IntKind.i64.wrap ((made:Int)+1)=(made:Int)+1:=ax ae ae;have hw2:IntKind.i64.wrap ((made:Int)+1-1)=(made:Int):=by rw[ax ae ae];omega
 clear hj;have Mj:(Lib.decDigits made).length<=2:=by
  by_cases h:made<10
  ·rw[Lib.decDigits_one h];simp
  ·rw[Lib.decDigits_two h hm];simp
 have HT:Hid ((⟨#[116,46]⟩:ByteArray)++⟨(Lib.decDigits made).toArray⟩=dz made):=aa (by
  unfold dz;apply ByteArray.ext;simp)
 generalize Lib.decDigits made=dg at *;unfold ptrTo;go_enter func178,ntmps178;go_wp2_with fail;refine(hit.o _).mono ?_;rintro e w'⟨rfl,rfl⟩;go_wp2;go_ret;refine⟨by rw[<- HT.o];rfl,?_,(aH.refl _ w).setCell _ _ (.inl rfl)⟩;obtain⟨⟨t,h1⟩,⟨t',h2⟩⟩:=HJ.o;refine⟨⟨t,?_⟩,⟨t',?_⟩⟩
 ·have:=aT h1 2 (.int .i64 ((made:Int)+1));rw[this];rfl
 ·rw[Below.heap_setCell _ _ _ _ hne];exact h2
theorem rB{κ υ:Type}[DecidableEq κ](ns:List κ):∀(L:List (κ×υ))(x:κ),aB (ns.foldl b8 L) x=if x∈ns then none else aB L x:=by
 induction ns with
 |nil=>intro L x;simp
 |cons k ns ih=>
   intro L x;rw[List.foldl_cons,ih,cP];by_cases e:x=k
   ·subst e;simp
   ·simp[e]
def xW(n pb db:Nat)(w:World)(o:ar)(d:Dsk)(L:aD)(ns:List Name)(e:Ending)(w':World):Prop:=
 ∃c d' o' L',e=.returned (.int .i64 ((c:Nat):Int))/\au (fun _=>False) n pb db w o d w' o' d' L'/\((c=0/\L'=ns.foldl b8 L)\/(c=6/\d'.dead=true/\∀x,x ∉ ns->aB L' x=aB L x))
theorem He(h:aQ w pb db n o d L)(hj:cU w jb pb bf made by')(lI:o jb=none){v:Value}{ns:List Name}(hv:bH w v ns)(my:∀b,v.ownBlock=some b->o b=none)(hL:∀x∈ns,∃ps fl,aB L x=some (.inl (ps,fl)))(JQ:ns.Nodup)(hlen:ns.length<=100000) :
 Calls prog 227 #[ptrTo jb,v] w (xW n pb db w o d L ns):=by
 have H:=aa h;have HJ:=aa hj;have U9:=aa lI;have HV:=aa hv;have vV:=aa my;have HL:=aa hL;have NZ:=aa JQ;have kY:=hj.lt.1;obtain⟨g,off,cap,rfl⟩:=hv.shape;obtain⟨Kg,hl2,N0,-⟩:=hv.cells;unfold maxLen at N0;clear h hj lI hv my hL JQ Kg;generalize hN:ns.length=N at *;have HN:=aa hN;clear hN;unfold ptrTo;go_enter func227,ntmps227;go_wp2;go_loopw [10] (fun i wr=>∃(k:Nat)(d':Dsk)(o':ar),k<=N/\i=.int .i64 (k:Int)/\au (fun _=>False) n pb db w o d wr o' d' ((ns.take k).foldl b8 L)) (fun i _=>N-(intOf i).toNat)
 case atStart=>exact⟨0,d,o,Nat.zero_le _,rfl,by simpa using au.refl _ H.o⟩
 case round=>
  obtain⟨k,d1,o1,hk,rfl,hm⟩:=hrel;by_cases hlt:k<N
  ·have JU:k<ns.length:=by rw[HN.o];exact hlt
   have hcell:wr.cell? ⟨g,off+k,none⟩=some (.string ns[k]):=by
    have hv':=HV.o.kept (fun b hb=>hm.block (HV.o.lt b hb) (vV.o b hb) (fun h=>h));rw[<- HN.o]at hv';exact hv'.cells.2.2.2 k JU
   have hjc:wr.cell? ⟨jb,0,none⟩=some (ptrTo pb):=hm.cell (HJ.o.cells.1) U9.o (fun h=>h);unfold ptrTo at hjc;obtain⟨ps,fl,hLk⟩:=HL.o ns[k] (List.getElem_mem JU);have vM:ns[k] ∉ ns.take k:=fun mA=>by
    obtain⟨j,hj,he⟩:=List.getElem_of_mem mA;rw[List.getElem_take]at he;rw[List.length_take]at hj;have:=(List.getElem_inj NZ.o).1 he;omega
   have acY:aB ((ns.take k).foldl b8 L) ns[k]=some (.inl (ps,fl)):=by rw[rB,if_neg vM,hLk]
   have aN:=aa (uj hm.aX acY);have HM:=aa hm;have HSN:Hid (∀L',L'=b8 ((ns.take k).foldl b8 L) ns[k]->L'=(ns.take (k+1)).foldl b8 L):=aa (fun L' e=>by rw[e,List.take_succ_eq_append_getElem JU,List.foldl_append];rfl);have ah2:Hid (∀(L':aD)(dp:List Pg),L'=aS ((ns.take k).foldl b8 L) ns[k] (.inl (dp,false))->∀x,x ∉ ns->aB L' x=aB L x):=aa (fun L' dp e x hx=>by
    have hxk:x≠ns[k]:=fun e'=>hx (by rw[e'];exact List.getElem_mem JU);rw[e,ay,if_neg hxk,rB,if_neg (fun h=>hx (List.mem_of_mem_take h))])
   clear hm hLk acY vM;generalize ns[k]=nm at *;unfold ptrTo at aN;go_wp2_with fail;refine aN.o.mono ?_;rintro e w2⟨c2,d2,o2,L2,rfl,j7,oU,hg2,Rk,ah3⟩;have eB:Hid (au (fun _=>False) n pb db w o d w2 o2 d2 L2):=aa (HM.o.trans (jn (S:=fun _=>False) j7 oU hg2 Rk) (fun _ _ h=>h));clear j7 oU hg2 Rk hcell hjc;rcases ah3 with⟨rfl,he⟩|⟨rfl,hdd,dp,he⟩
   ·have HE:=aa (HSN.o L2 he);clear he;go_wp2;go_roundw
    case rel=>exact⟨k+1,d2,o2,ae,by go_num,by rw[<- HE.o];exact eB.o⟩
    case measure=>simp[intOf];omega
   ·have HE:=aa (ah2.o L2 dp he);have u6:=aa hdd;clear he hdd;go_wp2;go_ret;exact⟨6,d2,o2,L2,rfl,eB.o,.inr ⟨rfl,u6.o,HE.o⟩⟩
  ·obtain rfl:k=N:=by omega
   have HM:=aa hm;clear hm;go_wp2;go_ret;refine⟨0,d1,o1,_,rfl,HM.o,.inl ⟨rfl,?_⟩⟩;rw[List.take_of_length_le (by rw[HN.o];exact Nat.le_refl _)]
def Aq:aJ:=⟨0,0,0,0⟩
def qG(n pb db:Nat)(w:World)(o:ar)(d:Dsk)(L:aD)(name:Name)(N:Nat)(e:Ending)(w':World):Prop:=
 ∃v c d' o',e=.returned (.tuple #[v,.int .i64 ((c:Nat):Int)])/\au (fun _=>False) n pb db w o d w' o' d' L/\(c=0\/kI d d' L c) /\
  (c=0->∃cb sb,v=ptrTo cb/\bC w' cb sb 0 N Aq/\aC w' sb pb name 20/\o' cb=none/\o' sb=none/\w.heap.size<=cb/\w.heap.size<=sb)
theorem xX(HW:aP)(h:aQ w pb db n o d L)(hj:cU w jb pb bf made by'){es:List aJ}{fl:Bool}(hL:aB L name=some (aw es fl)) :
 Calls prog 116 #[ptrTo jb,.string name] w (qG n pb db w o d L name es.length):=by
 have hs:=b6 (h.ok hL);have pW:=aa (dG (sz:=20) h name hs af af);have hlen:Hid (∀W o' d' sb,aQ W pb db n o' d' L->aC W sb pb name 20->o' sb=none->Calls prog 59 #[ptrTo sb] W (xR n pb db W o' d' L (xS es.length))):=aa (fun W o' d' sb hW hst kN=>by
  have:=iq HW hW hst kN af af hL (dY es);rw[List.length_map]at this;exact this)
 have J7:=gS h hL;have H:=aa h;have hc0:=hj.cells.1;clear h hj hL;unfold ptrTo at *;generalize es.length=N at *;cases hd:d.dead with
 |true=>
   rw[hd,if_pos rfl]at J7;rw[J7]at pW;have HD:=aa hd;clear hd J7;go_enter func116,ntmps116;go_wp2_with fail;refine pW.o.mono ?_;rintro e w1⟨v1,rfl,hb1,-,Uy⟩;obtain rfl:=Uy af;have HB:=aa hb1;clear hb1 Uy;go_wp2;go_ret2;exact⟨_,6,d,o,rfl,au.aW H.o HB.o,.inr (.inr ⟨rfl,HD.o⟩),fun h=>absurd h af⟩
 |false=>
   rw[hd,if_neg ah]at J7;rw[J7]at pW;clear hd J7;go_enter func116,ntmps116;go_wp2_with fail;refine pW.o.mono ?_;rintro e w1⟨v1,rfl,hb1,eD,-⟩;obtain⟨sb,rfl,Ey,vr⟩:=eD rfl;have HB:=aa hb1;have Cj:=aa Ey;have fO:o sb=none:=H.o.fresh vr;have HF:=aa fO;have aN:=aa (hlen.o w1 o d sb (H.o.below hb1) Ey fO);clear hb1 Ey eD fO;unfold ptrTo at *;go_wp2_with fail;refine aN.o.mono ?_;rintro e w2⟨c2,d2,o2,⟨x,rfl,hx⟩,cQ,pV⟩;have HX:=aa hx;have eB:=aa ((au.aW H.o HB.o).trans cQ (fun _ _ h=>h));have nC:=aa (Cj.o.moved cQ HF.o (fun h=>h));have G6:=aa pV;have acT:=Cj.o.lt;have hs2:w.heap.size<=w2.heap.size:=eB.o.size;have Xj:Hid (o2 sb=none):=aa (cQ.free acT HF.o);clear hx cQ pV;go_wp2;go_ret2;refine⟨_,c2,d2,o2,rfl,eB.o.alloc _,G6.o,fun h0=>⟨w2.heap.size,sb,rfl,⟨265,?_⟩,nC.o.below ai,eB.o.aX.fresh (Nat.le_refl _),Xj.o,hs2,vr⟩⟩;rw[heap_alloc_new,HX.o h0];rfl
def l6(n pb db:Nat)(w:World)(o:ar)(d:Dsk)(L:aD)(name:Name)(e:Ending)(w':World):Prop:=
 ∃v c d' o',e=.returned (.tuple #[v,.int .i64 ((c:Nat):Int)])/\au (fun _=>False) n pb db w o d w' o' d' (if c=0 then aS L name (aw [] false) else L)/\(c=0\/c=6/\d'.dead=true) /\
  (c=0->∃kb sb,v=ptrTo kb/\eZ w' kb sb []/\aC w' sb pb name 20/\o' kb=none/\o' sb=none/\kb≠sb/\w.heap.size<=kb/\w.heap.size<=sb)
theorem sj(h:aQ w pb db n o d L)(hj:cU w jb pb bf made by')(lI:o jb=none)(eD:bM name=true)(hno:aB L name=none) :
 Calls prog 223 #[ptrTo jb,.string name] w (l6 n pb db w o d L name):=by
 have hs:=b6 eD;have nH:=aa (kD h name hs);have oA:dh d L name=if d.tick.dead=true then 6 else 0:=by
  unfold dh;rw[eD,hno];rfl
 have pW:Hid (∀W o' d' L',aQ W pb db n o' d' L'->Calls prog 67 #[ptrTo pb,.string name,.int .i64 20] W (dF W pb name 20 (cC d' name))):=aa (fun W o' d' L' hW=>dG (sz:=20) hW name hs af af);have kY:=hj.lt.1;have HJ:=aa hj;have U9:=aa lI;have hc0:=hj.cells.1;have Ro:=aa h.keys;clear h hj lI eD hno;unfold ptrTo at *;cases hd:d.tick.dead with
 |true=>
   rw[hd,if_pos rfl]at oA;unfold fK at nH;rw[oA]at nH;have HD:=aa hd;clear hd oA;go_enter func223,ntmps223;go_wp2_with fail;refine nH.o.mono ?_;rintro e w1⟨d1,o1,rfl,ee,-,hdd⟩;rw[if_neg af]at ee;have HM:=aa ee;have u6:=aa (hdd HD.o);clear ee hdd;go_wp2;go_ret2;exact⟨_,6,d1,o1,rfl,HM.o,.inr ⟨rfl,u6.o⟩,fun h=>absurd h af⟩
 |false=>
   rw[hd,if_neg ah]at oA;unfold fK at nH;rw[oA]at nH;clear hd oA;go_enter func223,ntmps223;go_wp2_with fail;refine nH.o.mono ?_;rintro e w1⟨d1,o1,rfl,ee,hdd,-⟩;simp only[if_true]at ee;have gV:aB (aS L name (.inl (([]:List Pg),true))) name=some (.inl (([]:List Pg),true)):=by rw[ay,if_pos rfl]
   have J7:cC d1 name=0:=by
    rw[gS ee.aX gV,hdd trivial];rfl
   have Kr:w1.cell? ⟨jb,0,none⟩=some (.pointer (some ⟨pb,0,none⟩)):=ee.cell hc0 U9.o (fun h=>h);have aN:=aa (pW.o w1 o1 d1 _ ee.aX);rw[J7]at aN;have acZ:au (fun _=>False) n pb db w o d w1 o1 d1 (aS L name (aw [] false)):=
    ⟨(ee.aX.weaken gV).congr (cF Ro.o) (fun x=>by
      rw[EC,ay,ay,ay];by_cases e:x=name
      ·rw[if_pos e,if_pos e]
      ·rw[if_neg e,if_neg e,if_neg e]),ee.turn,ee.grow,ee.on⟩
   have HM:=aa acZ;have HF:=aa (fun x(hx:w1.heap.size<=x)=>ee.aX.fresh hx);have hs1:w.heap.size<=w1.heap.size:=ee.size;clear ee acZ hdd J7 gV;go_wp2_with fail;refine aN.o.mono ?_;rintro e w2⟨v2,rfl,hb2,jr,-⟩;obtain⟨sb,rfl,oB,vr⟩:=jr rfl;have cZ:=aa hb2;have nC:=aa oB;have Rp:=oB.lt;have hs2:w1.heap.size<=w2.heap.size:=hb2.size;clear hb2 oB jr;unfold ptrTo;go_wp2;go_ret2;refine⟨_,0,d1,o1,rfl,by rw[if_pos rfl];exact(HM.o.below cZ.o).alloc _,.inl rfl,fun _=>⟨w2.heap.size,sb,rfl,.inl ⟨rfl,Aq,⟨341,?_⟩⟩,nC.o.below ai,HF.o _ hs2,HF.o _ vr,ae,ae,ae⟩⟩;rw[heap_alloc_new];rfl
end
end
end Go.Proofs.YthkkgdpomhhjjaaGreatDoor
namespace Go.Proofs
open Go.Shelf
def Tryz.eJ:Go.Shelf.Ren:=⟨fun | 6=>260 | 15=>87 | 14=>292 | 28=>135 | 29=>136 | 20=>305 | 21=>306 | 22=>307 | 23=>308 | 24=>309 | 25=>310 | 26=>311 | 27=>312 | 46=>315 | 47=>192 | 48=>193 | 49=>316 | 50=>317 | 57=>319 | n=>n,fun | 22=>22 | 24=>64 | 25=>305 | 3=>3 | 39=>159 | 0=>0 | 53=>26 | 55=>62 | 4=>4 | 46=>221 | 45=>220 | 50=>225 | 5=>5 | 9=>9 | 66=>280 | 70=>284 | 76=>313 | 77=>98 | n=>n,fun | n=>n⟩
theorem Tryz.jS:Go.Proofs.SlLaysF0.n6 prog Tryz.eJ:={
 mixed:=by kernel_rfl
 f6:=⟨Tryz.f260.name,af,func260.trans ak⟩
 f14:=⟨Tryz.f292.name,af,func292.trans ak⟩
 f15:=func87.trans ak
 f20:=⟨Tryz.f305.name,af,func305.trans ak⟩
 f21:=⟨Tryz.f306.name,af,func306.trans ak⟩
 f22:=⟨Tryz.f307.name,af,func307.trans ak⟩
 f23:=⟨Tryz.f308.name,af,func308.trans ak⟩
 f24:=⟨Tryz.f309.name,af,func309.trans ak⟩
 f25:=⟨Tryz.f310.name,af,func310.trans ak⟩
 f26:=⟨Tryz.f311.name,af,func311.trans ak⟩
 f27:=⟨Tryz.f312.name,af,func312.trans ak⟩
 f28:=func135.trans ak
 f29:=func136.trans ak
 f46:=⟨Tryz.f315.name,af,func315.trans ak⟩
 f47:=func192.trans ak
 f48:=func193.trans ak
 f49:=⟨Tryz.f316.name,af,func316.trans ak⟩
 f50:=⟨Tryz.f317.name,af,func317.trans ak⟩
 f57:=⟨Tryz.f319.name,af,func319.trans ak⟩
 t0:=Tryz.underlying0
 a0:=Tryz.isAgg0
 z0:=Tryz.sizeOf0
 v0:=Tryz.zeroValue0
 t3:=Tryz.underlying3
 a3:=Tryz.isAgg3
 z3:=Tryz.sizeOf3
 v3:=Tryz.zeroValue3
 t4:=Tryz.underlying4
 a4:=Tryz.isAgg4
 z4:=Tryz.sizeOf4
 v4:=Tryz.zeroValue4
 t5:=Tryz.underlying5
 a5:=Tryz.isAgg5
 z5:=Tryz.sizeOf5
 v5:=Tryz.zeroValue5
 t9:=Tryz.underlying9
 a9:=Tryz.isAgg9
 z9:=Tryz.sizeOf9
 v9:=Tryz.zeroValue9
 t22:=Tryz.underlying22
 a22:=Tryz.isAgg22
 z22:=Tryz.sizeOf22
 v22:=Tryz.zeroValue22
 t25:=Tryz.underlying305
 a25:=Tryz.isAgg305
 z25:=Tryz.sizeOf305
 v25:=Tryz.zeroValue305
 t39:=Tryz.underlying159
 a39:=Tryz.isAgg159
 z39:=Tryz.sizeOf159
 v39:=Tryz.zeroValue159
 t45:=Tryz.underlying220
 a45:=Tryz.isAgg220
 z45:=Tryz.sizeOf220
 v45:=Tryz.zeroValue220
 t46:=Tryz.underlying221
 a46:=Tryz.isAgg221
 z46:=Tryz.sizeOf221
 v46:=Tryz.zeroValue221
 t50:=Tryz.underlying225
 a50:=Tryz.isAgg225
 z50:=Tryz.sizeOf225
 v50:=Tryz.zeroValue225
 t53:=Tryz.underlying26
 a53:=Tryz.isAgg26
 z53:=Tryz.sizeOf26
 v53:=Tryz.zeroValue26
 t55:=Tryz.underlying62
 a55:=Tryz.isAgg62
 z55:=Tryz.sizeOf62
 v55:=Tryz.zeroValue62
 t66:=Tryz.underlying280
 a66:=Tryz.isAgg280
 z66:=Tryz.sizeOf280
 v66:=Tryz.zeroValue280
 t70:=Tryz.underlying284
 a70:=Tryz.isAgg284
 z70:=Tryz.sizeOf284
 v70:=Tryz.zeroValue284
 t76:=Tryz.underlying313
 a76:=Tryz.isAgg313
 z76:=Tryz.sizeOf313
 v76:=Tryz.zeroValue313
 t77:=Tryz.underlying98
 a77:=Tryz.isAgg98
 z77:=Tryz.sizeOf98
 v77:=Tryz.zeroValue98 }
end Go.Proofs
namespace Go.Proofs.YthkkgdpomhhjjaaGreatDoor
open Go.Proofs.Tryz
section
open Go.RowKit Go.Maps Go.MapKept
def dH:List aJ->List Value
 | []=>[]
 |e::l=>e.cells++dH l
theorem nI(l:List aJ):(dH l).length=l.length*4:=by
 induction l with
 |nil=>rfl
 |cons e l ih=>rw[dH,List.length_append,ih,List.length_cons];simp;omega
theorem nJ(a b:List aJ):dH (a++b)=dH a++dH b:=by
 induction a with
 |nil=>rfl
 |cons e a ih=>rw[List.cons_append,dH,dH,ih,List.append_assoc]
theorem l9{l:List aJ}{i:Nat}{e:aJ}(h:l[i]? = some e){j:Nat}(hj:j<4):(dH l)[i*4+j]? = e.cells[j]? := by
 induction l generalizing i with
 |nil=>cases h
 |cons q l ih=>
   rw[dH];cases i with
   |zero=>
     cases h;rw[List.getElem?_append_left (by simp[aJ.cells];omega)];simp
   |succ i=>
     rw[List.getElem?_append_right (by simp[aJ.cells];omega),<- ih (i:=i) (by simpa using h)];congr 1;simp[aJ.cells];omega
abbrev aI(w:World)(base:Nat)(v:Value)(l:List aJ):Prop:=w.ownsRow base 64 4 v l.length (dH l)
theorem bL{w:World}{base g cap:Nat}{l:List aJ}(h:aI w base (.slice (some ⟨g,0,none⟩) l.length cap) l){i:Nat}{e:aJ}(hi:l[i]? = some e) :
 w.cell? ⟨g,i*4,none⟩=some (.int .u32 (e.t.toNat:Int))/\w.cell? ⟨g,i*4+1,none⟩=some (.int .u32 (e.h.toNat:Int))/\w.cell? ⟨g,i*4+2,none⟩=some (.int .u64 (e.x.toNat:Int))/\w.cell? ⟨g,i*4+3,none⟩=some (.int .u32 (e.m.toNat:Int)):=by
 have hc:∀(j:Nat)(u:Value),(dH l)[j]? = some u->w.cell? ⟨g,j,none⟩=some u:=fun j u hj=>by
  have:=World.ownsRow.cells h (g:=g) rfl j u hj;rwa [bG,Nat.zero_add]at this
 refine⟨hc _ _ ?_,hc _ _ ?_,hc _ _ ?_,hc _ _ ?_⟩
 ·have:=l9 hi (j:=0) af;rw[Nat.add_zero]at this;rw[this];rfl
 ·rw[l9 hi af];rfl
 ·rw[l9 hi af];rfl
 ·rw[l9 hi af];rfl
theorem cm{w:World}{base:Nat}{v:Value}{l:List aJ}(h:aI w base v l):(l=[]/\v=.slice none 0 0)\/∃g cap,v=.slice (some ⟨g,0,none⟩) l.length cap/\base<=g/\l.length<=cap/\cap<=maxLen:=by
 obtain⟨_,⟨h1,h2⟩|⟨g,cap,cur,h1,h2,h3,h4,h5,_⟩⟩:=h
 ·exact .inl ⟨List.eq_nil_of_length_eq_zero h2,h1⟩
 ·exact .inr ⟨g,cap,h1,h2,h4,h5⟩
theorem rC:(prog.info? 64).map (fun i=>(i.zero,i.size,i.bytes))=some (some (.agg #[.int .u32 0,.int .u32 0,.int .u64 0,.int .u32 0]),4,24):=by kernel_rfl
def cN(jb:Nat):Value:=.func (.func 224) #[ptrTo jb] #[]
def Ar(b:Bool)(w:World)(base g cap:Nat)(es:List aJ)(e:Ending)(w':World):Prop:=
 ∃ts,e=.returned (.tuple #[])/\ts.Perm es/\ts.Pairwise (dE b)/\aI w' base (.slice (some ⟨g,0,none⟩) es.length cap) ts/\aH (·=g) w w'
def qH(m:Nat):Prop:=∀{w:World}{jb pb bf made:Nat}{b:Bool},cU w jb pb bf made b->∀{base g cap:Nat}(es:List aJ),es.length<=m->aI w base (.slice (some ⟨g,0,none⟩) es.length cap) es->g≠jb->g≠bf ->
 Calls prog 260 #[.slice (some ⟨g,0,none⟩) es.length cap,cN jb] w (Ar b w base g cap es)
theorem ED(p:Option Addr)(cap:Nat)(fv:Value)(w:World):Calls prog 260 #[.slice p 0 cap,fv] w fun e w'=>e=.returned (.tuple #[])/\w=w':=
 (AnyF.slices_SortFunc_none (P:=prog) (ρ:=Tryz.eJ) { Tryz.jS with } p cap fv w).mono fun _ _ ⟨h1,h2⟩=>⟨h1,h2.symm⟩
end
section
open Go.RowKit Go.Maps Go.Sort
instance:Inhabited aJ:=⟨Aq⟩
structure fA(bt:Bool)(w0:World)(jb pb bf made base g cap:Nat)(d:Array aJ)(W:World):Prop where
 row:aI W base (.slice (some ⟨g,0,none⟩) d.size cap) d.toList
 EE:cU W jb pb bf made bt
 nj:g≠jb
 nb:g≠bf
 turn:aH (·=g) w0 W
section
variable {bt:Bool} {w0 W W':World} {jb pb bf made base g cap:Nat} {d:Array aJ}
theorem fA.below(h:fA bt w0 jb pb bf made base g cap d W)(hb:Below W.heap.size W W'):fA bt w0 jb pb bf made base g cap d W':=
 ⟨aV h.row hb,h.EE.below hb,h.nj,h.nb,h.turn.bN hb⟩
theorem fA.drew(h:fA bt w0 jb pb bf made base g cap d W):fA bt w0 jb pb bf made base g cap d W.drew:=h.below aj.drew
theorem fA.cells(h:fA bt w0 jb pb bf made base g cap d W){i:Nat}(hi:i<d.size) :
 W.cell? ⟨g,i*4,none⟩=some (.int .u32 (d[i]!.t.toNat:Int))/\W.cell? ⟨g,i*4+1,none⟩=some (.int .u32 (d[i]!.h.toNat:Int))/\W.cell? ⟨g,i*4+2,none⟩=some (.int .u64 (d[i]!.x.toNat:Int))/\W.cell? ⟨g,i*4+3,none⟩=some (.int .u32 (d[i]!.m.toNat:Int)):=by
 have hg:d.toList[i]? = some d[i]! := by grind
 have:=bL (l:=d.toList) (by have:=h.row;simpa using this) hg;omega
theorem fA.cmp(h:fA bt w0 jb pb bf made base g cap d W)(x y:aJ) :
 Calls prog 224 #[ptrTo jb,.agg #[.int .u32 (x.t.toNat:Int),.int .u32 (x.h.toNat:Int),.int .u64 (x.x.toNat:Int),.int .u32 (x.m.toNat:Int)],.agg #[.int .u32 (y.t.toNat:Int),.int .u32 (y.h.toNat:Int),.int .u64 (y.x.toNat:Int),.int .u32 (y.m.toNat:Int)]] W
  fun e w'=>e=.returned (.int .i64 (aR bt x y))/\Below W.heap.size W w':=
 (xT h.EE x y).mono fun _ _ ⟨h1,h2⟩=>⟨h1,h2.below⟩
theorem Ks(l:List aJ)(i:Nat)(x:aJ)(hi:i<l.length):((((dH l).set (i*4) (.int .u32 (x.t.toNat:Int))).set (i*4+1) (.int .u32 (x.h.toNat:Int))).set (i*4+2) (.int .u64 (x.x.toNat:Int))).set (i*4+3) (.int .u32 (x.m.toNat:Int))=dH (l.set i x):=by
 induction l generalizing i with
 |nil=>rfl
 |cons e l ih=>
   cases i with
   |zero=>rfl
   |succ i=>
     have:=ih i (by grind);simp only[List.set_cons_succ,dH];grind
theorem Cq{l:List aJ}(h:aI W base (.slice (some ⟨g,0,none⟩) l.length cap) l)(i:Nat)(x:aJ)(hi:i<l.length) :
 aI (W.setCells g (i*4) x.cells) base (.slice (some ⟨g,0,none⟩) l.length cap) (l.set i x):=by
 have h1:=World.ownsRow.stored h (i*4) (.int .u32 (x.t.toNat:Int));have h2:=World.ownsRow.stored h1.1 (i*4+1) (.int .u32 (x.h.toNat:Int));have h3:=World.ownsRow.stored h2.1 (i*4+2) (.int .u64 (x.x.toNat:Int));have h4:=World.ownsRow.stored h3.1 (i*4+3) (.int .u32 (x.m.toNat:Int));unfold aI;rw[List.length_set,<- Ks l i x hi];exact h4.1
theorem fA.put(h:fA bt w0 jb pb bf made base g cap d W){i:Nat}(hi:i<d.size)(x:aJ):fA bt w0 jb pb bf made base g cap (d.setIfInBounds i x) (W.setCells g (i*4) x.cells):=by
 refine⟨?_,?_,h.nj,h.nb,h.turn.setCells g (i*4) x.cells (.inl rfl)⟩
 ·grind [Cq,row]
 ·have ht:aH (·=g) W (W.setCells g (i*4) x.cells):=(aH.refl _ _).setCells g (i*4) x.cells (.inl rfl);exact h.EE.kept (ht.block _ h.EE.lt.1 (fun e=>h.nj e.symm)) (ht.block _ h.EE.lt.2 (fun e=>h.nb e.symm))
theorem fA.swapped(h:fA bt w0 jb pb bf made base g cap d W){i j:Nat}(hi:i<d.size)(hj:j<d.size):fA bt w0 jb pb bf made base g cap (swp d i j) ((W.setCells g (i*4) d[j]!.cells).setCells g (j*4) d[i]!.cells):=
 (h.put hi d[j]!).put (by grind) d[i]!
structure ah4(bt:Bool)(w0:World)(jb pb bf made base g cap:Nat)(d:Array aJ)(W:World)(i j p q:Nat)(x y:aJ):Prop where
 hp:i*4=p
 hq:j*4=q
 p0:W.cell? ⟨g,p,none⟩=some (.int .u32 (x.t.toNat:Int))
 p1:W.cell? ⟨g,p+1,none⟩=some (.int .u32 (x.h.toNat:Int))
 p2:W.cell? ⟨g,p+2,none⟩=some (.int .u64 (x.x.toNat:Int))
 p3:W.cell? ⟨g,p+3,none⟩=some (.int .u32 (x.m.toNat:Int))
 q0:W.cell? ⟨g,q,none⟩=some (.int .u32 (y.t.toNat:Int))
 q1:W.cell? ⟨g,q+1,none⟩=some (.int .u32 (y.h.toNat:Int))
 q2:W.cell? ⟨g,q+2,none⟩=some (.int .u64 (y.x.toNat:Int))
 q3:W.cell? ⟨g,q+3,none⟩=some (.int .u32 (y.m.toNat:Int))
 fr:∀k,W.frozen? ⟨g,k,none⟩=false
 apart:i≠j->p≠q/\p≠q+1/\p≠q+2/\p≠q+3/\p+1≠q/\p+2≠q/\p+3≠q
 done:fA bt w0 jb pb bf made base g cap (swp d i j) (((((((((W.setCell ⟨g,p,none⟩ (.int .u32 (y.t.toNat:Int))).setCell ⟨g,p+1,none⟩ (.int .u32 (y.h.toNat:Int))).setCell ⟨g,p+2,none⟩ (.int .u64 (y.x.toNat:Int))).setCell ⟨g,p+3,none⟩ (.int .u32 (y.m.toNat:Int))).setCell ⟨g,q,none⟩ (.int .u32 (x.t.toNat:Int))).setCell ⟨g,q+1,none⟩ (.int .u32 (x.h.toNat:Int))).setCell ⟨g,q+2,none⟩ (.int .u64 (x.x.toNat:Int))).setCell ⟨g,q+3,none⟩ (.int .u32 (x.m.toNat:Int)))).drew
theorem fA.ll(h:fA bt w0 jb pb bf made base g cap d W){i j:Nat}(hi:i<d.size)(hj:j<d.size){x y:aJ}(hx:d[i]! = x)(hy:d[j]! = y):∃p q,ah4 bt w0 jb pb bf made base g cap d W i j p q x y:=by
 obtain⟨a0,a1,a2,a3⟩:=h.cells hi;obtain⟨b0,b1,b2,b3⟩:=h.cells hj;have hs:=(h.swapped hi hj).drew;rw[hx]at a0 a1 a2 a3 hs;rw[hy]at b0 b1 b2 b3 hs;exact⟨i*4,j*4,rfl,rfl,a0,a1,a2,a3,b0,b1,b2,b3,fun k=>World.ownsRow.frozenAt h.row k,fun hne=>by omega,hs⟩
end
end
section
open Go.RowKit Go.Maps Go.Sort
section
variable {bt:Bool} {w0 W W':World} {jb pb bf made base g cap:Nat} {d:Array aJ}
def mN(bt:Bool)(w0:World)(jb pb bf made base g cap:Nat)(d:Array aJ)(e:Ending)(w':World):Prop:=e=.returned (.tuple #[])/\fA bt w0 jb pb bf made base g cap d w'
theorem mO(h:fA bt w0 jb pb bf made base g cap d W)(a b:Nat)(hab:a<=b)(hb:b<=d.size)(hsz:d.size<=1000000) :
 Calls prog 305 #[.slice (some ⟨g,0,none⟩) d.size cap,.int .i64 (a:Int),.int .i64 (b:Int),cN jb] W (mN bt w0 jb pb bf made base g cap (insertionSort (ltOf (aR bt)) d a b)):=by
 have H:=aa h;clear h;obtain⟨N,hN⟩:∃N,N=d.size:=⟨_,rfl⟩;rw[<- hN]at hb hsz ⊢;have HN:=aa hN;clear hN;unfold cN ptrTo;go_enter func305,ntmps305;go_wp2;go_loopw [8] (fun vi wr=>∃(i:Nat)(dk:Array aJ),vi=.int .i64 (i:Int)/\a<i/\i<=b+1/\dk.size=N/\fA bt w0 jb pb bf made base g cap dk wr/\Hid (insOuter (ltOf (aR bt)) a b i dk=insOuter (ltOf (aR bt)) a b (a+1) d)) (fun vi _=>b+1-(intOf vi).toNat)
 case atStart=>exact⟨a+1,d,by go_num,ae,ae,HN.o.symm,H.o,rfl⟩
 case round=>
  obtain⟨i,dk,rfl,hai,hib,hsk,hs,HO⟩:=hrel;have HS:=aa hs;have Dt:=aa hsk;clear hs hsk;by_cases hlt:i<b
  ·have EF:(i:Int)<(b:Int):=by omega
   go_wp2;go_loopw [9] (fun vj wr2=>∃(j:Nat)(dj:Array aJ),vj=.int .i64 (j:Int)/\a<=j/\j<=i/\dj.size=N/\fA bt w0 jb pb bf made base g cap dj wr2/\Hid (insInner (ltOf (aR bt)) a j dj=insInner (ltOf (aR bt)) a i dk)) (fun vj _=>(intOf vj).toNat)
   case atStart=>exact⟨i,dk,rfl,ae,Nat.le_refl _,Dt.o,HS.o,rfl⟩
   case round=>
    obtain⟨j,dj,rfl,haj,vB,hsj,hs2,HI⟩:=hrel;have eR:=aa hs2;have BH:=aa hsj;clear hs2 hsj;have OUT:Hid ((j<=a\/ltOf (aR bt) dj[j]! dj[j-1]! = false)->insOuter (ltOf (aR bt)) a b (i+1) dj=insOuter (ltOf (aR bt)) a b (a+1) d):=aa (fun hq=>by
     rw[<- HO.out,insOuter_go _ _ _ _ _ hlt,<- HI.out,insInner_stop _ _ _ _ hq])
    generalize wr=Wr at *;by_cases hja:a<j
    ·obtain⟨jp,rfl⟩:∃jp,j=jp+1:=⟨j-1,ae⟩;have ah6:(a:Int)<(jp:Int)+1:=by omega
     have hwp:IntKind.i64.wrap (jp:Int)=(jp:Int):=ax ae ae;have jz:(jp:Int)+1<(N:Int):=by omega
     have jz1:(jp:Int)<(N:Int):=by omega
     have p0:(0:Int)<=(jp:Int)+1:=by omega
     have e0:((jp:Int)+1).toNat=jp+1:=by omega
     have HJ:Hid (jp+1<dj.size/\jp<dj.size):=aa ⟨by rw[BH.o];omega,by rw[BH.o];omega⟩;obtain⟨xj,hxj⟩:∃x,dj[jp+1]! = x:=⟨_,rfl⟩;obtain⟨xp,PK⟩:∃x,dj[jp]! = x:=⟨_,rfl⟩;have F1:Hid (∀w',Below Wr.heap.size Wr w'->w'.cell? ⟨g,(jp+1)*4,none⟩=some (.int .u32 (xj.t.toNat:Int))/\w'.cell? ⟨g,(jp+1)*4+1,none⟩=some (.int .u32 (xj.h.toNat:Int))/\w'.cell? ⟨g,(jp+1)*4+2,none⟩=some (.int .u64 (xj.x.toNat:Int))/\w'.cell? ⟨g,(jp+1)*4+3,none⟩=some (.int .u32 (xj.m.toNat:Int))):=aa (fun w' hw'=>by rw[<- hxj];exact(eR.o.below hw').cells HJ.o.1);have F2:Hid (∀w',Below Wr.heap.size Wr w'->w'.cell? ⟨g,jp*4,none⟩=some (.int .u32 (xp.t.toNat:Int))/\w'.cell? ⟨g,jp*4+1,none⟩=some (.int .u32 (xp.h.toNat:Int))/\w'.cell? ⟨g,jp*4+2,none⟩=some (.int .u64 (xp.x.toNat:Int))/\w'.cell? ⟨g,jp*4+3,none⟩=some (.int .u32 (xp.m.toNat:Int))):=aa (fun w' hw'=>by rw[<- PK];exact(eR.o.below hw').cells HJ.o.2);have FC:Hid (∀w',Below Wr.heap.size Wr w'->Calls prog 224 #[.pointer (some ⟨jb,0,none⟩),.agg #[.int .u32 (xj.t.toNat:Int),.int .u32 (xj.h.toNat:Int),.int .u64 (xj.x.toNat:Int),.int .u32 (xj.m.toNat:Int)],.agg #[.int .u32 (xp.t.toNat:Int),.int .u32 (xp.h.toNat:Int),.int .u64 (xp.x.toNat:Int),.int .u32 (xp.m.toNat:Int)]] w' fun e w''=>e=.returned (.int .i64 (aR bt xj xp))/\Below Wr.heap.size Wr w''):=aa (fun w' hw'=>((eR.o.below hw').cmp xj xp).mono fun _ _ ⟨h1,h2⟩=>⟨h1,hw'.trans (h2.mono hw'.size)⟩);by_cases hlv:aR bt xj xp<0
     ·go_wp2_with fail;refine wq Wr ?_;iterate 4 (refine qz ?_)
      iterate 4 (refine qz ?_)
      refine qz ?_ (fun w' hw'=>by obtain⟨c0,c1,c2,c3⟩:=F1.o w' hw';go_simp<;>rfl);iterate 4 (refine qz ?_)
      refine qz ?_ (fun w' hw'=>by obtain⟨c0,c1,c2,c3⟩:=F2.o w' hw';go_simp<;>rfl);refine qw (fun w' hw'=>FC.o w' hw') ?_;iterate 2 (refine qz ?_)
      refine wpQuiet_nil ?_;intro w3 hw3;have fB:=aa (eR.o.below hw3);clear hw3;go_wp2_with fail;obtain⟨pp,qq,hex⟩:=fB.o.ll HJ.o.1 HJ.o.2 hxj PK;have pB:=aa hex;obtain⟨mz,EG,x0,x1,x2,x3,y0,y1,y2,y3,dS,hap,-⟩:=hex;obtain⟨n0,n1,n2,n3,n4,n5,n6⟩:=hap ae;clear F1 F2 FC hap;go_big_region
      all_goals
       clear x0 x1 x2 x3 y0 y1 y2 y3 n0 n1 n2 n3 n4 n5 n6 dS;have hdone:=aa pB.o.done;go_wp2;have hst:insInner (ltOf (aR bt)) a jp (swp dj (jp+1) jp)=insInner (ltOf (aR bt)) a i dk:=by
        have:=insInner_go (lt:=ltOf (aR bt)) a (jp+1) dj hja (by rw[Nat.add_sub_cancel,hxj,PK];exact decide_eq_true hlv);rw[Nat.add_sub_cancel]at this;rw[<- HI.out,this]
       exact⟨⟨jp,swp dj (jp+1) jp,rfl,ae,ae,by rw[size_swp];exact BH.o,hdone.o,hst⟩,by simp[intOf]⟩
     ·go_wp2_with fail;refine wq Wr ?_;iterate 4 (refine qz ?_)
      iterate 4 (refine qz ?_)
      refine qz ?_ (fun w' hw'=>by obtain⟨c0,c1,c2,c3⟩:=F1.o w' hw';go_simp<;>rfl);iterate 4 (refine qz ?_)
      refine qz ?_ (fun w' hw'=>by obtain⟨c0,c1,c2,c3⟩:=F2.o w' hw';go_simp<;>rfl);refine qw (fun w' hw'=>FC.o w' hw') ?_;iterate 2 (refine qz ?_)
      refine wpQuiet_nil ?_;intro w3 hw3;have fB:=aa (eR.o.below hw3);clear hw3;go_wp2;have mG:=aa (OUT.o (.inr (by rw[Nat.add_sub_cancel,hxj,PK];exact decide_eq_false ae)));exact⟨⟨i+1,dj,by go_num,ae,ae,BH.o,fB.o,mG⟩,by simp[intOf];omega⟩
    ·have ah6:¬(a:Int)<(j:Int):=by omega
     go_wp2_with fail;go_quiet (fail)
     go_wp2;have vt:RowKit.Below Wr.heap.size Wr (Wr.drewN nq):=⟨rfl,rfl,rfl,Nat.le_refl _,fun _ _=>rfl⟩;exact⟨⟨i+1,dj,by go_num,ae,ae,BH.o,eR.o.below vt,aa (OUT.o (.inl ae))⟩,by simp[intOf];omega⟩
  ·have EF:¬(i:Int)<(b:Int):=by omega
   go_wp2;go_end0
   exact⟨rfl,by unfold insertionSort;rw[<- HO.out,insOuter_stop _ _ _ _ _ hlt];exact HS.o⟩
end
end
section
open Go.RowKit Go.Maps Go.Sort
section
variable {bt:Bool} {w0 W W':World} {jb pb bf made base g cap:Nat} {d:Array aJ}
def Reads(bt:Bool)(W:World)(jb g p q:Nat)(x y:aJ):Prop:=∀w',RowKit.Below W.heap.size W w' ->
 (w'.cell? ⟨g,p,none⟩=some (.int .u32 (x.t.toNat:Int))/\w'.cell? ⟨g,p+1,none⟩=some (.int .u32 (x.h.toNat:Int))/\w'.cell? ⟨g,p+2,none⟩=some (.int .u64 (x.x.toNat:Int))/\w'.cell? ⟨g,p+3,none⟩=some (.int .u32 (x.m.toNat:Int))) /\
 (w'.cell? ⟨g,q,none⟩=some (.int .u32 (y.t.toNat:Int))/\w'.cell? ⟨g,q+1,none⟩=some (.int .u32 (y.h.toNat:Int))/\w'.cell? ⟨g,q+2,none⟩=some (.int .u64 (y.x.toNat:Int))/\w'.cell? ⟨g,q+3,none⟩=some (.int .u32 (y.m.toNat:Int))) /\
 Calls prog 224 #[.pointer (some ⟨jb,0,none⟩),.agg #[.int .u32 (x.t.toNat:Int),.int .u32 (x.h.toNat:Int),.int .u64 (x.x.toNat:Int),.int .u32 (x.m.toNat:Int)],.agg #[.int .u32 (y.t.toNat:Int),.int .u32 (y.h.toNat:Int),.int .u64 (y.x.toNat:Int),.int .u32 (y.m.toNat:Int)]] w'
  fun e w''=>e=.returned (.int .i64 (aR bt x y))/\RowKit.Below W.heap.size W w''
theorem fA.reads(h:fA bt w0 jb pb bf made base g cap d W){i j:Nat}(hi:i<d.size)(hj:j<d.size){x y:aJ}(hx:d[i]! = x)(hy:d[j]! = y):Reads bt W jb g (i*4) (j*4) x y:=fun _ hw'=>
 ⟨hx▸(h.below hw').cells hi,hy▸(h.below hw').cells hj,((h.below hw').cmp x y).mono fun _ _ ⟨h1,h2⟩=>⟨h1,hw'.trans (h2.mono hw'.size)⟩⟩
end
end
section
open Go.RowKit Go.Maps Go.Sort
section
variable {bt:Bool} {w0 W W':World} {jb pb bf made base g cap:Nat} {d:Array aJ}
theorem EH{lt:aJ->aJ->Bool}{hi first root:Nat}{d:Array aJ}(h:hi<=2*root+1):siftDown lt hi first root d=d:=by
 unfold siftDown;rw[dif_pos h]
theorem Au{lt:aJ->aJ->Bool}{hi first root:Nat}{d:Array aJ}(h:2*root+2<hi)(h1:lt d[first+(2*root+1)]! d[first+(2*root+1)+1]! = true) :
 siftDown lt hi first root d=if lt d[first+root]! d[first+(2*root+2)]! = true then siftDown lt hi first (2*root+2) (swp d (first+root) (first+(2*root+2))) else d:=by
 conv=>lhs;unfold siftDown
 rw[dif_neg ae,if_pos (by rw[h1];simp;omega)];cases lt d[first+root]! d[first+(2*root+2)]! <;> simp[h]
theorem Cr{lt:aJ->aJ->Bool}{hi first root:Nat}{d:Array aJ}(h:2*root+1<hi)(h1:¬2*root+2<hi\/lt d[first+(2*root+1)]! d[first+(2*root+1)+1]! = false) :
 siftDown lt hi first root d=if lt d[first+root]! d[first+(2*root+1)]! = true then siftDown lt hi first (2*root+1) (swp d (first+root) (first+(2*root+1))) else d:=by
 conv=>lhs;unfold siftDown
 rw[dif_neg ae,if_neg (by
  intro e;simp only[Bool.and_eq_true,decide_eq_true_eq]at e;rcases h1 with h1 | h1
  ·omega
  ·rw[h1]at e;simp at e)]
 cases lt d[first+root]! d[first+(2*root+1)]! <;> simp
theorem pX{lt:aJ->aJ->Bool}{hi first r C1 P Q Q1:Nat}{d:Array aJ}(e2:C1=2*r+2)(e3:P=first+r)(e4:Q=first+(2*r+1))(e5:Q1=first+(2*r+2))(h:C1<hi)(h1:lt d[Q]! d[Q1]! = true) :
 siftDown lt hi first r d=if lt d[P]! d[Q1]! = true then siftDown lt hi first C1 (swp d P Q1) else d:=by
 subst e2 e3 e4 e5;exact Au h h1
theorem js{lt:aJ->aJ->Bool}{hi first r C P Q Q1:Nat}{d:Array aJ}(e1:C=2*r+1)(e3:P=first+r)(e4:Q=first+(2*r+1))(e5:Q1=first+(2*r+2))(h:C<hi)(h1:¬2*r+2<hi\/lt d[Q]! d[Q1]! = false) :
 siftDown lt hi first r d=if lt d[P]! d[Q]! = true then siftDown lt hi first C (swp d P Q) else d:=by
 subst e1 e3 e4 e5;exact Cr h h1
theorem EI(h:fA bt w0 jb pb bf made base g cap d W)(lo hi first:Nat)(JA:lo<=hi)(hb:first+hi<=d.size)(hsz:d.size<=1000000) :
 Calls prog 315 #[.slice (some ⟨g,0,none⟩) d.size cap,.int .i64 (lo:Int),.int .i64 (hi:Int),.int .i64 (first:Int),cN jb] W (mN bt w0 jb pb bf made base g cap (siftDown (ltOf (aR bt)) hi first lo d)):=by
 have H:=aa h;clear h;obtain⟨N,hN⟩:∃N,N=d.size:=⟨_,rfl⟩;rw[<- hN]at hb hsz ⊢;have HN:=aa hN;clear hN;unfold cN ptrTo;go_enter func315,ntmps315;go_wp2;go_loopw [10] (fun vi wr=>∃(r:Nat)(dk:Array aJ),vi=.int .i64 (r:Int)/\r<=hi/\dk.size=N/\fA bt w0 jb pb bf made base g cap dk wr/\Hid (siftDown (ltOf (aR bt)) hi first r dk=siftDown (ltOf (aR bt)) hi first lo d)) (fun vi _=>hi-(intOf vi).toNat)
 case atStart=>exact⟨lo,d,rfl,JA,HN.o.symm,H.o,rfl⟩
 case round=>
  obtain⟨r,dk,rfl,hr,hsk,hs,HO⟩:=hrel;generalize wr=Wr at *;have HS:=aa hs;have Dt:=aa hsk;clear hs;obtain⟨R2,hR2⟩:∃x,x=2*r:=⟨_,rfl⟩;obtain⟨C,hC⟩:∃x,x=R2+1:=⟨_,rfl⟩;obtain⟨C1,Xp⟩:∃x,x=C+1:=⟨_,rfl⟩;obtain⟨P,hP⟩:∃x,x=first+r:=⟨_,rfl⟩;obtain⟨Q,hQ⟩:∃x,x=first+C:=⟨_,rfl⟩;obtain⟨Q1,hQ1⟩:∃x,x=Q+1:=⟨_,rfl⟩;have wR2:IntKind.i64.wrap (2*(r:Int))=(R2:Int):=by rw[ax]<;>omega
  have wC:IntKind.i64.wrap ((R2:Int)+1)=(C:Int):=by rw[ax]<;>omega
  have wC1:IntKind.i64.wrap ((C:Int)+1)=(C1:Int):=by rw[ax]<;>omega
  have wP:IntKind.i64.wrap ((first:Int)+(r:Int))=(P:Int):=by rw[ax]<;>omega
  have wQ:IntKind.i64.wrap ((first:Int)+(C:Int))=(Q:Int):=by rw[ax]<;>omega
  have wQ1:IntKind.i64.wrap ((Q:Int)+1)=(Q1:Int):=by rw[ax]<;>omega
  have aoU:IntKind.i64.wrap ((first:Int)+(C1:Int))=(Q1:Int):=by rw[ax]<;>omega
  have HE:Hid (C=2*r+1/\C1=2*r+2/\P=first+r/\Q=first+(2*r+1)/\Q1=first+(2*r+2)):=aa ae;by_cases hch:C<hi
  ·have Zj:¬(C:Int) >= (hi:Int):=by omega
   have bP:(P:Int)<(N:Int):=by omega
   have bQ:(Q:Int)<(N:Int):=by omega
   by_cases hc1:C1<hi
   ·have ah8:(C1:Int)<(hi:Int):=by omega
    have bQ1:(Q1:Int)<(N:Int):=by omega
    have HB:Hid (P<dk.size/\Q<dk.size/\Q1<dk.size/\P≠Q/\P≠Q1/\C<hi/\C1<hi/\r<C/\r<C1):=aa ae;clear hR2 hC Xp hP hQ hQ1 hsk;obtain⟨xq,hxq⟩:∃x,dk[Q]! = x:=⟨_,rfl⟩;obtain⟨xq1,Rq⟩:∃x,dk[Q1]! = x:=⟨_,rfl⟩;have F1:=aa (HS.o.reads (i:=Q) (j:=Q1) (by have:=HB.o;omega) (by have:=HB.o;omega) hxq Rq);by_cases Kg:aR bt xq xq1<0
    ·go_wp2_with fail;refine wq Wr ?_;iterate 11 (refine qz ?_)
     refine qz ?_ (fun w' hw'=>by obtain⟨⟨c0,c1,c2,c3⟩,-,-⟩:=F1.o w' hw';go_simp<;>rfl);iterate 6 (refine qz ?_)
     refine qz ?_ (fun w' hw'=>by obtain⟨-,⟨c0,c1,c2,c3⟩,-⟩:=F1.o w' hw';go_simp<;>rfl);refine qw (fun w' hw'=>(F1.o w' hw').2.2) ?_;iterate 2 (refine qz ?_)
     refine wpQuiet_nil ?_;intro w4 hw4;have gq:=aa (HS.o.below hw4);clear hw4;go_wp2_with fail;obtain⟨xr,BI⟩:∃x,dk[P]! = x:=⟨_,rfl⟩;obtain⟨xc,BJ⟩:∃x,dk[Q1]! = x:=⟨_,rfl⟩;have F2:=aa (gq.o.reads (i:=P) (j:=Q1) (by have:=HB.o;omega) (by have:=HB.o;omega) BI BJ);by_cases hl2:aR bt xr xc<0
     ·go_wp2_with fail;refine wq w4 ?_;iterate 6 (refine qz ?_)
      refine qz ?_ (fun w' hw'=>by obtain⟨⟨c0,c1,c2,c3⟩,-,-⟩:=F2.o w' hw';go_simp<;>rfl);iterate 5 (refine qz ?_)
      refine qz ?_ (fun w' hw'=>by obtain⟨-,⟨c0,c1,c2,c3⟩,-⟩:=F2.o w' hw';go_simp<;>rfl);refine qw (fun w' hw'=>(F2.o w' hw').2.2) ?_;iterate 2 (refine qz ?_)
      refine wpQuiet_nil ?_;intro w5 fL;have b9:=aa (gq.o.below fL);clear fL;go_wp2_with fail;obtain⟨pp,qq,hex⟩:=b9.o.ll (i:=P) (j:=Q1) (by have:=HB.o;omega) (by have:=HB.o;omega) BI BJ;have pB:=aa hex;obtain⟨mz,EG,x0,x1,x2,x3,y0,y1,y2,y3,dS,hap,-⟩:=hex;obtain⟨n0,n1,n2,n3,n4,n5,n6⟩:=hap (by have:=HB.o;omega);clear F2 hap F1;go_big_region
      all_goals
       clear x0 x1 x2 x3 y0 y1 y2 y3 n0 n1 n2 n3 n4 n5 n6 dS;have hdone:=aa pB.o.done;go_wp2;refine⟨⟨C1,swp dk P Q1,rfl,?_,by rw[size_swp];exact Dt.o,hdone.o,?_⟩,?_⟩
       ·have:=HB.o;omega
       ·exact(by
         obtain⟨e1,e2,e3,e4,e5⟩:=HE.o;show siftDown _ _ _ _ _=_;rw[<- HO.out,pX e2 e3 e4 e5 hc1 (by rw[hxq,Rq];exact decide_eq_true Kg),BI,BJ,if_pos (by exact decide_eq_true hl2)])
       ·have:=HB.o;simp[intOf];omega
     ·have ac3:decide (aR bt xr xc<0)=false:=decide_eq_false hl2;go_wp2_with fail;refine wq w4 ?_;iterate 6 (refine qz ?_)
      refine qz ?_ (fun w' hw'=>by obtain⟨⟨c0,c1,c2,c3⟩,-,-⟩:=F2.o w' hw';go_simp<;>rfl);iterate 5 (refine qz ?_)
      refine qz ?_ (fun w' hw'=>by obtain⟨-,⟨c0,c1,c2,c3⟩,-⟩:=F2.o w' hw';go_simp<;>rfl);refine qw (fun w' hw'=>(F2.o w' hw').2.2) ?_;iterate 2 (refine qz ?_)
      refine wpQuiet_nil ?_;intro w5 fL;have b9:=aa (gq.o.below fL);clear fL;go_wp2;go_returns;refine⟨rfl,?_⟩;rw[show siftDown (ltOf (aR bt)) hi first lo d=dk from by
       obtain⟨e1,e2,e3,e4,e5⟩:=HE.o;rw[<- HO.out,pX e2 e3 e4 e5 hc1 (by rw[hxq,Rq];exact decide_eq_true Kg),BI,BJ,if_neg (by intro e;have:=of_decide_eq_true e;omega)]]
      exact b9.o
    ·have aoW:decide (aR bt xq xq1<0)=false:=decide_eq_false Kg;go_wp2_with fail;refine wq Wr ?_;iterate 11 (refine qz ?_)
     refine qz ?_ (fun w' hw'=>by obtain⟨⟨c0,c1,c2,c3⟩,-,-⟩:=F1.o w' hw';go_simp<;>rfl);iterate 6 (refine qz ?_)
     refine qz ?_ (fun w' hw'=>by obtain⟨-,⟨c0,c1,c2,c3⟩,-⟩:=F1.o w' hw';go_simp<;>rfl);refine qw (fun w' hw'=>(F1.o w' hw').2.2) ?_;iterate 2 (refine qz ?_)
     refine wpQuiet_nil ?_;intro w4 hw4;have gq:=aa (HS.o.below hw4);clear hw4;go_wp2_with fail;obtain⟨xr,BI⟩:∃x,dk[P]! = x:=⟨_,rfl⟩;obtain⟨xc,BJ⟩:∃x,dk[Q]! = x:=⟨_,rfl⟩;have F2:=aa (gq.o.reads (i:=P) (j:=Q) (by have:=HB.o;omega) (by have:=HB.o;omega) BI BJ);by_cases hl2:aR bt xr xc<0
     ·go_wp2_with fail;refine wq w4 ?_;iterate 6 (refine qz ?_)
      refine qz ?_ (fun w' hw'=>by obtain⟨⟨c0,c1,c2,c3⟩,-,-⟩:=F2.o w' hw';go_simp<;>rfl);iterate 5 (refine qz ?_)
      refine qz ?_ (fun w' hw'=>by obtain⟨-,⟨c0,c1,c2,c3⟩,-⟩:=F2.o w' hw';go_simp<;>rfl);refine qw (fun w' hw'=>(F2.o w' hw').2.2) ?_;iterate 2 (refine qz ?_)
      refine wpQuiet_nil ?_;intro w5 fL;have b9:=aa (gq.o.below fL);clear fL;go_wp2_with fail;obtain⟨pp,qq,hex⟩:=b9.o.ll (i:=P) (j:=Q) (by have:=HB.o;omega) (by have:=HB.o;omega) BI BJ;have pB:=aa hex;obtain⟨mz,EG,x0,x1,x2,x3,y0,y1,y2,y3,dS,hap,-⟩:=hex;obtain⟨n0,n1,n2,n3,n4,n5,n6⟩:=hap (by have:=HB.o;omega);clear F2 hap F1;go_big_region
      all_goals
       clear x0 x1 x2 x3 y0 y1 y2 y3 n0 n1 n2 n3 n4 n5 n6 dS;have hdone:=aa pB.o.done;go_wp2;refine⟨⟨C,swp dk P Q,rfl,?_,by rw[size_swp];exact Dt.o,hdone.o,?_⟩,?_⟩
       ·have:=HB.o;omega
       ·exact(by
         obtain⟨e1,e2,e3,e4,e5⟩:=HE.o;show siftDown _ _ _ _ _=_;rw[<- HO.out,js e1 e3 e4 e5 hch (.inr (by rw[hxq,Rq];exact decide_eq_false ae)),BI,BJ,if_pos (by exact decide_eq_true hl2)])
       ·have:=HB.o;simp[intOf];omega
     ·have ac3:decide (aR bt xr xc<0)=false:=decide_eq_false hl2;go_wp2_with fail;refine wq w4 ?_;iterate 6 (refine qz ?_)
      refine qz ?_ (fun w' hw'=>by obtain⟨⟨c0,c1,c2,c3⟩,-,-⟩:=F2.o w' hw';go_simp<;>rfl);iterate 5 (refine qz ?_)
      refine qz ?_ (fun w' hw'=>by obtain⟨-,⟨c0,c1,c2,c3⟩,-⟩:=F2.o w' hw';go_simp<;>rfl);refine qw (fun w' hw'=>(F2.o w' hw').2.2) ?_;iterate 2 (refine qz ?_)
      refine wpQuiet_nil ?_;intro w5 fL;have b9:=aa (gq.o.below fL);clear fL;go_wp2;go_returns;refine⟨rfl,?_⟩;rw[show siftDown (ltOf (aR bt)) hi first lo d=dk from by
       obtain⟨e1,e2,e3,e4,e5⟩:=HE.o;rw[<- HO.out,js e1 e3 e4 e5 hch (.inr (by rw[hxq,Rq];exact decide_eq_false ae)),BI,BJ,if_neg (by intro e;have:=of_decide_eq_true e;omega)]]
      exact b9.o
   ·have ah8:¬(C1:Int)<(hi:Int):=by omega
    have HB:Hid (P<dk.size/\Q<dk.size/\P≠Q/\C<hi/\¬C1<hi/\r<C):=aa ae;clear hR2 hC Xp hP hQ hQ1 hsk;go_wp2_with fail;go_quiet (fail)
    have vt:RowKit.Below Wr.heap.size Wr (Wr.drewN nq):=⟨rfl,rfl,rfl,Nat.le_refl _,fun _ _=>rfl⟩;have gq:=aa (HS.o.below vt);clear vt;generalize Wr.drewN nq=w4 at *;go_wp2_with fail;obtain⟨xr,BI⟩:∃x,dk[P]! = x:=⟨_,rfl⟩;obtain⟨xc,BJ⟩:∃x,dk[Q]! = x:=⟨_,rfl⟩;have F2:=aa (gq.o.reads (i:=P) (j:=Q) (by have:=HB.o;omega) (by have:=HB.o;omega) BI BJ);by_cases hl2:aR bt xr xc<0
    ·go_wp2_with fail;refine wq w4 ?_;iterate 6 (refine qz ?_)
     refine qz ?_ (fun w' hw'=>by obtain⟨⟨c0,c1,c2,c3⟩,-,-⟩:=F2.o w' hw';go_simp<;>rfl);iterate 5 (refine qz ?_)
     refine qz ?_ (fun w' hw'=>by obtain⟨-,⟨c0,c1,c2,c3⟩,-⟩:=F2.o w' hw';go_simp<;>rfl);refine qw (fun w' hw'=>(F2.o w' hw').2.2) ?_;iterate 2 (refine qz ?_)
     refine wpQuiet_nil ?_;intro w5 fL;have b9:=aa (gq.o.below fL);clear fL;go_wp2_with fail;obtain⟨pp,qq,hex⟩:=b9.o.ll (i:=P) (j:=Q) (by have:=HB.o;omega) (by have:=HB.o;omega) BI BJ;have pB:=aa hex;obtain⟨mz,EG,x0,x1,x2,x3,y0,y1,y2,y3,dS,hap,-⟩:=hex;obtain⟨n0,n1,n2,n3,n4,n5,n6⟩:=hap (by have:=HB.o;omega);clear F2 hap;go_big_region
     all_goals
      clear x0 x1 x2 x3 y0 y1 y2 y3 n0 n1 n2 n3 n4 n5 n6 dS;have hdone:=aa pB.o.done;go_wp2;refine⟨⟨C,swp dk P Q,rfl,?_,by rw[size_swp];exact Dt.o,hdone.o,?_⟩,?_⟩
      ·have:=HB.o;omega
      ·exact(by
        obtain⟨e1,e2,e3,e4,e5⟩:=HE.o;show siftDown _ _ _ _ _=_;rw[<- HO.out,js e1 e3 e4 e5 hch (.inl (by have:=HB.o;omega)),BI,BJ,if_pos (by exact decide_eq_true hl2)])
      ·have:=HB.o;simp[intOf];omega
    ·have ac3:decide (aR bt xr xc<0)=false:=decide_eq_false hl2;go_wp2_with fail;refine wq w4 ?_;iterate 6 (refine qz ?_)
     refine qz ?_ (fun w' hw'=>by obtain⟨⟨c0,c1,c2,c3⟩,-,-⟩:=F2.o w' hw';go_simp<;>rfl);iterate 5 (refine qz ?_)
     refine qz ?_ (fun w' hw'=>by obtain⟨-,⟨c0,c1,c2,c3⟩,-⟩:=F2.o w' hw';go_simp<;>rfl);refine qw (fun w' hw'=>(F2.o w' hw').2.2) ?_;iterate 2 (refine qz ?_)
     refine wpQuiet_nil ?_;intro w5 fL;have b9:=aa (gq.o.below fL);clear fL;go_wp2;go_returns;refine⟨rfl,?_⟩;rw[show siftDown (ltOf (aR bt)) hi first lo d=dk from by
      obtain⟨e1,e2,e3,e4,e5⟩:=HE.o;rw[<- HO.out,js e1 e3 e4 e5 hch (.inl (by have:=HB.o;omega)),BI,BJ,if_neg (by intro e;have:=of_decide_eq_true e;omega)]]
     exact b9.o
  ·have Zj:(C:Int) >= (hi:Int):=by omega
   go_wp2;go_returns;refine⟨rfl,?_⟩;rw[show siftDown (ltOf (aR bt)) hi first lo d=dk from by rw[<- HO.out,EH ae]];exact HS.o
end
end
section
open Go.RowKit Go.Maps Go.Sort
section
variable {bt:Bool} {w0 W W':World} {jb pb bf made base g cap:Nat} {d:Array aJ}
theorem fA.ir(h:fA bt w0 jb pb bf made base g cap d W){i:Nat}(hi:i<d.size){x:aJ}(hx:d[i]! = x):∃p,i*4=p /\
 (W.cell? ⟨g,p,none⟩=some (.int .u32 (x.t.toNat:Int))/\W.cell? ⟨g,p+1,none⟩=some (.int .u32 (x.h.toNat:Int))/\W.cell? ⟨g,p+2,none⟩=some (.int .u64 (x.x.toNat:Int))/\W.cell? ⟨g,p+3,none⟩=some (.int .u32 (x.m.toNat:Int)))/\(∀k,W.frozen? ⟨g,k,none⟩=false) /\
 fA bt w0 jb pb bf made base g cap (swp d i i) (((((((((W.setCell ⟨g,p,none⟩ (.int .u32 (x.t.toNat:Int))).setCell ⟨g,p+1,none⟩ (.int .u32 (x.h.toNat:Int))).setCell ⟨g,p+2,none⟩ (.int .u64 (x.x.toNat:Int))).setCell ⟨g,p+3,none⟩ (.int .u32 (x.m.toNat:Int))).setCell ⟨g,p,none⟩ (.int .u32 (x.t.toNat:Int))).setCell ⟨g,p+1,none⟩ (.int .u32 (x.h.toNat:Int))).setCell ⟨g,p+2,none⟩ (.int .u64 (x.x.toNat:Int))).setCell ⟨g,p+3,none⟩ (.int .u32 (x.m.toNat:Int))).drew):=by
 obtain⟨p,q,hex⟩:=h.ll hi hi hx hx;have e:p=q:=by rw[<- hex.hp,<- hex.hq]
 subst e;exact⟨p,hex.hp,⟨hex.p0,hex.p1,hex.p2,hex.p3⟩,hex.fr,hex.done⟩
theorem EJ(h:fA bt w0 jb pb bf made base g cap d W)(a b:Nat)(hab:a<b)(hb:b<=d.size)(hsz:d.size<=1000000) :
 Calls prog 306 #[.slice (some ⟨g,0,none⟩) d.size cap,.int .i64 (a:Int),.int .i64 (b:Int),cN jb] W (mN bt w0 jb pb bf made base g cap (heapSort (ltOf (aR bt)) d a b)):=by
 obtain⟨n,hn⟩:∃n,b=a+n:=⟨b-a,ae⟩;have H:=aa h;clear h;obtain⟨N,hN⟩:∃N,N=d.size:=⟨_,rfl⟩;rw[<- hN]at hb hsz ⊢;have HN:=aa hN;clear hN;have PL:Hid (∀(W:World)(dk:Array aJ),dk.size=N->fA bt w0 jb pb bf made base g cap dk W->∀(lo hi:Nat),lo<=hi->hi<=n->Calls prog 315 #[.slice (some ⟨g,0,none⟩) N cap,.int .i64 (lo:Int),.int .i64 (hi:Int),.int .i64 (a:Int),cN jb] W (mN bt w0 jb pb bf made base g cap (siftDown (ltOf (aR bt)) hi a lo dk))):=aa (fun W dk hs h lo hi h1 h2=>by
  rw[<- hs];exact EI h lo hi a h1 ae ae)
 have HPL:Hid (heapSort (ltOf (aR bt)) d a b=heapPop (ltOf (aR bt)) a n (heapBuild (ltOf (aR bt)) n a ((n-1)/2+1) d)):=aa (by unfold heapSort;rw[show b-a=n by omega]);have w1:IntKind.i64.wrap ((b:Int)-(a:Int))=(n:Int):=by rw[ax]<;>omega
 have w2:IntKind.i64.wrap ((n:Int)-1)=(n:Int)-1:=ax ae ae;have w3:IntKind.i64.wrap (((n:Int)-1).tdiv 2)=(((n-1)/2:Nat):Int):=by
  rw[show((n:Int)-1)=((n-1:Nat):Int) by omega,show(((n-1:Nat):Int)).tdiv 2=(((n-1)/2:Nat):Int) from rfl];exact ax ae ae
 obtain⟨M,hM⟩:∃M,M=(n-1)/2:=⟨_,rfl⟩;have hMn:M<=n:=by omega
 rw[<- hM]at w3;have HM:=aa hM;clear hM;have hnN:a+n<=N:=by omega
 have han:(a:Int)<(N:Int):=by omega
 clear hn hab hb;unfold cN ptrTo at *;go_enter func306,ntmps306;go_wp2;go_loopw [11] (fun vi wr=>∃(z:Int)(k:Nat)(dk:Array aJ),vi=.int .i64 z/\z=(k:Int)-1/\k<=M+1/\dk.size=N/\fA bt w0 jb pb bf made base g cap dk wr/\Hid (heapBuild (ltOf (aR bt)) n a k dk=heapBuild (ltOf (aR bt)) n a (M+1) d)) (fun vi _=>(intOf vi+1).toNat)
 case atStart=>exact⟨(M:Int),M+1,d,rfl,ae,Nat.le_refl _,HN.o.symm,H.o,rfl⟩
 case round=>
  obtain⟨z,k,dk,rfl,hz,hk,hsk,hs,HO⟩:=hrel;generalize wr=Wr at *;have HS:=aa hs;have Dt:=aa hsk;clear hs hsk;cases k with
  |succ kp=>
    obtain rfl:z=(kp:Int):=by omega
    have hz0:¬(kp:Int)<0:=by omega
    have w4:IntKind.i64.wrap ((kp:Int)-1)=(kp:Int)-1:=ax ae ae;have hc:=aa (PL.o Wr dk Dt.o HS.o kp n ae (Nat.le_refl _));clear hz;go_wp2_with fail;refine hc.o.mono ?_;rintro e w5⟨rfl,hs5⟩;have b9:=aa hs5;clear hs5 hc;go_wp2;refine⟨⟨(kp:Int)-1,kp,siftDown (ltOf (aR bt)) n a kp dk,rfl,rfl,ae,by rw[size_siftDown _ n a n kp dk ae];exact Dt.o,b9.o,?_⟩,by simp[intOf]⟩;show heapBuild _ _ _ _ _=_;rw[<- HO.out];rfl
  |zero=>
    obtain rfl:z=-1:=by omega
    have HB:Hid (heapBuild (ltOf (aR bt)) n a (M+1) d=dk):=aa HO.out.symm;clear hz hk HO;go_wp2;go_loopw [12] (fun vi wr=>∃(z:Int)(k:Nat)(dj:Array aJ),vi=.int .i64 z/\z=(k:Int)-1/\k<=n/\dj.size=N/\fA bt w0 jb pb bf made base g cap dj wr/\Hid (heapPop (ltOf (aR bt)) a k dj=heapPop (ltOf (aR bt)) a n dk)) (fun vi _=>(intOf vi+1).toNat)
    case atStart=>exact⟨(n:Int)-1,n,dk,rfl,rfl,Nat.le_refl _,Dt.o,HS.o,rfl⟩
    case round=>
     obtain⟨z,k,dj,rfl,hz,hk,hsk,hs,HO⟩:=hrel;generalize wr=Wr2 at *;have eR:=aa hs;have BH:=aa hsk;clear hs hsk;cases k with
     |zero=>
       obtain rfl:z=-1:=by omega
       clear hz hk;go_wp2;go_end0
       refine⟨rfl,?_⟩;rw[HPL.o,<- HM.o,HB.o,<- HO.out];exact eR.o
     |succ kp=>
       obtain rfl:z=(kp:Int):=by omega
       have hz0:¬(kp:Int)<0:=by omega
       have w4:IntKind.i64.wrap ((kp:Int)-1)=(kp:Int)-1:=ax ae ae;obtain⟨x,hx⟩:∃x,dj[a]! = x:=⟨_,rfl⟩;clear hz;cases kp with
       |zero=>
         obtain⟨pp,mz,⟨x0,x1,x2,x3⟩,dS,hdone⟩:=eR.o.ir (i:=a) (by rw[BH.o];omega) hx;have Xq:=aa hdone;have wQ:IntKind.i64.wrap ((a:Int)+0)=(a:Int):=by rw[ax]<;>omega
         clear hdone;have hc:=aa (PL.o _ (swp dj a a) (by rw[size_swp];exact BH.o) Xq.o 0 0 (Nat.le_refl _) (Nat.zero_le _));simp only[Int.natCast_zero]at hc Xq;go_wp2_with fail;go_big_region
         all_goals
          clear x0 x1 x2 x3 dS;go_wp2_with fail;refine hc.o.mono ?_;rintro e w5⟨rfl,hs5⟩;have b9:=aa hs5;clear hs5 hc;go_wp2;refine⟨⟨-1,0,siftDown (ltOf (aR bt)) 0 a 0 (swp dj a a),rfl,rfl,Nat.zero_le _,by rw[size_siftDown _ 0 a 0 0 _ ae,size_swp];exact BH.o,b9.o,?_⟩,by simp[intOf]⟩;show heapPop _ _ _ _=_;rw[<- HO.out];rfl
       |succ kq=>
         obtain⟨Q,hQ⟩:∃Q,Q=a+(kq+1):=⟨_,rfl⟩;have wQ:IntKind.i64.wrap ((a:Int)+((kq:Int)+1))=(Q:Int):=by rw[ax]<;>omega
         have bQ:(Q:Int)<(N:Int):=by omega
         have HQ:Hid (Q<dj.size/\a<dj.size/\a≠Q):=aa (by have:=BH.o;omega);have HQE:=aa hQ;clear hQ;obtain⟨y,hy⟩:∃y,dj[Q]! = y:=⟨_,rfl⟩;obtain⟨pp,qq,hex⟩:=eR.o.ll (i:=a) (j:=Q) HQ.o.2.1 HQ.o.1 hx hy;have pB:=aa hex;obtain⟨mz,EG,x0,x1,x2,x3,y0,y1,y2,y3,dS,hap,-⟩:=hex;obtain⟨n0,n1,n2,n3,n4,n5,n6⟩:=hap HQ.o.2.2;have hc:=aa (PL.o _ (swp dj a Q) (by rw[size_swp];exact BH.o) pB.o.done 0 (kq+1) (Nat.zero_le _) ae);have hcz:((kq+1:Nat):Int)=(kq:Int)+1:=by omega
         simp only[Int.natCast_zero,hcz]at hc hz0 w4 ⊢;clear hap hcz;go_wp2_with fail;go_big_region
         all_goals
          clear x0 x1 x2 x3 y0 y1 y2 y3 n0 n1 n2 n3 n4 n5 n6 dS;go_wp2_with fail;refine hc.o.mono ?_;rintro e w5⟨rfl,hs5⟩;have b9:=aa hs5;clear hs5 hc;go_wp2;refine⟨⟨(kq:Int),kq+1,siftDown (ltOf (aR bt)) (kq+1) a 0 (swp dj a Q),rfl,ae,ae,by rw[size_siftDown _ (kq+1) a (kq+1) 0 _ ae,size_swp];exact BH.o,b9.o,?_⟩,by simp[intOf];omega⟩;show heapPop _ _ _ _=_;rw[<- HO.out,HQE.o];rfl
end
end
section
open Go.RowKit Go.Maps Go.Sort
section
variable {bt:Bool} {w0 W W':World} {jb pb bf made base g cap:Nat} {d:Array aJ}
theorem Av{i j:Nat}{d:Array aJ}(h:i<j):reverseLoop i j d=reverseLoop (i+1) (j-1) (swp d i j):=by
 conv=>lhs;unfold reverseLoop
 rw[if_pos h]
theorem wh{i j:Nat}{d:Array aJ}(h:¬i<j):reverseLoop i j d=d:=by
 unfold reverseLoop;rw[if_neg h]
theorem wm(h:fA bt w0 jb pb bf made base g cap d W)(a b:Nat)(hab:a<b)(hb:b<=d.size)(hsz:d.size<=1000000) :
 Calls prog 309 #[.slice (some ⟨g,0,none⟩) d.size cap,.int .i64 (a:Int),.int .i64 (b:Int),cN jb] W (mN bt w0 jb pb bf made base g cap (reverseRange d a b)):=by
 have H:=aa h;clear h;obtain⟨N,hN⟩:∃N,N=d.size:=⟨_,rfl⟩;rw[<- hN]at hb hsz ⊢;have HN:=aa hN;clear hN;obtain⟨j0,Ub⟩:∃j0,j0=b-1:=⟨_,rfl⟩;have w1:IntKind.i64.wrap ((b:Int)-1)=(j0:Int):=by rw[ax]<;>omega
 have aia:j0<N:=by omega
 have HJ0:=aa Ub;clear Ub;unfold cN ptrTo;go_enter func309,ntmps309;go_wp2;go_loopw [8,9] (fun vi vj wr=>∃(i j:Nat)(dk:Array aJ),vi=.int .i64 (i:Int)/\vj=.int .i64 (j:Int)/\i<=N/\j<N/\dk.size=N/\fA bt w0 jb pb bf made base g cap dk wr/\Hid (reverseLoop i j dk=reverseLoop a j0 d)) (fun _ vj _=>(intOf vj).toNat)
 case atStart=>exact⟨a,j0,d,rfl,rfl,ae,aia,HN.o.symm,H.o,rfl⟩
 case round=>
  obtain⟨i,j,dk,rfl,rfl,hi,hj,hsk,hs,HO⟩:=hrel;generalize wr=Wr at *;have HS:=aa hs;have Dt:=aa hsk;clear hs hsk;by_cases fg:i<j
  ·obtain⟨j',hj'⟩:∃j',j=j'+1:=⟨j-1,ae⟩;have qI:(i:Int)<(j:Int):=by omega
   have wi:IntKind.i64.wrap ((i:Int)+1)=(i:Int)+1:=ax ae ae;have wj:IntKind.i64.wrap ((j:Int)-1)=(j':Int):=by rw[ax]<;>omega
   have bi:(i:Int)<(N:Int):=by omega
   have bj:(j:Int)<(N:Int):=by omega
   have hjj:j'<j/\i+1<=N:=by omega
   obtain⟨x,hx⟩:∃x,dk[i]! = x:=⟨_,rfl⟩;obtain⟨y,hy⟩:∃y,dk[j]! = y:=⟨_,rfl⟩;obtain⟨pp,qq,hex⟩:=HS.o.ll (i:=i) (j:=j) (by rw[Dt.o];omega) (by rw[Dt.o];omega) hx hy;have pB:=aa hex;obtain⟨mz,EG,x0,x1,x2,x3,y0,y1,y2,y3,dS,hap,-⟩:=hex;obtain⟨n0,n1,n2,n3,n4,n5,n6⟩:=hap ae;have HJ':=aa hj';clear hap hj';go_wp2_with fail;go_big_region
   all_goals
    clear x0 x1 x2 x3 y0 y1 y2 y3 n0 n1 n2 n3 n4 n5 n6 dS;go_wp2;refine⟨⟨i+1,j',swp dk i j,by go_num,rfl,hjj.2,ae,by rw[size_swp];exact Dt.o,pB.o.done,?_⟩,by simp[intOf];omega⟩;show reverseLoop _ _ _=_;rw[<- HO.out,Av fg,show j-1=j' by have:=HJ'.o;omega]
  ·have qI:¬(i:Int)<(j:Int):=by omega
   go_wp2;go_end0
   refine⟨rfl,?_⟩;rw[show reverseRange d a b=dk from by unfold reverseRange;rw[<- HJ0.o,<- HO.out,wh ae]];exact HS.o
structure Cs(bt:Bool)(w0:World)(jb pb bf made base g cap:Nat)(d:Array aJ)(c s:Nat)(W:World):Prop where
 ux:fA bt w0 jb pb bf made base g cap d W
 box:∃T,W.heap[c]? = some (.cells #[.int .i64 (s:Int)] T (0,0))
 new:w0.heap.size<=c
 ng:c≠g
 nj:c≠jb
 nb:c≠bf
variable {c s:Nat}
theorem Cs.below(h:Cs bt w0 jb pb bf made base g cap d c s W)(hb:RowKit.Below W.heap.size W W'):Cs bt w0 jb pb bf made base g cap d c s W':=by
 obtain⟨T,hT⟩:=h.box;exact⟨h.ux.below hb,⟨T,by rw[hb.block c (Array.getElem?_eq_some_iff.1 hT).1];exact hT⟩,h.new,h.ng,h.nj,h.nb⟩
theorem Cs.cell(h:Cs bt w0 jb pb bf made base g cap d c s W):W.cell? ⟨c,0,none⟩=some (.int .i64 (s:Int))/\W.frozen? ⟨c,0,none⟩=false:=by
 obtain⟨T,hT⟩:=h.box;exact⟨by rw[aq hT];rfl,aO hT _⟩
theorem Cs.bump(h:Cs bt w0 jb pb bf made base g cap d c s W)(t:Nat):Cs bt w0 jb pb bf made base g cap d c t (W.setCell ⟨c,0,none⟩ (.int .i64 (t:Int))):=by
 obtain⟨T,hT⟩:=h.box;have ht:aH (·=c) W (W.setCell ⟨c,0,none⟩ (.int .i64 (t:Int))):=aH.setCell (aH.refl _ _) _ _ (.inl rfl);refine⟨⟨ht.ownsRow h.ux.row (fun b hb e=>?_),h.ux.EE.kept (ht.block _ h.ux.EE.lt.1 (fun e=>h.nj e.symm)) (ht.block _ h.ux.EE.lt.2 (fun e=>h.nb e.symm)),h.ux.nj,h.ux.nb,h.ux.turn.setCell _ _ (.inr h.new)⟩,⟨T,by rw[aT hT];rfl⟩,h.new,h.ng,h.nj,h.nb⟩;have:b=g:=by
  have:=hb;simp[Value.ownBlock]at this;exact this.symm
 exact h.ng (by rw[<- e,this])
def lp(bt:Bool)(w0:World)(jb pb bf made base g cap:Nat)(d:Array aJ)(c s:Nat)(v:Value)(e:Ending)(w':World):Prop:=e=.returned v/\Cs bt w0 jb pb bf made base g cap d c s w'
theorem Kt(h:Cs bt w0 jb pb bf made base g cap d c s W)(a b:Nat)(ha:a<d.size)(hb:b<d.size)(hs:s<=1000) :
 Calls prog 319 #[.slice (some ⟨g,0,none⟩) d.size cap,.int .i64 (a:Int),.int .i64 (b:Int),ptrTo c,cN jb] W
  (lp bt w0 jb pb bf made base g cap d c (order2 (ltOf (aR bt)) d a b s).2.2 (.tuple #[.int .i64 ((order2 (ltOf (aR bt)) d a b s).1:Int),.int .i64 ((order2 (ltOf (aR bt)) d a b s).2.1:Int)])):=by
 have H:=aa h;have ba:(a:Int)<(d.size:Int):=by omega
 have bb:(b:Int)<(d.size:Int):=by omega
 have ws:IntKind.i64.wrap ((s:Int)+1)=((s+1:Nat):Int):=by rw[ax]<;>omega
 obtain⟨x,hx⟩:∃x,d[b]! = x:=⟨_,rfl⟩;obtain⟨y,hy⟩:∃y,d[a]! = y:=⟨_,rfl⟩;have F:=aa (h.ux.reads (i:=b) (j:=a) hb ha hx hy);unfold order2;rw[hx,hy];clear h ha hb;unfold cN ptrTo;by_cases hl:aR bt x y<0
 ·rw[if_pos (show ltOf (aR bt) x y=true from decide_eq_true hl)];generalize d.size=N at *;go_enter func319,ntmps319;go_wp2_with fail;refine wq W ?_;iterate 4 (refine qz ?_)
  refine qz ?_ (fun w' hw'=>by obtain⟨⟨c0,c1,c2,c3⟩,-,-⟩:=F.o w' hw';go_simp<;>rfl);iterate 3 (refine qz ?_)
  refine qz ?_ (fun w' hw'=>by obtain⟨-,⟨c0,c1,c2,c3⟩,-⟩:=F.o w' hw';go_simp<;>rfl);refine qw (fun w' hw'=>(F.o w' hw').2.2) ?_;iterate 1 (refine qz ?_)
  refine wpQuiet_nil ?_;intro w3 hw3;have H3:=aa (H.o.below hw3);clear hw3;have Rs:=aa (H3.o.bump (s+1));obtain⟨hc,hf⟩:=H3.o.cell;go_wp2;go_ret2;exact⟨rfl,Rs.o⟩
 ·rw[if_neg (show ¬ltOf (aR bt) x y=true from fun e=>hl (of_decide_eq_true e))];generalize d.size=N at *;go_enter func319,ntmps319;go_wp2_with fail;refine wq W ?_;iterate 4 (refine qz ?_)
  refine qz ?_ (fun w' hw'=>by obtain⟨⟨c0,c1,c2,c3⟩,-,-⟩:=F.o w' hw';go_simp<;>rfl);iterate 3 (refine qz ?_)
  refine qz ?_ (fun w' hw'=>by obtain⟨-,⟨c0,c1,c2,c3⟩,-⟩:=F.o w' hw';go_simp<;>rfl);refine qw (fun w' hw'=>(F.o w' hw').2.2) ?_;iterate 1 (refine qz ?_)
  refine wpQuiet_nil ?_;intro w3 hw3;have H3:=aa (H.o.below hw3);clear hw3;go_wp2;go_ret2;exact⟨rfl,H3.o⟩
end
end
section
open Go.RowKit Go.Maps Go.Sort
section
variable {bt:Bool} {w0 W W':World} {jb pb bf made base g cap c s:Nat} {d:Array aJ}
theorem oC(lt:aJ->aJ->Bool)(d:Array aJ){a b s N:Nat}(ha:a<N)(hb:b<N):(order2 lt d a b s).1<N/\(order2 lt d a b s).2.1<N/\(order2 lt d a b s).2.2<=s+1:=by
 unfold order2;split<;>exact⟨by assumption,by assumption,ah⟩
theorem N1(lt:aJ->aJ->Bool)(d:Array aJ){a b c s N:Nat}(ha:a<N)(hb:b<N)(hc:c<N):(median lt d a b c s).1<N/\(median lt d a b c s).2<=s+3:=by
 unfold median;obtain⟨h1,h2,h3⟩:=oC lt d (s:=s) ha hb;obtain⟨k1,k2,k3⟩:=oC lt d (s:=(order2 lt d a b s).2.2) h2 hc;obtain⟨q1,q2,q3⟩:=oC lt d (s:=(order2 lt d (order2 lt d a b s).2.1 c (order2 lt d a b s).2.2).2.2) h1 k1;exact⟨q2,Nat.le_trans q3 ae⟩
theorem sY(h:Cs bt w0 jb pb bf made base g cap d c s W)(a b k:Nat)(ha:a<d.size)(hb:b<d.size)(hk:k<d.size)(hs:s<=900) :
 Calls prog 317 #[.slice (some ⟨g,0,none⟩) d.size cap,.int .i64 (a:Int),.int .i64 (b:Int),.int .i64 (k:Int),ptrTo c,cN jb] W
  (lp bt w0 jb pb bf made base g cap d c (median (ltOf (aR bt)) d a b k s).2 (.int .i64 ((median (ltOf (aR bt)) d a b k s).1:Int))):=by
 have HO:Hid (∀W a b s,Cs bt w0 jb pb bf made base g cap d c s W->a<d.size->b<d.size->s<=1000->Calls prog 319 #[.slice (some ⟨g,0,none⟩) d.size cap,.int .i64 (a:Int),.int .i64 (b:Int),ptrTo c,cN jb] W
  (lp bt w0 jb pb bf made base g cap d c (order2 (ltOf (aR bt)) d a b s).2.2 (.tuple #[.int .i64 ((order2 (ltOf (aR bt)) d a b s).1:Int),.int .i64 ((order2 (ltOf (aR bt)) d a b s).2.1:Int)]))):=aa (fun W a b s h ha hb hs=>Kt h a b ha hb hs)
 have H:=aa h;unfold median;obtain⟨p1,p2,p3⟩:=oC (ltOf (aR bt)) d (s:=s) ha hb;have hc1:=aa (HO.o W a b s h ha hb ae);generalize order2 (ltOf (aR bt)) d a b s=r1 at *;obtain⟨x1,y1,s1⟩:=r1;dsimp only at *;obtain⟨q1,q2,q3⟩:=oC (ltOf (aR bt)) d (s:=s1) p2 hk;have hc2:Hid (∀W,Cs bt w0 jb pb bf made base g cap d c s1 W->_):=aa (fun W h=>HO.o W y1 k s1 h p2 hk ae);generalize order2 (ltOf (aR bt)) d y1 k s1=r2 at *;obtain⟨x2,y2,s2⟩:=r2;dsimp only at *;have hc3:Hid (∀W,Cs bt w0 jb pb bf made base g cap d c s2 W->_):=aa (fun W h=>HO.o W x1 x2 s2 h p1 q1 ae);generalize order2 (ltOf (aR bt)) d x1 x2 s2=r3 at *;obtain⟨x3,y3,s3⟩:=r3;dsimp only at *;clear h HO p1 p2 p3 q1 q2 q3 ha hb hk hs;unfold cN ptrTo at *;generalize d.size=N at *;go_enter func317,ntmps317;go_wp2_with fail;refine hc1.o.mono ?_;rintro e w1⟨rfl,h1⟩;have Ku:=aa (hc2.o w1 h1);clear h1 hc1 hc2;go_wp2_with fail;refine Ku.o.mono ?_;rintro e w2⟨rfl,h2⟩;have Kn:=aa (hc3.o w2 h2);clear h2 Ku hc3;go_wp2_with fail;refine Kn.o.mono ?_;rintro e w3⟨rfl,h3⟩;have H3:=aa h3;clear h3 Kn;go_wp2;go_ret;exact⟨rfl,H3.o⟩
theorem iH(h:Cs bt w0 jb pb bf made base g cap d c s W)(a:Nat)(h0:1<=a)(ha:a+1<d.size)(hsz:d.size<=1000000)(hs:s<=900) :
 Calls prog 316 #[.slice (some ⟨g,0,none⟩) d.size cap,.int .i64 (a:Int),ptrTo c,cN jb] W
  (lp bt w0 jb pb bf made base g cap d c (medianAdjacent (ltOf (aR bt)) d a s).2 (.int .i64 ((medianAdjacent (ltOf (aR bt)) d a s).1:Int))):=by
 have hm:=aa (sY h (a-1) a (a+1) ae ae ha hs);have w1:IntKind.i64.wrap ((a:Int)-1)=((a-1:Nat):Int):=by rw[ax]<;>omega
 have w2:IntKind.i64.wrap ((a:Int)+1)=((a+1:Nat):Int):=by rw[ax]<;>omega
 unfold medianAdjacent;clear h h0 ha;unfold cN ptrTo at *;generalize median (ltOf (aR bt)) d (a-1) a (a+1) s=r at *;generalize a-1=A0 at *;generalize a+1=A1 at *;generalize d.size=N at *;go_enter func316,ntmps316;go_wp2_with fail;refine hm.o.mono ?_;rintro e w1⟨rfl,h1⟩;have H1:=aa h1;clear h1 hm;go_wp2;go_ret;exact⟨rfl,H1.o⟩
end
end
section
open Go.RowKit Go.Maps Go.Sort
section
variable {bt:Bool} {w0 W W':World} {jb pb bf made base g cap c s:Nat} {d:Array aJ}
def mP:Hint->Nat
 | .unknown=>0
 | .increasing=>1
 | .decreasing=>2
theorem fA.count(h:fA bt w0 jb pb bf made base g cap d W)(T:TypeId):Cs bt w0 jb pb bf made base g cap d W.heap.size 0 (W.alloc (.cells #[.int .i64 0] T)):=by
 have hg:g<W.heap.size:=by
  obtain⟨_,⟨h0,_⟩|⟨g',cap',cur,hv,_,hh,_⟩⟩:=h.row
  ·cases h0
  ·cases hv;exact(Array.getElem?_eq_some_iff.1 hh).1
 have:=h.EE.lt;exact⟨h.below ai,⟨T,heap_alloc_new W _⟩,h.turn.size,ae,ae,ae⟩
def Va(bt:Bool)(w0:World)(jb pb bf made base g cap:Nat)(d:Array aJ)(r:Nat×Hint)(e:Ending)(w':World):Prop:=
 e=.returned (.tuple #[.int .i64 (r.1:Int),.int .i64 (mP r.2:Int)])/\fA bt w0 jb pb bf made base g cap d w'
theorem Kv{lt:aJ->aJ->Bool}{d:Array aJ}{a b I J K:Nat}{m:Nat×Nat}(h8:8<=b-a)(h50:¬50<=b-a)(hI:I=a+(b-a)/4*1)(hJ:J=a+(b-a)/4*2)(hK:K=a+(b-a)/4*3)(hm:median lt d I J K 0=m) :
 choosePivot lt d a b=(m.1,if m.2=0 then .increasing else if m.2=12 then .decreasing else .unknown):=by
 subst hI hJ hK hm;unfold choosePivot;simp only[ge_iff_le,h8,h50,if_true,if_false]
theorem Kw{lt:aJ->aJ->Bool}{d:Array aJ}{a b I J K:Nat}{ri rj rk m:Nat×Nat}(h50:50<=b-a)(hI:I=a+(b-a)/4*1)(hJ:J=a+(b-a)/4*2)(hK:K=a+(b-a)/4*3)(h1:medianAdjacent lt d I 0=ri)(h2:medianAdjacent lt d J ri.2=rj)(h3:medianAdjacent lt d K rj.2=rk)(hm:median lt d ri.1 rj.1 rk.1 rk.2=m) :
 choosePivot lt d a b=(m.1,if m.2=0 then .increasing else if m.2=12 then .decreasing else .unknown):=by
 subst hI hJ hK h1 h2 h3 hm;have h8:8<=b-a:=by omega
 unfold choosePivot;simp only[ge_iff_le,h8,h50,if_true]
theorem Ky(lt:aJ->aJ->Bool)(d:Array aJ){a s N:Nat}(ha:a+1<N):(medianAdjacent lt d a s).1<N/\(medianAdjacent lt d a s).2<=s+3:=
 N1 lt d ae ae ha
theorem yL(h:fA bt w0 jb pb bf made base g cap d W)(a b:Nat)(hl:12<b-a)(hb:b<=d.size)(hsz:d.size<=1000000) :
 Calls prog 308 #[.slice (some ⟨g,0,none⟩) d.size cap,.int .i64 (a:Int),.int .i64 (b:Int),cN jb] W (Va bt w0 jb pb bf made base g cap d (choosePivot (ltOf (aR bt)) d a b)):=by
 have UR:=aa (h.count 3);obtain⟨L,hL⟩:∃L,L=b-a:=⟨_,rfl⟩;obtain⟨Q,hQ⟩:∃Q,Q=(b-a)/4:=⟨_,rfl⟩;obtain⟨Q2,Vb⟩:∃Q2,Q2=Q*2:=⟨_,rfl⟩;obtain⟨Q3,hQ3⟩:∃Q3,Q3=Q*3:=⟨_,rfl⟩;obtain⟨I,hI⟩:∃I,I=a+Q:=⟨_,rfl⟩;obtain⟨J,hJ⟩:∃J,J=a+Q2:=⟨_,rfl⟩;obtain⟨K,hK⟩:∃K,K=a+Q3:=⟨_,rfl⟩;have wL:IntKind.i64.wrap ((b:Int)-(a:Int))=(L:Int):=by rw[ax]<;>omega
 have wQ:IntKind.i64.wrap ((L:Int)/4)=(Q:Int):=by rw[ax]<;>omega
 have wQ1:IntKind.i64.wrap (Q:Int)=(Q:Int):=ax ae ae;have wQ2:IntKind.i64.wrap ((Q:Int)*2)=(Q2:Int):=by rw[ax]<;>omega
 have wQ3:IntKind.i64.wrap ((Q:Int)*3)=(Q3:Int):=by rw[ax]<;>omega
 have wI:IntKind.i64.wrap ((a:Int)+(Q:Int))=(I:Int):=by rw[ax]<;>omega
 have wJ:IntKind.i64.wrap ((a:Int)+(Q2:Int))=(J:Int):=by rw[ax]<;>omega
 have wK:IntKind.i64.wrap ((a:Int)+(Q3:Int))=(K:Int):=by rw[ax]<;>omega
 have l8:¬(L:Int)<8:=by omega
 have oY:Hid (I+1<d.size/\J+1<d.size/\K+1<d.size/\1<=I/\1<=J/\1<=K):=aa ae;have hI':I=a+(b-a)/4*1:=by omega
 have hJ':J=a+(b-a)/4*2:=by omega
 have hK':K=a+(b-a)/4*3:=by omega
 by_cases h50:50<=b-a
 ·have l50:¬(L:Int)<50:=by omega
  obtain⟨ri,h1⟩:∃r,medianAdjacent (ltOf (aR bt)) d I 0=r:=⟨_,rfl⟩;obtain⟨rj,h2⟩:∃r,medianAdjacent (ltOf (aR bt)) d J ri.2=r:=⟨_,rfl⟩;obtain⟨rk,h3⟩:∃r,medianAdjacent (ltOf (aR bt)) d K rj.2=r:=⟨_,rfl⟩;obtain⟨m,hm⟩:∃r,median (ltOf (aR bt)) d ri.1 rj.1 rk.1 rk.2=r:=⟨_,rfl⟩;have HT:=aa (Kw h50 hI' hJ' hK' h1 h2 h3 hm);have bi:=Ky (ltOf (aR bt)) d (s:=0) oY.o.1;rw[h1]at bi;have bj:=Ky (ltOf (aR bt)) d (s:=ri.2) oY.o.2.1;rw[h2]at bj;have bk:=Ky (ltOf (aR bt)) d (s:=rj.2) oY.o.2.2.1;rw[h3]at bk;have C1:Hid (∀W',Cs bt w0 jb pb bf made base g cap d W.heap.size 0 W'->Calls prog 316 #[.slice (some ⟨g,0,none⟩) d.size cap,.int .i64 (I:Int),ptrTo W.heap.size,cN jb] W' (lp bt w0 jb pb bf made base g cap d W.heap.size ri.2 (.int .i64 (ri.1:Int)))):=aa (fun W' h=>by
   have:=iH h I oY.o.2.2.2.1 oY.o.1 hsz ae;rwa [h1]at this)
  have C2:Hid (∀W',Cs bt w0 jb pb bf made base g cap d W.heap.size ri.2 W'->Calls prog 316 #[.slice (some ⟨g,0,none⟩) d.size cap,.int .i64 (J:Int),ptrTo W.heap.size,cN jb] W' (lp bt w0 jb pb bf made base g cap d W.heap.size rj.2 (.int .i64 (rj.1:Int)))):=aa (fun W' h=>by
   have:=iH h J oY.o.2.2.2.2.1 oY.o.2.1 hsz ae;rwa [h2]at this)
  have C3:Hid (∀W',Cs bt w0 jb pb bf made base g cap d W.heap.size rj.2 W'->Calls prog 316 #[.slice (some ⟨g,0,none⟩) d.size cap,.int .i64 (K:Int),ptrTo W.heap.size,cN jb] W' (lp bt w0 jb pb bf made base g cap d W.heap.size rk.2 (.int .i64 (rk.1:Int)))):=aa (fun W' h=>by
   have:=iH h K oY.o.2.2.2.2.2 oY.o.2.2.1 hsz ae;rwa [h3]at this)
  have C4:Hid (∀W',Cs bt w0 jb pb bf made base g cap d W.heap.size rk.2 W'->Calls prog 317 #[.slice (some ⟨g,0,none⟩) d.size cap,.int .i64 (ri.1:Int),.int .i64 (rj.1:Int),.int .i64 (rk.1:Int),ptrTo W.heap.size,cN jb] W' (lp bt w0 jb pb bf made base g cap d W.heap.size m.2 (.int .i64 (m.1:Int)))):=aa (fun W' h=>by
   have:=sY h ri.1 rj.1 rk.1 bi.1 bj.1 bk.1 ae;rwa [hm]at this)
  clear h hL hQ Vb hQ3 hI hJ hK hI' hJ' hK' h1 h2 h3 hm bi bj bk hl hb hsz;unfold cN ptrTo at *;generalize d.size=N at *;generalize choosePivot (ltOf (aR bt)) d a b=r at HT ⊢;obtain⟨mi,ms⟩:=m;obtain⟨ri1,ri2⟩:=ri;obtain⟨rj1,rj2⟩:=rj;obtain⟨rk1,rk2⟩:=rk;dsimp only at *;go_enter func308,ntmps308;go_wp2_with fail;refine(C1.o _ UR.o).mono ?_;rintro e w1⟨rfl,h1⟩;have hc:=aa (C2.o w1 h1);clear h1 C1 C2 UR;go_wp2_with fail;refine hc.o.mono ?_;rintro e w2⟨rfl,h2⟩;have hc2:=aa (C3.o w2 h2);clear h2 hc C3;go_wp2_with fail;refine hc2.o.mono ?_;rintro e w3⟨rfl,h3⟩;have hc3:=aa (C4.o w3 h3);clear h3 hc2 C4;go_wp2_with fail;refine hc3.o.mono ?_;rintro e w4⟨rfl,h4⟩;have H4:=aa h4;obtain⟨hcell,-⟩:=h4.cell;clear h4 hc3;by_cases m0:ms=0
  ·subst m0;simp only[Int.natCast_zero]at hcell;go_wp2;go_ret2;rw[HT.o];exact⟨rfl,H4.o.ux⟩
  ·by_cases m12:ms=12
   ·subst m12;have Rt:w4.cell? ⟨W.heap.size,0,none⟩=some (.int .i64 12):=hcell;clear hcell;go_wp2;go_ret2;rw[HT.o,if_neg af,if_pos (by trivial)];exact⟨rfl,H4.o.ux⟩
   ·have z0:¬(ms:Int)=0:=by omega
    have z12:¬(ms:Int)=12:=by omega
    have z0b:((ms:Int) == 0)=false:=beq_false_of_ne z0;have ac5:((ms:Int) == 12)=false:=beq_false_of_ne z12;go_wp2;go_ret2;rw[HT.o,if_neg m0,if_neg m12];exact⟨rfl,H4.o.ux⟩
 ·have l50:(L:Int)<50:=by omega
  obtain⟨m,hm⟩:∃r,median (ltOf (aR bt)) d I J K 0=r:=⟨_,rfl⟩;have HT:=aa (Kv ae h50 hI' hJ' hK' hm);have C4:Hid (∀W',Cs bt w0 jb pb bf made base g cap d W.heap.size 0 W'->Calls prog 317 #[.slice (some ⟨g,0,none⟩) d.size cap,.int .i64 (I:Int),.int .i64 (J:Int),.int .i64 (K:Int),ptrTo W.heap.size,cN jb] W' (lp bt w0 jb pb bf made base g cap d W.heap.size m.2 (.int .i64 (m.1:Int)))):=aa (fun W' h=>by
   have:=sY h I J K (by have:=oY.o;omega) (by have:=oY.o;omega) (by have:=oY.o;omega) ae;rwa [hm]at this)
  clear h hL hQ Vb hQ3 hI hJ hK hI' hJ' hK' hm hl hb hsz;unfold cN ptrTo at *;generalize d.size=N at *;generalize choosePivot (ltOf (aR bt)) d a b=r at HT ⊢;obtain⟨mi,ms⟩:=m;dsimp only at *;go_enter func308,ntmps308;go_wp2_with fail;refine(C4.o _ UR.o).mono ?_;rintro e w4⟨rfl,h4⟩;have H4:=aa h4;obtain⟨hcell,-⟩:=h4.cell;clear h4 C4 UR;by_cases m0:ms=0
  ·subst m0;simp only[Int.natCast_zero]at hcell;go_wp2;go_ret2;rw[HT.o];exact⟨rfl,H4.o.ux⟩
  ·by_cases m12:ms=12
   ·subst m12;have Rt:w4.cell? ⟨W.heap.size,0,none⟩=some (.int .i64 12):=hcell;clear hcell;go_wp2;go_ret2;rw[HT.o,if_neg af,if_pos (by trivial)];exact⟨rfl,H4.o.ux⟩
   ·have z0:¬(ms:Int)=0:=by omega
    have z12:¬(ms:Int)=12:=by omega
    have z0b:((ms:Int) == 0)=false:=beq_false_of_ne z0;have ac5:((ms:Int) == 12)=false:=beq_false_of_ne z12;go_wp2;go_ret2;rw[HT.o,if_neg m0,if_neg m12];exact⟨rfl,H4.o.ux⟩
end
end
section
open Go.RowKit Go.Maps Go.Sort
section
variable {bt:Bool} {w0 W W':World} {jb pb bf made base g cap c:Nat} {d:Array aJ}
structure MG(bt:Bool)(w0:World)(jb pb bf made base g cap:Nat)(d:Array aJ)(c:Nat)(v:Value)(W:World):Prop where
 ux:fA bt w0 jb pb bf made base g cap d W
 box:∃T,W.heap[c]? = some (.cells #[v] T (0,0))
 new:w0.heap.size<=c
 ng:c≠g
 nj:c≠jb
 nb:c≠bf
theorem MG.cell{v:Value}(h:MG bt w0 jb pb bf made base g cap d c v W):W.cell? ⟨c,0,none⟩=some v/\W.frozen? ⟨c,0,none⟩=false:=by
 obtain⟨T,hT⟩:=h.box;exact⟨by rw[aq hT];rfl,aO hT _⟩
theorem MG.below{v:Value}(h:MG bt w0 jb pb bf made base g cap d c v W)(hb:RowKit.Below W.heap.size W W'):MG bt w0 jb pb bf made base g cap d c v W':=by
 obtain⟨T,hT⟩:=h.box;exact⟨h.ux.below hb,⟨T,by rw[hb.block c (Array.getElem?_eq_some_iff.1 hT).1];exact hT⟩,h.new,h.ng,h.nj,h.nb⟩
theorem MG.put{v:Value}(h:MG bt w0 jb pb bf made base g cap d c v W)(u:Value):MG bt w0 jb pb bf made base g cap d c u (W.setCell ⟨c,0,none⟩ u):=by
 obtain⟨T,hT⟩:=h.box;have ht:aH (·=c) W (W.setCell ⟨c,0,none⟩ u):=aH.setCell (aH.refl _ _) _ _ (.inl rfl);refine⟨⟨ht.ownsRow h.ux.row (fun b hb e=>?_),h.ux.EE.kept (ht.block _ h.ux.EE.lt.1 (fun e=>h.nj e.symm)) (ht.block _ h.ux.EE.lt.2 (fun e=>h.nb e.symm)),h.ux.nj,h.ux.nb,h.ux.turn.setCell _ _ (.inr h.new)⟩,⟨T,by rw[aT hT];rfl⟩,h.new,h.ng,h.nj,h.nb⟩;have:b=g:=by
  have:=hb;simp[Value.ownBlock]at this;exact this.symm
 exact h.ng (by rw[<- e,this])
theorem MG.swapped{v:Value}(h:MG bt w0 jb pb bf made base g cap d c v W){d':Array aJ}{p q:Nat}{v0 v1 v2 v3 u0 u1 u2 u3:Value}(hs:fA bt w0 jb pb bf made base g cap d' (((((((((W.setCell ⟨g,p,none⟩ v0).setCell ⟨g,p+1,none⟩ v1).setCell ⟨g,p+2,none⟩ v2).setCell ⟨g,p+3,none⟩ v3).setCell ⟨g,q,none⟩ u0).setCell ⟨g,q+1,none⟩ u1).setCell ⟨g,q+2,none⟩ u2).setCell ⟨g,q+3,none⟩ u3).drew)) :
 MG bt w0 jb pb bf made base g cap d' c v (((((((((W.setCell ⟨g,p,none⟩ v0).setCell ⟨g,p+1,none⟩ v1).setCell ⟨g,p+2,none⟩ v2).setCell ⟨g,p+3,none⟩ v3).setCell ⟨g,q,none⟩ u0).setCell ⟨g,q+1,none⟩ u1).setCell ⟨g,q+2,none⟩ u2).setCell ⟨g,q+3,none⟩ u3).drew):=by
 obtain⟨T,hT⟩:=h.box;have ht:aH (·=g) W (((((((((W.setCell ⟨g,p,none⟩ v0).setCell ⟨g,p+1,none⟩ v1).setCell ⟨g,p+2,none⟩ v2).setCell ⟨g,p+3,none⟩ v3).setCell ⟨g,q,none⟩ u0).setCell ⟨g,q+1,none⟩ u1).setCell ⟨g,q+2,none⟩ u2).setCell ⟨g,q+3,none⟩ u3).drew):=
  ((((((((((aH.refl (·=g) W).setCell _ _ (.inl rfl)).setCell _ _ (.inl rfl)).setCell _ _ (.inl rfl)).setCell _ _ (.inl rfl)).setCell _ _ (.inl rfl)).setCell _ _ (.inl rfl)).setCell _ _ (.inl rfl)).setCell _ _ (.inl rfl))).drew
 exact⟨hs,⟨T,ht.heap hT h.ng⟩,h.new,h.ng,h.nj,h.nb⟩
theorem uy(h:fA bt w0 jb pb bf made base g cap d W)(a b:Nat)(hl:12<b-a)(hb:b<=d.size)(hsz:d.size<=1000000) :
 Calls prog 307 #[.slice (some ⟨g,0,none⟩) d.size cap,.int .i64 (a:Int),.int .i64 (b:Int),cN jb] W (mN bt w0 jb pb bf made base g cap (breakPatterns d a b)):=by
 have hgl:g<W.heap.size:=by
  obtain⟨_,⟨h0,_⟩|⟨g',cap',cur,hv,_,hh,_⟩⟩:=h.row
  ·cases h0
  ·cases hv;exact(Array.getElem?_eq_some_iff.1 hh).1
 have kY:=h.EE.lt;obtain⟨L,hL⟩:∃L,L=b-a:=⟨_,rfl⟩;obtain rfl:b=a+L:=by omega
 have hL8:8<=L:=by omega
 rw[breakPatterns_eq d a L hL8];obtain⟨M,hM⟩:∃M:Nat,M=1 <<< bitsLen L:=⟨_,rfl⟩;have Hf:1<=M:=by rw[hM,Nat.one_shiftLeft];exact Nat.two_pow_pos _
 have JE:M<=2*L:=by rw[hM,Nat.one_shiftLeft];exact two_pow_bitsLen_le ae
 have HNP:Hid (∀W',Calls prog 192 #[.int .i64 (L:Int)] W' fun e w'=>e=.returned (.int .u64 (M:Int))/\w'=W'):=aa (fun W'=>by
  rw[hM];exact AnyF.nextPowerOfTwo (P:=prog) (ρ:=Tryz.eJ) { Tryz.jS with } L ae W')
 have Ru:Hid (∀(W':World)(rb X:Nat),X<18446744073709551616->W'.cell? ⟨rb,0,none⟩=some (.int .u64 (X:Int))->W'.frozen? ⟨rb,0,none⟩=false->Calls prog 193 #[.pointer (some ⟨rb,0,none⟩)] W' fun e w'=>e=.returned (.int .u64 (xorNextN X:Nat))/\w'=(W'.setCell ⟨rb,0,none⟩ (.int .u64 (xorNextN X:Nat))).drewN 3):=aa (fun W' rb X hX hc hf=>
  AnyF.xorshift_Next (P:=prog) (ρ:=Tryz.eJ) { Tryz.jS with } rb 0 X hX W' hc hf)
 rw[<- hM];obtain⟨N,hN⟩:∃N,N=d.size:=⟨_,rfl⟩;rw[<- hN]at hb hsz ⊢;have HN:=aa hN;obtain⟨Q,hQ⟩:∃Q,Q=L/4:=⟨_,rfl⟩;obtain⟨Q2,Vb⟩:∃Q2,Q2=Q*2:=⟨_,rfl⟩;obtain⟨A2,hA2⟩:∃A2,A2=a+Q2:=⟨_,rfl⟩;obtain⟨E,hE⟩:∃E,E=A2+1:=⟨_,rfl⟩;obtain⟨B,hB⟩:∃B,B=A2-1:=⟨_,rfl⟩;obtain⟨BN,hBN⟩:∃BN,BN=a+L:=⟨_,rfl⟩;have wL:IntKind.i64.wrap ((BN:Int)-(a:Int))=(L:Int):=by rw[ax]<;>omega
 have aid:IntKind.u64.wrap (L:Int)=(L:Int):=iM _ ae ae;have wQ:IntKind.i64.wrap ((L:Int)/4)=(Q:Int):=by rw[ax]<;>omega
 have wQ2:IntKind.i64.wrap ((Q:Int)*2)=(Q2:Int):=by rw[ax]<;>omega
 have wA2:IntKind.i64.wrap ((a:Int)+(Q2:Int))=(A2:Int):=by rw[ax]<;>omega
 have wE:IntKind.i64.wrap ((A2:Int)+1)=(E:Int):=by rw[ax]<;>omega
 have wB:IntKind.i64.wrap ((A2:Int)-1)=(B:Int):=by rw[ax]<;>omega
 have wM:IntKind.u64.wrap ((M:Int)-1)=(M:Int)-1:=iM _ ae ae;have l8:¬(L:Int)<8:=by omega
 have HB:Hid (E=B+2/\B+3<=a+L/\a+L<=N/\a<=B/\8<=L/\1<=M/\M<=2*L/\L<=N/\N<=1000000):=aa ae;have Rv:Hid (a+L/4*2-1=B):=aa ae;have H0:Hid (MG bt w0 jb pb bf made base g cap d W.heap.size (.int .u64 (L:Int)) (W.alloc (.cells #[.int .u64 (L:Int)] 280))):=aa ⟨h.below ai,⟨_,heap_alloc_new W _⟩,h.turn.size,ae,ae,ae⟩;rw[<- hBN];rw[Rv.o];clear h hgl kY hL hM Hf JE hN hQ Vb hA2 hE hB hBN hb hsz hL8 hl;unfold cN ptrTo at *;go_enter func307,ntmps307;go_wp2_with fail;generalize W.heap.size=rb at H0 ⊢;generalize W.alloc (.cells #[.int .u64 (L:Int)] 280)=W1 at H0 ⊢;refine(HNP.o _).mono ?_;rintro e w'⟨rfl,hw'⟩;obtain rfl:=hw';clear HNP;go_wp2;go_loopw [11] (fun vi wr=>∃(i t:Nat)(r:UInt64)(dk:Array aJ),vi=.int .i64 (i:Int)/\t<=3/\dk.size=N/\MG bt w0 jb pb bf made base g cap dk rb (.int .u64 (r.toNat:Int)) wr/\Hid (i=B+t)/\Hid (bpRest a L M B (3-t) t (r,dk)=bpRest a L M B 3 0 (UInt64.ofNat L,d))) (fun vi _=>B+3-(intOf vi).toNat)
 case atStart=>
  refine⟨B,0,UInt64.ofNat L,d,rfl,ae,HN.o.symm,?_,aa rfl,rfl⟩;rw[show(UInt64.ofNat L).toNat=L from by rw[UInt64.toNat_ofNat'];have:=HB.o;omega];exact H0.o
 case round=>
  obtain⟨i,t,r,dk,rfl,ht,hsk,hs,hi,HO⟩:=hrel;generalize wr=Wr at *;have HS:=aa hs;have Dt:=aa hsk;clear hs hsk;by_cases yJ:t<3
  ·obtain⟨R0,hR0⟩:∃R0:Nat,R0=r.toNat:=⟨_,rfl⟩;have lR:R0<18446744073709551616:=by rw[hR0];exact r.toNat_lt
   obtain⟨R',Vc⟩:∃R':Nat,R'=xorNextN R0:=⟨_,rfl⟩;have lR':R'<18446744073709551616:=by rw[Vc];exact xorNextN_lt R0 lR
   obtain⟨O,hO⟩:∃O:Nat,O=R' &&& (M-1):=⟨_,rfl⟩;have lO:O<=M-1:=by rw[hO];exact Nat.and_le_right
   have aie:bits .and .u64 (R':Int) ((M:Int)-1)=(O:Int):=by
    have:=HB.o;rw[show((M:Int)-1)=((M-1:Nat):Int) by omega,bits_and_u64_nat _ _ lR' ae,hO]
   have Uc:Hid (R'=(xorNext r).toNat/\O=(xorNext r).toNat &&& (M-1)):=aa (by
    have e:R'=(xorNext r).toNat:=by rw[Vc,hR0,xorNext_toNat]
    exact⟨e,by rw[hO,e]⟩)
   have zK:=HS.o.cell;rw[<- hR0]at zK;have Aw:Hid (Calls prog 193 #[.pointer (some ⟨rb,0,none⟩)] Wr fun e w'=>e=.returned (.int .u64 (R':Int))/\MG bt w0 jb pb bf made base g cap dk rb (.int .u64 (R':Int)) w'):=aa ((Ru.o Wr rb R0 lR zK.1 zK.2).mono fun e w' ⟨h1,h2⟩=>by
    rw[<- Vc]at h1 h2;refine⟨h1,?_⟩;rw[h2];exact(HS.o.put _).below ⟨rfl,rfl,rfl,Nat.le_refl _,fun _ _=>rfl⟩)
   have ac9:i<=E/\i<N/\O<=2000000:=by have:=HB.o;have:=hi.out;omega
   have Vd:(i:Int)<=(E:Int):=by omega
   have bi:(i:Int)<(N:Int):=by omega
   have wO:IntKind.i64.wrap (O:Int)=(O:Int):=ax ae ae;have Xr:IntKind.i64.wrap ((i:Int)+1)=((i+1:Nat):Int):=by
    have:=HB.o;rw[ax]<;>omega
   have PO:=aa lO;have HIE:=aa ac9;clear hR0 Vc hO lR lR' lO zK ac9;by_cases hLO:L<=O
   ·obtain⟨V,hV⟩:∃V,V=O-L:=⟨_,rfl⟩;obtain⟨P,hP⟩:∃P,P=a+V:=⟨_,rfl⟩;have Zk:(O:Int) >= (L:Int):=by omega
    have wV:IntKind.i64.wrap ((O:Int)-(L:Int))=(V:Int):=by
     have:=HB.o;have:=PO.o;have:=HIE.o
     rw[ax]<;>omega
    have wP:IntKind.i64.wrap ((a:Int)+(V:Int))=(P:Int):=by
     have:=HB.o;have:=PO.o;have:=HIE.o
     rw[ax]<;>omega
    have hPN:P<N:=by have:=HB.o;have:=PO.o;omega
    have bP:(P:Int)<(N:Int):=by omega
    have Zl:Hid (bpRest a L M B (3-(t+1)) (t+1) (xorNext r,swp dk i P)=bpRest a L M B 3 0 (UInt64.ofNat L,d)):=aa (by
     rw[<- HO.out,bp_step a L M B t r dk V yJ (by rw[<- Uc.o.2,if_pos hLO,hV]),hi.out,hP])
    clear hV hP;have Ud:Hid (i<dk.size/\P<dk.size):=aa (by rw[Dt.o];have:=HIE.o;omega);go_wp2_with fail;refine Aw.o.mono ?_;rintro e w2⟨rfl,hb2⟩;have cZ:=aa hb2;clear hb2 Aw;obtain⟨x,hx⟩:∃x,dk[i]! = x:=⟨_,rfl⟩;by_cases hiP:i=P
    ·subst hiP;obtain⟨pp,mz,⟨x0,x1,x2,x3⟩,dS,hdone⟩:=cZ.o.ux.ir (i:=i) Ud.o.1 hx;have HD:=aa (cZ.o.swapped hdone);clear hdone;go_wp2_with fail;go_big_region
     all_goals
      clear x0 x1 x2 x3 dS;go_wp2;refine⟨⟨i+1,t+1,xorNext r,swp dk i i,rfl,ae,by rw[size_swp];exact Dt.o,by rw[<- Uc.o.1];exact HD.o,aa (by have:=hi.out;omega),Zl.o⟩,?_⟩;have:=HB.o;have:=hi.out;simp[intOf];omega
    ·obtain⟨y,hy⟩:∃y,dk[P]! = y:=⟨_,rfl⟩;obtain⟨pp,qq,hex⟩:=cZ.o.ux.ll (i:=i) (j:=P) Ud.o.1 Ud.o.2 hx hy;have pB:=aa hex;have HD:=aa (cZ.o.swapped hex.done);obtain⟨mz,EG,x0,x1,x2,x3,y0,y1,y2,y3,dS,hap,-⟩:=hex;obtain⟨n0,n1,n2,n3,n4,n5,n6⟩:=hap hiP;clear hap;go_wp2_with fail;go_big_region
     all_goals
      clear x0 x1 x2 x3 y0 y1 y2 y3 n0 n1 n2 n3 n4 n5 n6 dS;go_wp2;refine⟨⟨i+1,t+1,xorNext r,swp dk i P,rfl,ae,by rw[size_swp];exact Dt.o,by rw[<- Uc.o.1];exact HD.o,aa (by have:=hi.out;omega),Zl.o⟩,?_⟩;have:=HB.o;have:=hi.out;simp[intOf];omega
   ·obtain⟨P,hP⟩:∃P,P=a+O:=⟨_,rfl⟩;have Zk:¬(O:Int) >= (L:Int):=by omega
    have wP:IntKind.i64.wrap ((a:Int)+(O:Int))=(P:Int):=by
     have:=HB.o;have:=PO.o;have:=HIE.o
     rw[ax]<;>omega
    have hPN:P<N:=by have:=HB.o;omega
    have bP:(P:Int)<(N:Int):=by omega
    have Zl:Hid (bpRest a L M B (3-(t+1)) (t+1) (xorNext r,swp dk i P)=bpRest a L M B 3 0 (UInt64.ofNat L,d)):=aa (by
     rw[<- HO.out,bp_step a L M B t r dk O yJ (by rw[<- Uc.o.2,if_neg ae]),hi.out,hP])
    clear hP;have Ud:Hid (i<dk.size/\P<dk.size):=aa (by rw[Dt.o];have:=HIE.o;omega);go_wp2_with fail;refine Aw.o.mono ?_;rintro e w2⟨rfl,hb2⟩;have cZ:=aa hb2;clear hb2 Aw;obtain⟨x,hx⟩:∃x,dk[i]! = x:=⟨_,rfl⟩;by_cases hiP:i=P
    ·subst hiP;obtain⟨pp,mz,⟨x0,x1,x2,x3⟩,dS,hdone⟩:=cZ.o.ux.ir (i:=i) Ud.o.1 hx;have HD:=aa (cZ.o.swapped hdone);clear hdone;go_wp2_with fail;go_big_region
     all_goals
      clear x0 x1 x2 x3 dS;go_wp2;refine⟨⟨i+1,t+1,xorNext r,swp dk i i,rfl,ae,by rw[size_swp];exact Dt.o,by rw[<- Uc.o.1];exact HD.o,aa (by have:=hi.out;omega),Zl.o⟩,?_⟩;have:=HB.o;have:=hi.out;simp[intOf];omega
    ·obtain⟨y,hy⟩:∃y,dk[P]! = y:=⟨_,rfl⟩;obtain⟨pp,qq,hex⟩:=cZ.o.ux.ll (i:=i) (j:=P) Ud.o.1 Ud.o.2 hx hy;have pB:=aa hex;have HD:=aa (cZ.o.swapped hex.done);obtain⟨mz,EG,x0,x1,x2,x3,y0,y1,y2,y3,dS,hap,-⟩:=hex;obtain⟨n0,n1,n2,n3,n4,n5,n6⟩:=hap hiP;clear hap;go_wp2_with fail;go_big_region
     all_goals
      clear x0 x1 x2 x3 y0 y1 y2 y3 n0 n1 n2 n3 n4 n5 n6 dS;go_wp2;refine⟨⟨i+1,t+1,xorNext r,swp dk i P,rfl,ae,by rw[size_swp];exact Dt.o,by rw[<- Uc.o.1];exact HD.o,aa (by have:=hi.out;omega),Zl.o⟩,?_⟩;have:=HB.o;have:=hi.out;simp[intOf];omega
  ·have Vd:¬(i:Int)<=(E:Int):=by have:=HB.o;have:=hi.out;omega
   go_wp2;go_end0
   refine⟨rfl,?_⟩;have h3:t=3:=by omega
   subst h3;rw[<- HO.out];exact HS.o.ux
end
end
end Go.Proofs.YthkkgdpomhhjjaaGreatDoor
