/-
  Joined.
-/
import Derived.Test.YthkkgdpomhhjjaaGreatDoorK05
import Derived.Sort.WalkA
import Derived.Shelf.SlicesQ.Load
import Derived.Shelf.SlicesQ.Reverse
import Derived.Shelf.RegionOpenPlain
import Derived.Sort.WalkB3
import Derived.Sort.LotD5
import Derived.Sort.Walk7
set_option maxRecDepth 100000
set_option maxHeartbeats 16000000
namespace Go.Proofs.YthkkgdpomhhjjaaGreatDoor
open Go.Proofs.Tryz
section
open Go.RowKit Go.Maps Go.MapKept
section
variable {S:Nat->Prop} {w w':World} {pb db n cb kb sb jb bf made:Nat} {by':Bool} {name:Name} {o o':au} {d d':Dsk} {L L':aH}
theorem cU.moved(h:cU w jb pb bf made by')(hm:Moved S n pb db w o d w' o' d' L')(h1:o jb=none)(h2:o bf=none)(h3:¬S jb)(h4:¬S bf):cU w' jb pb bf made by':=
 h.kept (hm.block h.lt.1 h1 h3) (hm.block h.lt.2 h2 h4)
theorem Sound.weaken{fs:List bZ}(h:Sound d fs L){ps:List Pg}{fl:Bool}(hL:aB L name=some (.inl (ps,fl))):Sound d fs (aS L name (.inl (ps,false))) where
 keys:=ct h.keys
 fS:=h.fS
 names:=fun x=>by
  rw[cG,h.names];by_cases e:x=name
  ·subst e;simp[hL]
  ·simp[e]
 ok:=fun x hx=>by
  rw[cG]at hx;by_cases e:x=name
  ·subst e;exact h.ok x (by rw[hL];rfl)
  ·exact h.ok x (by simpa[e]using hx)
 dI:=fun x GR kT hg=>by
  rw[ay]at hg;by_cases e:x=name
  ·rw[if_pos e]at hg;cases hg;subst e;obtain⟨f,dp,q⟩:=h.dI _ _ _ hL;exact⟨f,dp,q.get,q.now,q.le,q.most,q.short,q.Cm,q.each,fun e=>(by cases e),q.lu⟩
  ·rw[if_neg e]at hg;exact h.dI x GR kT hg
 lX:=fun x f' ls hg=>by
  rw[ay]at hg;by_cases e:x=name
  ·rw[if_pos e]at hg;cases hg
  ·rw[if_neg e]at hg;exact h.lX x f' ls hg
 frames:=fun fr dQ hf=>by
  obtain⟨GR,kT,h1,h2⟩:=h.frames fr dQ hf;rw[ay];by_cases e:fr.name=name
  ·rw[if_pos e];rw[e,hL]at h1;cases h1;exact⟨ps,false,rfl,h2⟩
  ·rw[if_neg e];exact⟨GR,kT,h1,h2⟩
 blank:=h.blank
 once:=h.once
 dm:=fun x s hs=>by
  rw[cG,h.dm x s hs];simp
theorem aR.weaken(h:aR w pb db n o d L){ps:List Pg}{fl:Bool}(hL:aB L name=some (.inl (ps,fl))):aR w pb db n o d (aS L name (.inl (ps,false))):=by
 obtain⟨fb,mb,l,hand,mf,h,hl,g⟩:=h;exact⟨fb,mb,l,hand,mf,h,hl,g.weaken hL⟩
theorem EU(fl:Bool):ax [] fl=.inl ([],fl):=rfl
def cZ(d:Dsk)(L:aH)(name:Name):Nat:=if d.tick.dead=true then 6 else if bM name=false then 1 else if (aB L name).isSome=true then 4 else 0
def fO(n pb db:Nat)(w:World)(o:au)(d:Dsk)(L:aH)(name:Name)(e:Ending)(w':World):Prop:=
 ∃d' o',e=.returned (.int .i64 (cZ d L name:Int))/\Moved (fun _=>False) n pb db w o d w' o' d' (if cZ d L name=0 then aS L name (.inl ([],true)) else L)/\(cZ d L name=0->d'.dead=false)/\(d.tick.dead=true->d'.dead=true)
theorem kJ(h:aR w pb db n o d L)(name:Name)(hs:name.size<=1000):Calls prog 71 #[ptrTo pb,.string name] w (fO n pb db w o d L name):=by
 obtain⟨fb,mb,l,hand,mf,hp,hl,g⟩:=h;refine(Af hp name hs).mono ?_;rintro e w'⟨rfl,o',hd,ht,hg⟩;have Ga:=hp.Ac hd ht hg;have oN:(d.create name).2=cZ d L name:=by
  unfold Dsk.create cZ;rw[<- g.names];split
  ·rfl
  ·split
   ·rfl
   ·split<;>rfl
 refine⟨(d.create name).1,o',by rw[oN],⟨⟨fb,mb,l,hand,mf,Ga,hl,?_⟩,(aG.aY ht).mono (fun _ _ h=>.inl h),hg,?_⟩,?_,?_⟩
 ·unfold cZ Dsk.create;rw[<- g.names];split
  ·exact g.tick
  ·rename_i hdd
   split
   ·exact g.tick
   ·rename_i fe
    split
    ·exact g.tick
    ·rename_i hno
     rw[if_pos rfl];refine g.create (by simpa using fe) ?_ rfl (Dsk.lT d);have:=g.names name;rw[Bool.not_eq_true]at hno;rw[hno]at this;exact Option.not_isSome_iff_eq_none.1 (by rw[<- this];simp)
 ·unfold Dsk.create;split
  ·exact bR.tick d
  ·split
   ·exact bR.tick d
   ·split
    ·exact bR.tick d
    ·exact(bR.tick d).of rfl rfl rfl
 ·intro h0;rw[<- oN]at h0;unfold Dsk.create at h0 ⊢;by_cases hdd:d.tick.dead=true
  ·rw[if_pos hdd]at h0;cases h0
  ·rw[if_neg hdd]at h0 ⊢;have hdf:d.tick.dead=false:=by simpa using hdd
   split
   ·exact hdf
   ·split<;>exact hdf
 ·intro hdd;unfold Dsk.create;rw[if_pos hdd];exact hdd
def dC(k:Nat):Name:=⟨([116,46]++Lib.decDigits k).toArray⟩
theorem DI(hj:cU w jb pb bf made by')(hm:made<100)(hne:bf≠jb) :
 Calls prog 178 #[ptrTo jb] w fun e w'=>e=.returned (.string (dC made))/\cU w' jb pb bf (made+1) by'/\aG (·=jb) w w':=by
 obtain⟨-,-,hc2,-,hz⟩:=hj.cells;have HJ:=ae hj;have hit:=ae (fun W=>Any.strconv_Itoa_small (P:=prog) (ρ:=Tryz.uI) { Tryz.itoa with } made hm W);have lQ:=hj.lt;have rz:IntKind.i64.wrap ((made:Int)+1)=(made:Int)+1:=aw af af;have hw2:IntKind.i64.wrap ((made:Int)+1-1)=(made:Int):=by rw[aw af af];omega
 clear hj;have UI:(Lib.decDigits made).length<=2:=by
  by_cases h:made<10
  ·rw[Lib.decDigits_one h];simp
  ·rw[Lib.decDigits_two h hm];simp
 have HT:Hid ((⟨#[116,46]⟩:ByteArray)++⟨(Lib.decDigits made).toArray⟩=dC made):=ae (by
  unfold dC;apply ByteArray.ext;simp)
 generalize Lib.decDigits made=dg at *;unfold ptrTo;go_enter func178,ntmps178;go_wp2_with fail;refine(hit.out _).mono ?_;rintro e w'⟨rfl,rfl⟩;go_wp2;go_ret;refine⟨by rw[<- HT.out];rfl,?_,(aG.refl _ w).setCell _ _ (.inl rfl)⟩;obtain⟨⟨t,h1⟩,⟨t',h2⟩⟩:=HJ.out;refine⟨⟨t,?_⟩,⟨t',?_⟩⟩
 ·have:=aT h1 2 (.int .i64 ((made:Int)+1));rw[this];rfl
 ·rw[Below.heap_setCell _ _ _ _ hne];exact h2
theorem rH{κ υ:Type}[DecidableEq κ](ns:List κ):∀(L:List (κ×υ))(x:κ),aB (ns.foldl bX L) x=if x∈ns then none else aB L x:=by
 induction ns with
 |nil=>intro L x;simp
 |cons k ns ih=>
   intro L x;rw[List.foldl_cons,ih,cD];by_cases e:x=k
   ·subst e;simp
   ·simp[e]
def yA(n pb db:Nat)(w:World)(o:au)(d:Dsk)(L:aH)(ns:List Name)(e:Ending)(w':World):Prop:=
 ∃c d' o' L',e=.returned (.int .i64 ((c:Nat):Int))/\Moved (fun _=>False) n pb db w o d w' o' d' L'/\((c=0/\L'=ns.foldl bX L)\/(c=6/\d'.dead=true/\∀x,x ∉ ns->aB L' x=aB L x))
theorem Hy(h:aR w pb db n o d L)(hj:cU w jb pb bf made by')(km:o jb=none){v:Value}{ns:List Name}(hv:bG w v ns)(mG:∀b,v.ownBlock=some b->o b=none)(hL:∀x∈ns,∃ps fl,aB L x=some (.inl (ps,fl)))(Kb:ns.Nodup)(hlen:ns.length<=100000) :
 Calls prog 227 #[ptrTo jb,v] w (yA n pb db w o d L ns):=by
 have H:=ae h;have HJ:=ae hj;have VO:=ae km;have HV:=ae hv;have wN:=ae mG;have HL:=ae hL;have UW:=ae Kb;have lQ:=hj.lt.1;obtain⟨g,off,cap,rfl⟩:=hv.shape;obtain⟨JS,hl2,Oz,-⟩:=hv.cells;unfold maxLen at Oz;clear h hj km hv mG hL Kb JS;generalize hN:ns.length=N at *;have HN:=ae hN;clear hN;unfold ptrTo;go_enter func227,ntmps227;go_wp2;go_loopw [10] (fun i wr=>∃(k:Nat)(d':Dsk)(o':au),k<=N/\i=.int .i64 (k:Int)/\Moved (fun _=>False) n pb db w o d wr o' d' ((ns.take k).foldl bX L)) (fun i _=>N-(intOf i).toNat)
 case atStart=>exact⟨0,d,o,Nat.zero_le _,rfl,by simpa using Moved.refl _ H.out⟩
 case round=>
  obtain⟨k,d1,o1,hk,rfl,hm⟩:=hrel;by_cases hlt:k<N
  ·have Kf:k<ns.length:=by rw[HN.out];exact hlt
   have hcell:wr.cell? ⟨g,off+k,none⟩=some (.string ns[k]):=by
    have hv':=HV.out.kept (fun b hb=>hm.block (HV.out.lt b hb) (wN.out b hb) (fun h=>h));rw[<- HN.out]at hv';exact hv'.cells.2.2.2 k Kf
   have hjc:wr.cell? ⟨jb,0,none⟩=some (ptrTo pb):=hm.cell (HJ.out.cells.1) VO.out (fun h=>h);unfold ptrTo at hjc;obtain⟨ps,fl,hLk⟩:=HL.out ns[k] (List.getElem_mem Kf);have vZ:ns[k] ∉ ns.take k:=fun mI=>by
    obtain⟨j,hj,he⟩:=List.getElem_of_mem mI;rw[List.getElem_take]at he;rw[List.length_take]at hj;have:=(List.getElem_inj UW.out).1 he;omega
   have ad3:aB ((ns.take k).foldl bX L) ns[k]=some (.inl (ps,fl)):=by rw[rH,if_neg vZ,hLk]
   have aM:=ae (uB hm.aY ad3);have HM:=ae hm;have HSN:Hid (∀L',L'=bX ((ns.take k).foldl bX L) ns[k]->L'=(ns.take (k+1)).foldl bX L):=ae (fun L' e=>by rw[e,List.take_succ_eq_append_getElem Kf,List.foldl_append];rfl);have aiV:Hid (∀(L':aH)(dp:List Pg),L'=aS ((ns.take k).foldl bX L) ns[k] (.inl (dp,false))->∀x,x ∉ ns->aB L' x=aB L x):=ae (fun L' dp e x hx=>by
    have hxk:x≠ns[k]:=fun e'=>hx (by rw[e'];exact List.getElem_mem Kf);rw[e,ay,if_neg hxk,rH,if_neg (fun h=>hx (List.mem_of_mem_take h))])
   clear hm hLk ad3 vZ;generalize ns[k]=nm at *;unfold ptrTo at aM;go_wp2_with fail;refine aM.out.mono ?_;rintro e w2⟨c2,d2,o2,L2,rfl,ko,oJ,hg2,RO,aiW⟩;have eV:Hid (Moved (fun _=>False) n pb db w o d w2 o2 d2 L2):=ae (HM.out.trans (ju (S:=fun _=>False) ko oJ hg2 RO) (fun _ _ h=>h));clear ko oJ hg2 RO hcell hjc;rcases aiW with⟨rfl,he⟩|⟨rfl,hdd,dp,he⟩
   ·have HE:=ae (HSN.out L2 he);clear he;go_wp2;go_roundw
    case rel=>exact⟨k+1,d2,o2,af,by go_num,by rw[<- HE.out];exact eV.out⟩
    case measure=>simp[intOf];omega
   ·have HE:=ae (aiV.out L2 dp he);have vH:=ae hdd;clear he hdd;go_wp2;go_ret;exact⟨6,d2,o2,L2,rfl,eV.out,.inr ⟨rfl,vH.out,HE.out⟩⟩
  ·obtain rfl:k=N:=by omega
   have HM:=ae hm;clear hm;go_wp2;go_ret;refine⟨0,d1,o1,_,rfl,HM.out,.inl ⟨rfl,?_⟩⟩;rw[List.take_of_length_le (by rw[HN.out];exact Nat.le_refl _)]
def AJ:aD:=⟨0,0,0,0⟩
def qM(n pb db:Nat)(w:World)(o:au)(d:Dsk)(L:aH)(name:Name)(N:Nat)(e:Ending)(w':World):Prop:=
 ∃v c d' o',e=.returned (.tuple #[v,.int .i64 ((c:Nat):Int)])/\Moved (fun _=>False) n pb db w o d w' o' d' L/\(c=0\/lK d d' L c) /\
  (c=0->∃cb sb,v=ptrTo cb/\bD w' cb sb 0 N AJ/\aF w' sb pb name 20/\o' cb=none/\o' sb=none/\w.heap.size<=cb/\w.heap.size<=sb)
theorem yB(HW:aP)(h:aR w pb db n o d L)(hj:cU w jb pb bf made by'){es:List aD}{fl:Bool}(hL:aB L name=some (ax es fl)) :
 Calls prog 116 #[ptrTo jb,.string name] w (qM n pb db w o d L name es.length):=by
 have hs:=cg (h.ok hL);have p9:=ae (dX (sz:=20) h name hs ag ag);have hlen:Hid (∀W o' d' sb,aR W pb db n o' d' L->aF W sb pb name 20->o' sb=none->Calls prog 59 #[ptrTo sb] W (Dz n pb db W o' d' L (DA es.length))):=ae (fun W o' d' sb hW hst jM=>by
  have:=kr HW hW hst jM ag ag hL (fw es);rw[List.length_map]at this;exact this)
 have Ko:=gX h hL;have H:=ae h;have hc0:=hj.cells.1;clear h hj hL;unfold ptrTo at *;generalize es.length=N at *;cases hd:d.dead with
 |true=>
   rw[hd,if_pos rfl]at Ko;rw[Ko]at p9;have HD:=ae hd;clear hd Ko;go_enter func116,ntmps116;go_wp2_with fail;refine p9.out.mono ?_;rintro e w1⟨v1,rfl,hb1,-,Vk⟩;obtain rfl:=Vk ag;have HB:=ae hb1;clear hb1 Vk;go_wp2;go_ret2;exact⟨_,6,d,o,rfl,Moved.aV H.out HB.out,.inr (.inr ⟨rfl,HD.out⟩),fun h=>absurd h ag⟩
 |false=>
   rw[hd,if_neg ai]at Ko;rw[Ko]at p9;clear hd Ko;go_enter func116,ntmps116;go_wp2_with fail;refine p9.out.mono ?_;rintro e w1⟨v1,rfl,hb1,fe,-⟩;obtain⟨sb,rfl,Ou,CB⟩:=fe rfl;have HB:=ae hb1;have Cv:=ae Ou;have fR:o sb=none:=H.out.fresh CB;have HF:=ae fR;have aM:=ae (hlen.out w1 o d sb (H.out.below hb1) Ou fR);clear hb1 Ou fe fR;unfold ptrTo at *;go_wp2_with fail;refine aM.out.mono ?_;rintro e w2⟨c2,d2,o2,⟨x,rfl,hx⟩,cT,qp⟩;have HX:=ae hx;have eV:=ae ((Moved.aV H.out HB.out).trans cT (fun _ _ h=>h));have nS:=ae (Cv.out.moved cT HF.out (fun h=>h));have Hs:=ae qp;have adY:=Cv.out.lt;have hs2:w.heap.size<=w2.heap.size:=eV.out.size;have X3:Hid (o2 sb=none):=ae (cT.free adY HF.out);clear hx cT qp;go_wp2;go_ret2;refine⟨_,c2,d2,o2,rfl,eV.out.alloc _,Hs.out,fun h0=>⟨w2.heap.size,sb,rfl,⟨265,?_⟩,nS.out.below aj,eV.out.aY.fresh (Nat.le_refl _),X3.out,hs2,CB⟩⟩;rw[heap_alloc_new,HX.out h0];rfl
def mn(n pb db:Nat)(w:World)(o:au)(d:Dsk)(L:aH)(name:Name)(e:Ending)(w':World):Prop:=
 ∃v c d' o',e=.returned (.tuple #[v,.int .i64 ((c:Nat):Int)])/\Moved (fun _=>False) n pb db w o d w' o' d' (if c=0 then aS L name (ax [] false) else L)/\(c=0\/c=6/\d'.dead=true) /\
  (c=0->∃kb sb,v=ptrTo kb/\fc w' kb sb []/\aF w' sb pb name 20/\o' kb=none/\o' sb=none/\kb≠sb/\w.heap.size<=kb/\w.heap.size<=sb)
theorem sB(h:aR w pb db n o d L)(hj:cU w jb pb bf made by')(km:o jb=none)(fe:bM name=true)(hno:aB L name=none) :
 Calls prog 223 #[ptrTo jb,.string name] w (mn n pb db w o d L name):=by
 have hs:=cg fe;have qj:=ae (kJ h name hs);have oN:cZ d L name=if d.tick.dead=true then 6 else 0:=by
  unfold cZ;rw[fe,hno];rfl
 have p9:Hid (∀W o' d' L',aR W pb db n o' d' L'->Calls prog 67 #[ptrTo pb,.string name,.int .i64 20] W (dW W pb name 20 (cN d' name))):=ae (fun W o' d' L' hW=>dX (sz:=20) hW name hs ag ag);have lQ:=hj.lt.1;have HJ:=ae hj;have VO:=ae km;have hc0:=hj.cells.1;have RT:=ae h.keys;clear h hj km fe hno;unfold ptrTo at *;cases hd:d.tick.dead with
 |true=>
   rw[hd,if_pos rfl]at oN;unfold fO at qj;rw[oN]at qj;have HD:=ae hd;clear hd oN;go_enter func223,ntmps223;go_wp2_with fail;refine qj.out.mono ?_;rintro e w1⟨d1,o1,rfl,ej,-,hdd⟩;rw[if_neg ag]at ej;have HM:=ae ej;have vH:=ae (hdd HD.out);clear ej hdd;go_wp2;go_ret2;exact⟨_,6,d1,o1,rfl,HM.out,.inr ⟨rfl,vH.out⟩,fun h=>absurd h ag⟩
 |false=>
   rw[hd,if_neg ai]at oN;unfold fO at qj;rw[oN]at qj;clear hd oN;go_enter func223,ntmps223;go_wp2_with fail;refine qj.out.mono ?_;rintro e w1⟨d1,o1,rfl,ej,hdd,-⟩;simp only[if_true]at ej;have ik:aB (aS L name (.inl (([]:List Pg),true))) name=some (.inl (([]:List Pg),true)):=by rw[ay,if_pos rfl]
   have Ko:cN d1 name=0:=by
    rw[gX ej.aY ik,hdd trivial];rfl
   have KM:w1.cell? ⟨jb,0,none⟩=some (.pointer (some ⟨pb,0,none⟩)):=ej.cell hc0 VO.out (fun h=>h);have aM:=ae (p9.out w1 o1 d1 _ ej.aY);rw[Ko]at aM;have ad4:Moved (fun _=>False) n pb db w o d w1 o1 d1 (aS L name (ax [] false)):=
    ⟨(ej.aY.weaken ik).congr (ct RT.out) (fun x=>by
      rw[EU,ay,ay,ay];by_cases e:x=name
      ·rw[if_pos e,if_pos e]
      ·rw[if_neg e,if_neg e,if_neg e]),ej.turn,ej.grow,ej.on⟩
   have HM:=ae ad4;have HF:=ae (fun x(hx:w1.heap.size<=x)=>ej.aY.fresh hx);have hs1:w.heap.size<=w1.heap.size:=ej.size;clear ej ad4 hdd Ko ik;go_wp2_with fail;refine aM.out.mono ?_;rintro e w2⟨v2,rfl,hb2,jw,-⟩;obtain⟨sb,rfl,oO,CB⟩:=jw rfl;have cY:=ae hb2;have nS:=ae oO;have RU:=oO.lt;have hs2:w1.heap.size<=w2.heap.size:=hb2.size;clear hb2 oO jw;unfold ptrTo;go_wp2;go_ret2;refine⟨_,0,d1,o1,rfl,by rw[if_pos rfl];exact(HM.out.below cY.out).alloc _,.inl rfl,fun _=>⟨w2.heap.size,sb,rfl,.inl ⟨rfl,AJ,⟨341,?_⟩⟩,nS.out.below aj,HF.out _ hs2,HF.out _ CB,af,af,af⟩⟩;rw[heap_alloc_new];rfl
end
end
end Go.Proofs.YthkkgdpomhhjjaaGreatDoor
namespace Go.Proofs
open Go.Shelf
def Tryz.eI:Go.Shelf.Ren:=⟨fun | 6=>260 | 15=>87 | 14=>292 | 28=>135 | 29=>136 | 20=>305 | 21=>306 | 22=>307 | 23=>308 | 24=>309 | 25=>310 | 26=>311 | 27=>312 | 46=>315 | 47=>192 | 48=>193 | 49=>316 | 50=>317 | 57=>319 | n=>n,fun | 22=>22 | 24=>64 | 25=>305 | 3=>3 | 39=>159 | 0=>0 | 53=>26 | 55=>62 | 4=>4 | 46=>221 | 45=>220 | 50=>225 | 5=>5 | 9=>9 | 66=>280 | 70=>284 | 76=>313 | 77=>98 | n=>n,fun | n=>n⟩
theorem Tryz.jY:Go.Proofs.SlLaysF0.n6 prog Tryz.eI:={
 mixed:=by kernel_rfl
 f6:=⟨Tryz.f260.name,ag,func260.trans aq⟩
 f14:=⟨Tryz.f292.name,ag,func292.trans aq⟩
 f15:=func87.trans aq
 f20:=⟨Tryz.f305.name,ag,func305.trans aq⟩
 f21:=⟨Tryz.f306.name,ag,func306.trans aq⟩
 f22:=⟨Tryz.f307.name,ag,func307.trans aq⟩
 f23:=⟨Tryz.f308.name,ag,func308.trans aq⟩
 f24:=⟨Tryz.f309.name,ag,func309.trans aq⟩
 f25:=⟨Tryz.f310.name,ag,func310.trans aq⟩
 f26:=⟨Tryz.f311.name,ag,func311.trans aq⟩
 f27:=⟨Tryz.f312.name,ag,func312.trans aq⟩
 f28:=func135.trans aq
 f29:=func136.trans aq
 f46:=⟨Tryz.f315.name,ag,func315.trans aq⟩
 f47:=func192.trans aq
 f48:=func193.trans aq
 f49:=⟨Tryz.f316.name,ag,func316.trans aq⟩
 f50:=⟨Tryz.f317.name,ag,func317.trans aq⟩
 f57:=⟨Tryz.f319.name,ag,func319.trans aq⟩
 t0:=Tryz.underlying0
 a0:=Tryz.isAgg0
 z0:=Tryz.sizeOf0
 v0:=Tryz.zeroValue0
 t3:=Tryz.underlying3
 a3:=Tryz.isAgg3
 z3:=Tryz.sizeOf3
 v3:=Tryz.zeroValue3
 t4:=Tryz.underlying4
 a4:=Tryz.isAgg4
 z4:=Tryz.sizeOf4
 v4:=Tryz.zeroValue4
 t5:=Tryz.underlying5
 a5:=Tryz.isAgg5
 z5:=Tryz.sizeOf5
 v5:=Tryz.zeroValue5
 t9:=Tryz.underlying9
 a9:=Tryz.isAgg9
 z9:=Tryz.sizeOf9
 v9:=Tryz.zeroValue9
 t22:=Tryz.underlying22
 a22:=Tryz.isAgg22
 z22:=Tryz.sizeOf22
 v22:=Tryz.zeroValue22
 t25:=Tryz.underlying305
 a25:=Tryz.isAgg305
 z25:=Tryz.sizeOf305
 v25:=Tryz.zeroValue305
 t39:=Tryz.underlying159
 a39:=Tryz.isAgg159
 z39:=Tryz.sizeOf159
 v39:=Tryz.zeroValue159
 t45:=Tryz.underlying220
 a45:=Tryz.isAgg220
 z45:=Tryz.sizeOf220
 v45:=Tryz.zeroValue220
 t46:=Tryz.underlying221
 a46:=Tryz.isAgg221
 z46:=Tryz.sizeOf221
 v46:=Tryz.zeroValue221
 t50:=Tryz.underlying225
 a50:=Tryz.isAgg225
 z50:=Tryz.sizeOf225
 v50:=Tryz.zeroValue225
 t53:=Tryz.underlying26
 a53:=Tryz.isAgg26
 z53:=Tryz.sizeOf26
 v53:=Tryz.zeroValue26
 t55:=Tryz.underlying62
 a55:=Tryz.isAgg62
 z55:=Tryz.sizeOf62
 v55:=Tryz.zeroValue62
 t66:=Tryz.underlying280
 a66:=Tryz.isAgg280
 z66:=Tryz.sizeOf280
 v66:=Tryz.zeroValue280
 t70:=Tryz.underlying284
 a70:=Tryz.isAgg284
 z70:=Tryz.sizeOf284
 v70:=Tryz.zeroValue284
 t76:=Tryz.underlying313
 a76:=Tryz.isAgg313
 z76:=Tryz.sizeOf313
 v76:=Tryz.zeroValue313
 t77:=Tryz.underlying98
 a77:=Tryz.isAgg98
 z77:=Tryz.sizeOf98
 v77:=Tryz.zeroValue98 }
end Go.Proofs
namespace Go.Proofs.YthkkgdpomhhjjaaGreatDoor
open Go.Proofs.Tryz
section
open Go.RowKit Go.Maps Go.MapKept
def dD:List aD->List Value
 | []=>[]
 |e::l=>e.cells++dD l
theorem nW(l:List aD):(dD l).length=l.length*4:=by
 induction l with
 |nil=>rfl
 |cons e l ih=>rw[dD,List.length_append,ih,List.length_cons];simp;omega
theorem nY(a b:List aD):dD (a++b)=dD a++dD b:=by
 induction a with
 |nil=>rfl
 |cons e a ih=>rw[List.cons_append,dD,dD,ih,List.append_assoc]
theorem mo{l:List aD}{i:Nat}{e:aD}(h:l[i]? = some e){j:Nat}(hj:j<4):(dD l)[i*4+j]? = e.cells[j]? := by
 induction l generalizing i with
 |nil=>cases h
 |cons q l ih=>
   rw[dD];cases i with
   |zero=>
     cases h;rw[List.getElem?_append_left (by simp[aD.cells];omega)];simp
   |succ i=>
     rw[List.getElem?_append_right (by simp[aD.cells];omega),<- ih (i:=i) (by simpa using h)];congr 1;simp[aD.cells];omega
abbrev aJ(w:World)(base:Nat)(v:Value)(l:List aD):Prop:=w.ownsRow base 64 4 v l.length (dD l)
theorem bK{w:World}{base g cap:Nat}{l:List aD}(h:aJ w base (.slice (some ⟨g,0,none⟩) l.length cap) l){i:Nat}{e:aD}(hi:l[i]? = some e) :
 w.cell? ⟨g,i*4,none⟩=some (.int .u32 (e.t.toNat:Int))/\w.cell? ⟨g,i*4+1,none⟩=some (.int .u32 (e.h.toNat:Int))/\w.cell? ⟨g,i*4+2,none⟩=some (.int .u64 (e.x.toNat:Int))/\w.cell? ⟨g,i*4+3,none⟩=some (.int .u32 (e.m.toNat:Int)):=by
 have hc:∀(j:Nat)(u:Value),(dD l)[j]? = some u->w.cell? ⟨g,j,none⟩=some u:=fun j u hj=>by
  have:=World.ownsRow.cells h (g:=g) rfl j u hj;rwa [bI,Nat.zero_add]at this
 refine⟨hc _ _ ?_,hc _ _ ?_,hc _ _ ?_,hc _ _ ?_⟩
 ·have:=mo hi (j:=0) ag;rw[Nat.add_zero]at this;rw[this];rfl
 ·rw[mo hi ag];rfl
 ·rw[mo hi ag];rfl
 ·rw[mo hi ag];rfl
theorem ck{w:World}{base:Nat}{v:Value}{l:List aD}(h:aJ w base v l):(l=[]/\v=.slice none 0 0)\/∃g cap,v=.slice (some ⟨g,0,none⟩) l.length cap/\base<=g/\l.length<=cap/\cap<=maxLen:=by
 obtain⟨_,⟨h1,h2⟩|⟨g,cap,cur,h1,h2,h3,h4,h5,_⟩⟩:=h
 ·exact .inl ⟨List.eq_nil_of_length_eq_zero h2,h1⟩
 ·exact .inr ⟨g,cap,h1,h2,h4,h5⟩
theorem rI:(prog.info? 64).map (fun i=>(i.zero,i.size,i.bytes))=some (some (.agg #[.int .u32 0,.int .u32 0,.int .u64 0,.int .u32 0]),4,24):=by kernel_rfl
def cK(jb:Nat):Value:=.func (.func 224) #[ptrTo jb] #[]
def AK(b:Bool)(w:World)(base g cap:Nat)(es:List aD)(e:Ending)(w':World):Prop:=
 ∃ts,e=.returned (.tuple #[])/\ts.Perm es/\ts.Pairwise (dB b)/\aJ w' base (.slice (some ⟨g,0,none⟩) es.length cap) ts/\aG (·=g) w w'
def qN(m:Nat):Prop:=∀{w:World}{jb pb bf made:Nat}{b:Bool},cU w jb pb bf made b->∀{base g cap:Nat}(es:List aD),es.length<=m->aJ w base (.slice (some ⟨g,0,none⟩) es.length cap) es->g≠jb->g≠bf ->
 Calls prog 260 #[.slice (some ⟨g,0,none⟩) es.length cap,cK jb] w (AK b w base g cap es)
theorem EW(p:Option Addr)(cap:Nat)(fv:Value)(w:World):Calls prog 260 #[.slice p 0 cap,fv] w fun e w'=>e=.returned (.tuple #[])/\w=w':=
 (AnyF.slices_SortFunc_none (P:=prog) (ρ:=Tryz.eI) { Tryz.jY with } p cap fv w).mono fun _ _ ⟨h1,h2⟩=>⟨h1,h2.symm⟩
end
section
open Go.RowKit Go.Maps Go.Sort
instance:Inhabited aD:=⟨AJ⟩
structure fE(bt:Bool)(w0:World)(jb pb bf made base g cap:Nat)(d:Array aD)(W:World):Prop where
 row:aJ W base (.slice (some ⟨g,0,none⟩) d.size cap) d.toList
 EX:cU W jb pb bf made bt
 nj:g≠jb
 nb:g≠bf
 turn:aG (·=g) w0 W
section
variable {bt:Bool} {w0 W W':World} {jb pb bf made base g cap:Nat} {d:Array aD}
theorem fE.below(h:fE bt w0 jb pb bf made base g cap d W)(hb:Below W.heap.size W W'):fE bt w0 jb pb bf made base g cap d W':=
 ⟨aW h.row hb,h.EX.below hb,h.nj,h.nb,h.turn.bN hb⟩
theorem fE.drew(h:fE bt w0 jb pb bf made base g cap d W):fE bt w0 jb pb bf made base g cap d W.drew:=h.below ak.drew
theorem fE.cells(h:fE bt w0 jb pb bf made base g cap d W){i:Nat}(hi:i<d.size) :
 W.cell? ⟨g,i*4,none⟩=some (.int .u32 (d[i]!.t.toNat:Int))/\W.cell? ⟨g,i*4+1,none⟩=some (.int .u32 (d[i]!.h.toNat:Int))/\W.cell? ⟨g,i*4+2,none⟩=some (.int .u64 (d[i]!.x.toNat:Int))/\W.cell? ⟨g,i*4+3,none⟩=some (.int .u32 (d[i]!.m.toNat:Int)):=by
 have hg:d.toList[i]? = some d[i]! := by grind
 have:=bK (l:=d.toList) (by have:=h.row;simpa using this) hg;omega
theorem fE.cmp(h:fE bt w0 jb pb bf made base g cap d W)(x y:aD) :
 Calls prog 224 #[ptrTo jb,.agg #[.int .u32 (x.t.toNat:Int),.int .u32 (x.h.toNat:Int),.int .u64 (x.x.toNat:Int),.int .u32 (x.m.toNat:Int)],.agg #[.int .u32 (y.t.toNat:Int),.int .u32 (y.h.toNat:Int),.int .u64 (y.x.toNat:Int),.int .u32 (y.m.toNat:Int)]] W
  fun e w'=>e=.returned (.int .i64 (aQ bt x y))/\Below W.heap.size W w':=
 (yv h.EX x y).mono fun _ _ ⟨h1,h2⟩=>⟨h1,h2.below⟩
theorem KO(l:List aD)(i:Nat)(x:aD)(hi:i<l.length):((((dD l).set (i*4) (.int .u32 (x.t.toNat:Int))).set (i*4+1) (.int .u32 (x.h.toNat:Int))).set (i*4+2) (.int .u64 (x.x.toNat:Int))).set (i*4+3) (.int .u32 (x.m.toNat:Int))=dD (l.set i x):=by
 induction l generalizing i with
 |nil=>rfl
 |cons e l ih=>
   cases i with
   |zero=>rfl
   |succ i=>
     have:=ih i (by grind);simp only[List.set_cons_succ,dD];grind
theorem CC{l:List aD}(h:aJ W base (.slice (some ⟨g,0,none⟩) l.length cap) l)(i:Nat)(x:aD)(hi:i<l.length) :
 aJ (W.setCells g (i*4) x.cells) base (.slice (some ⟨g,0,none⟩) l.length cap) (l.set i x):=by
 have h1:=World.ownsRow.stored h (i*4) (.int .u32 (x.t.toNat:Int));have h2:=World.ownsRow.stored h1.1 (i*4+1) (.int .u32 (x.h.toNat:Int));have h3:=World.ownsRow.stored h2.1 (i*4+2) (.int .u64 (x.x.toNat:Int));have h4:=World.ownsRow.stored h3.1 (i*4+3) (.int .u32 (x.m.toNat:Int));unfold aJ;rw[List.length_set,<- KO l i x hi];exact h4.1
theorem fE.put(h:fE bt w0 jb pb bf made base g cap d W){i:Nat}(hi:i<d.size)(x:aD):fE bt w0 jb pb bf made base g cap (d.setIfInBounds i x) (W.setCells g (i*4) x.cells):=by
 refine⟨?_,?_,h.nj,h.nb,h.turn.setCells g (i*4) x.cells (.inl rfl)⟩
 ·grind [CC,row]
 ·have ht:aG (·=g) W (W.setCells g (i*4) x.cells):=(aG.refl _ _).setCells g (i*4) x.cells (.inl rfl);exact h.EX.kept (ht.block _ h.EX.lt.1 (fun e=>h.nj e.symm)) (ht.block _ h.EX.lt.2 (fun e=>h.nb e.symm))
theorem fE.swapped(h:fE bt w0 jb pb bf made base g cap d W){i j:Nat}(hi:i<d.size)(hj:j<d.size):fE bt w0 jb pb bf made base g cap (swp d i j) ((W.setCells g (i*4) d[j]!.cells).setCells g (j*4) d[i]!.cells):=
 (h.put hi d[j]!).put (by grind) d[i]!
structure aiX(bt:Bool)(w0:World)(jb pb bf made base g cap:Nat)(d:Array aD)(W:World)(i j p q:Nat)(x y:aD):Prop where
 hp:i*4=p
 hq:j*4=q
 p0:W.cell? ⟨g,p,none⟩=some (.int .u32 (x.t.toNat:Int))
 p1:W.cell? ⟨g,p+1,none⟩=some (.int .u32 (x.h.toNat:Int))
 p2:W.cell? ⟨g,p+2,none⟩=some (.int .u64 (x.x.toNat:Int))
 p3:W.cell? ⟨g,p+3,none⟩=some (.int .u32 (x.m.toNat:Int))
 q0:W.cell? ⟨g,q,none⟩=some (.int .u32 (y.t.toNat:Int))
 q1:W.cell? ⟨g,q+1,none⟩=some (.int .u32 (y.h.toNat:Int))
 q2:W.cell? ⟨g,q+2,none⟩=some (.int .u64 (y.x.toNat:Int))
 q3:W.cell? ⟨g,q+3,none⟩=some (.int .u32 (y.m.toNat:Int))
 fr:∀k,W.frozen? ⟨g,k,none⟩=false
 apart:i≠j->p≠q/\p≠q+1/\p≠q+2/\p≠q+3/\p+1≠q/\p+2≠q/\p+3≠q
 done:fE bt w0 jb pb bf made base g cap (swp d i j) (((((((((W.setCell ⟨g,p,none⟩ (.int .u32 (y.t.toNat:Int))).setCell ⟨g,p+1,none⟩ (.int .u32 (y.h.toNat:Int))).setCell ⟨g,p+2,none⟩ (.int .u64 (y.x.toNat:Int))).setCell ⟨g,p+3,none⟩ (.int .u32 (y.m.toNat:Int))).setCell ⟨g,q,none⟩ (.int .u32 (x.t.toNat:Int))).setCell ⟨g,q+1,none⟩ (.int .u32 (x.h.toNat:Int))).setCell ⟨g,q+2,none⟩ (.int .u64 (x.x.toNat:Int))).setCell ⟨g,q+3,none⟩ (.int .u32 (x.m.toNat:Int)))).drew
theorem fE.lA(h:fE bt w0 jb pb bf made base g cap d W){i j:Nat}(hi:i<d.size)(hj:j<d.size){x y:aD}(hx:d[i]! = x)(hy:d[j]! = y):∃p q,aiX bt w0 jb pb bf made base g cap d W i j p q x y:=by
 obtain⟨a0,a1,a2,a3⟩:=h.cells hi;obtain⟨b0,b1,b2,b3⟩:=h.cells hj;have hs:=(h.swapped hi hj).drew;rw[hx]at a0 a1 a2 a3 hs;rw[hy]at b0 b1 b2 b3 hs;exact⟨i*4,j*4,rfl,rfl,a0,a1,a2,a3,b0,b1,b2,b3,fun k=>World.ownsRow.frozenAt h.row k,fun hne=>by omega,hs⟩
end
end
section
open Go.RowKit Go.Maps Go.Sort
section
variable {bt:Bool} {w0 W W':World} {jb pb bf made base g cap:Nat} {d:Array aD}
def mZ(bt:Bool)(w0:World)(jb pb bf made base g cap:Nat)(d:Array aD)(e:Ending)(w':World):Prop:=e=.returned (.tuple #[])/\fE bt w0 jb pb bf made base g cap d w'
theorem nc(h:fE bt w0 jb pb bf made base g cap d W)(a b:Nat)(hab:a<=b)(hb:b<=d.size)(hsz:d.size<=1000000) :
 Calls prog 305 #[.slice (some ⟨g,0,none⟩) d.size cap,.int .i64 (a:Int),.int .i64 (b:Int),cK jb] W (mZ bt w0 jb pb bf made base g cap (insertionSort (ltOf (aQ bt)) d a b)):=by
 have H:=ae h;clear h;obtain⟨N,hN⟩:∃N,N=d.size:=⟨_,rfl⟩;rw[<- hN]at hb hsz ⊢;have HN:=ae hN;clear hN;unfold cK ptrTo;go_enter func305,ntmps305;go_wp2;go_loopw [8] (fun vi wr=>∃(i:Nat)(dk:Array aD),vi=.int .i64 (i:Int)/\a<i/\i<=b+1/\dk.size=N/\fE bt w0 jb pb bf made base g cap dk wr/\Hid (insOuter (ltOf (aQ bt)) a b i dk=insOuter (ltOf (aQ bt)) a b (a+1) d)) (fun vi _=>b+1-(intOf vi).toNat)
 case atStart=>exact⟨a+1,d,by go_num,af,af,HN.out.symm,H.out,rfl⟩
 case round=>
  obtain⟨i,dk,rfl,hai,hib,hsk,hs,HO⟩:=hrel;have HS:=ae hs;have DJ:=ae hsk;clear hs hsk;by_cases hlt:i<b
  ·have KP:(i:Int)<(b:Int):=by omega
   go_wp2;go_loopw [9] (fun vj wr2=>∃(j:Nat)(dj:Array aD),vj=.int .i64 (j:Int)/\a<=j/\j<=i/\dj.size=N/\fE bt w0 jb pb bf made base g cap dj wr2/\Hid (insInner (ltOf (aQ bt)) a j dj=insInner (ltOf (aQ bt)) a i dk)) (fun vj _=>(intOf vj).toNat)
   case atStart=>exact⟨i,dk,rfl,af,Nat.le_refl _,DJ.out,HS.out,rfl⟩
   case round=>
    obtain⟨j,dj,rfl,haj,vQ,hsj,hs2,HI⟩:=hrel;have eP:=ae hs2;have BW:=ae hsj;clear hs2 hsj;have OUT:Hid ((j<=a\/ltOf (aQ bt) dj[j]! dj[j-1]! = false)->insOuter (ltOf (aQ bt)) a b (i+1) dj=insOuter (ltOf (aQ bt)) a b (a+1) d):=ae (fun hq=>by
     rw[<- HO.out,insOuter_go _ _ _ _ _ hlt,<- HI.out,insInner_stop _ _ _ _ hq])
    generalize wr=Wr at *;by_cases hja:a<j
    ·obtain⟨jp,rfl⟩:∃jp,j=jp+1:=⟨j-1,af⟩;have aiZ:(a:Int)<(jp:Int)+1:=by omega
     have hwp:IntKind.i64.wrap (jp:Int)=(jp:Int):=aw af af;have jz:(jp:Int)+1<(N:Int):=by omega
     have jz1:(jp:Int)<(N:Int):=by omega
     have p0:(0:Int)<=(jp:Int)+1:=by omega
     have e0:((jp:Int)+1).toNat=jp+1:=by omega
     have HJ:Hid (jp+1<dj.size/\jp<dj.size):=ae ⟨by rw[BW.out];omega,by rw[BW.out];omega⟩;obtain⟨xj,hxj⟩:∃x,dj[jp+1]! = x:=⟨_,rfl⟩;obtain⟨xp,Qd⟩:∃x,dj[jp]! = x:=⟨_,rfl⟩;have F1:Hid (∀w',Below Wr.heap.size Wr w'->w'.cell? ⟨g,(jp+1)*4,none⟩=some (.int .u32 (xj.t.toNat:Int))/\w'.cell? ⟨g,(jp+1)*4+1,none⟩=some (.int .u32 (xj.h.toNat:Int))/\w'.cell? ⟨g,(jp+1)*4+2,none⟩=some (.int .u64 (xj.x.toNat:Int))/\w'.cell? ⟨g,(jp+1)*4+3,none⟩=some (.int .u32 (xj.m.toNat:Int))):=ae (fun w' hw'=>by rw[<- hxj];exact(eP.out.below hw').cells HJ.out.1);have F2:Hid (∀w',Below Wr.heap.size Wr w'->w'.cell? ⟨g,jp*4,none⟩=some (.int .u32 (xp.t.toNat:Int))/\w'.cell? ⟨g,jp*4+1,none⟩=some (.int .u32 (xp.h.toNat:Int))/\w'.cell? ⟨g,jp*4+2,none⟩=some (.int .u64 (xp.x.toNat:Int))/\w'.cell? ⟨g,jp*4+3,none⟩=some (.int .u32 (xp.m.toNat:Int))):=ae (fun w' hw'=>by rw[<- Qd];exact(eP.out.below hw').cells HJ.out.2);have FC:Hid (∀w',Below Wr.heap.size Wr w'->Calls prog 224 #[.pointer (some ⟨jb,0,none⟩),.agg #[.int .u32 (xj.t.toNat:Int),.int .u32 (xj.h.toNat:Int),.int .u64 (xj.x.toNat:Int),.int .u32 (xj.m.toNat:Int)],.agg #[.int .u32 (xp.t.toNat:Int),.int .u32 (xp.h.toNat:Int),.int .u64 (xp.x.toNat:Int),.int .u32 (xp.m.toNat:Int)]] w' fun e w''=>e=.returned (.int .i64 (aQ bt xj xp))/\Below Wr.heap.size Wr w''):=ae (fun w' hw'=>((eP.out.below hw').cmp xj xp).mono fun _ _ ⟨h1,h2⟩=>⟨h1,hw'.trans (h2.mono hw'.size)⟩);by_cases hlv:aQ bt xj xp<0
     ·go_wp2_with fail;refine wq Wr ?_;iterate 4 (refine qz ?_)
      iterate 4 (refine qz ?_)
      refine qz ?_ (fun w' hw'=>by obtain⟨c0,c1,c2,c3⟩:=F1.out w' hw';go_simp<;>rfl);iterate 4 (refine qz ?_)
      refine qz ?_ (fun w' hw'=>by obtain⟨c0,c1,c2,c3⟩:=F2.out w' hw';go_simp<;>rfl);refine qw (fun w' hw'=>FC.out w' hw') ?_;iterate 2 (refine qz ?_)
      refine wpQuiet_nil ?_;intro w3 hw3;have fF:=ae (eP.out.below hw3);clear hw3;go_wp2_with fail;obtain⟨pp,qq,hex⟩:=fF.out.lA HJ.out.1 HJ.out.2 hxj Qd;have pI:=ae hex;obtain⟨mH,EY,x0,x1,x2,x3,y0,y1,y2,y3,dQ,hap,-⟩:=hex;obtain⟨n0,n1,n2,n3,n4,n5,n6⟩:=hap af;clear F1 F2 FC hap;go_big_region
      all_goals
       clear x0 x1 x2 x3 y0 y1 y2 y3 n0 n1 n2 n3 n4 n5 n6 dQ;have hdone:=ae pI.out.done;go_wp2;have hst:insInner (ltOf (aQ bt)) a jp (swp dj (jp+1) jp)=insInner (ltOf (aQ bt)) a i dk:=by
        have:=insInner_go (lt:=ltOf (aQ bt)) a (jp+1) dj hja (by rw[Nat.add_sub_cancel,hxj,Qd];exact decide_eq_true hlv);rw[Nat.add_sub_cancel]at this;rw[<- HI.out,this]
       exact⟨⟨jp,swp dj (jp+1) jp,rfl,af,af,by rw[size_swp];exact BW.out,hdone.out,hst⟩,by simp[intOf]⟩
     ·go_wp2_with fail;refine wq Wr ?_;iterate 4 (refine qz ?_)
      iterate 4 (refine qz ?_)
      refine qz ?_ (fun w' hw'=>by obtain⟨c0,c1,c2,c3⟩:=F1.out w' hw';go_simp<;>rfl);iterate 4 (refine qz ?_)
      refine qz ?_ (fun w' hw'=>by obtain⟨c0,c1,c2,c3⟩:=F2.out w' hw';go_simp<;>rfl);refine qw (fun w' hw'=>FC.out w' hw') ?_;iterate 2 (refine qz ?_)
      refine wpQuiet_nil ?_;intro w3 hw3;have fF:=ae (eP.out.below hw3);clear hw3;go_wp2;have mQ:=ae (OUT.out (.inr (by rw[Nat.add_sub_cancel,hxj,Qd];exact decide_eq_false af)));exact⟨⟨i+1,dj,by go_num,af,af,BW.out,fF.out,mQ⟩,by simp[intOf];omega⟩
    ·have aiZ:¬(a:Int)<(j:Int):=by omega
     go_wp2_with fail;go_quiet (fail)
     go_wp2;have vK:RowKit.Below Wr.heap.size Wr (Wr.drewN nq):=⟨rfl,rfl,rfl,Nat.le_refl _,fun _ _=>rfl⟩;exact⟨⟨i+1,dj,by go_num,af,af,BW.out,eP.out.below vK,ae (OUT.out (.inl af))⟩,by simp[intOf];omega⟩
  ·have KP:¬(i:Int)<(b:Int):=by omega
   go_wp2;go_end0
   exact⟨rfl,by unfold insertionSort;rw[<- HO.out,insOuter_stop _ _ _ _ _ hlt];exact HS.out⟩
end
end
section
open Go.RowKit Go.Maps Go.Sort
section
variable {bt:Bool} {w0 W W':World} {jb pb bf made base g cap:Nat} {d:Array aD}
def Reads(bt:Bool)(W:World)(jb g p q:Nat)(x y:aD):Prop:=∀w',RowKit.Below W.heap.size W w' ->
 (w'.cell? ⟨g,p,none⟩=some (.int .u32 (x.t.toNat:Int))/\w'.cell? ⟨g,p+1,none⟩=some (.int .u32 (x.h.toNat:Int))/\w'.cell? ⟨g,p+2,none⟩=some (.int .u64 (x.x.toNat:Int))/\w'.cell? ⟨g,p+3,none⟩=some (.int .u32 (x.m.toNat:Int))) /\
 (w'.cell? ⟨g,q,none⟩=some (.int .u32 (y.t.toNat:Int))/\w'.cell? ⟨g,q+1,none⟩=some (.int .u32 (y.h.toNat:Int))/\w'.cell? ⟨g,q+2,none⟩=some (.int .u64 (y.x.toNat:Int))/\w'.cell? ⟨g,q+3,none⟩=some (.int .u32 (y.m.toNat:Int))) /\
 Calls prog 224 #[.pointer (some ⟨jb,0,none⟩),.agg #[.int .u32 (x.t.toNat:Int),.int .u32 (x.h.toNat:Int),.int .u64 (x.x.toNat:Int),.int .u32 (x.m.toNat:Int)],.agg #[.int .u32 (y.t.toNat:Int),.int .u32 (y.h.toNat:Int),.int .u64 (y.x.toNat:Int),.int .u32 (y.m.toNat:Int)]] w'
  fun e w''=>e=.returned (.int .i64 (aQ bt x y))/\RowKit.Below W.heap.size W w''
theorem fE.reads(h:fE bt w0 jb pb bf made base g cap d W){i j:Nat}(hi:i<d.size)(hj:j<d.size){x y:aD}(hx:d[i]! = x)(hy:d[j]! = y):Reads bt W jb g (i*4) (j*4) x y:=fun _ hw'=>
 ⟨hx▸(h.below hw').cells hi,hy▸(h.below hw').cells hj,((h.below hw').cmp x y).mono fun _ _ ⟨h1,h2⟩=>⟨h1,hw'.trans (h2.mono hw'.size)⟩⟩
end
end
section
open Go.RowKit Go.Maps Go.Sort
section
variable {bt:Bool} {w0 W W':World} {jb pb bf made base g cap:Nat} {d:Array aD}
theorem EZ{lt:aD->aD->Bool}{hi first root:Nat}{d:Array aD}(h:hi<=2*root+1):siftDown lt hi first root d=d:=by
 unfold siftDown;rw[dif_pos h]
theorem AL{lt:aD->aD->Bool}{hi first root:Nat}{d:Array aD}(h:2*root+2<hi)(h1:lt d[first+(2*root+1)]! d[first+(2*root+1)+1]! = true) :
 siftDown lt hi first root d=if lt d[first+root]! d[first+(2*root+2)]! = true then siftDown lt hi first (2*root+2) (swp d (first+root) (first+(2*root+2))) else d:=by
 conv=>lhs;unfold siftDown
 rw[dif_neg af,if_pos (by rw[h1];simp;omega)];cases lt d[first+root]! d[first+(2*root+2)]! <;> simp[h]
theorem CD{lt:aD->aD->Bool}{hi first root:Nat}{d:Array aD}(h:2*root+1<hi)(h1:¬2*root+2<hi\/lt d[first+(2*root+1)]! d[first+(2*root+1)+1]! = false) :
 siftDown lt hi first root d=if lt d[first+root]! d[first+(2*root+1)]! = true then siftDown lt hi first (2*root+1) (swp d (first+root) (first+(2*root+1))) else d:=by
 conv=>lhs;unfold siftDown
 rw[dif_neg af,if_neg (by
  intro e;simp only[Bool.and_eq_true,decide_eq_true_eq]at e;rcases h1 with h1 | h1
  ·omega
  ·rw[h1]at e;simp at e)]
 cases lt d[first+root]! d[first+(2*root+1)]! <;> simp
theorem qa{lt:aD->aD->Bool}{hi first r C1 P Q Q1:Nat}{d:Array aD}(e2:C1=2*r+2)(e3:P=first+r)(e4:Q=first+(2*r+1))(e5:Q1=first+(2*r+2))(h:C1<hi)(h1:lt d[Q]! d[Q1]! = true) :
 siftDown lt hi first r d=if lt d[P]! d[Q1]! = true then siftDown lt hi first C1 (swp d P Q1) else d:=by
 subst e2 e3 e4 e5;exact AL h h1
theorem jx{lt:aD->aD->Bool}{hi first r C P Q Q1:Nat}{d:Array aD}(e1:C=2*r+1)(e3:P=first+r)(e4:Q=first+(2*r+1))(e5:Q1=first+(2*r+2))(h:C<hi)(h1:¬2*r+2<hi\/lt d[Q]! d[Q1]! = false) :
 siftDown lt hi first r d=if lt d[P]! d[Q]! = true then siftDown lt hi first C (swp d P Q) else d:=by
 subst e1 e3 e4 e5;exact CD h h1
theorem E0(h:fE bt w0 jb pb bf made base g cap d W)(lo hi first:Nat)(JQ:lo<=hi)(hb:first+hi<=d.size)(hsz:d.size<=1000000) :
 Calls prog 315 #[.slice (some ⟨g,0,none⟩) d.size cap,.int .i64 (lo:Int),.int .i64 (hi:Int),.int .i64 (first:Int),cK jb] W (mZ bt w0 jb pb bf made base g cap (siftDown (ltOf (aQ bt)) hi first lo d)):=by
 have H:=ae h;clear h;obtain⟨N,hN⟩:∃N,N=d.size:=⟨_,rfl⟩;rw[<- hN]at hb hsz ⊢;have HN:=ae hN;clear hN;unfold cK ptrTo;go_enter func315,ntmps315;go_wp2;go_loopw [10] (fun vi wr=>∃(r:Nat)(dk:Array aD),vi=.int .i64 (r:Int)/\r<=hi/\dk.size=N/\fE bt w0 jb pb bf made base g cap dk wr/\Hid (siftDown (ltOf (aQ bt)) hi first r dk=siftDown (ltOf (aQ bt)) hi first lo d)) (fun vi _=>hi-(intOf vi).toNat)
 case atStart=>exact⟨lo,d,rfl,JQ,HN.out.symm,H.out,rfl⟩
 case round=>
  obtain⟨r,dk,rfl,hr,hsk,hs,HO⟩:=hrel;generalize wr=Wr at *;have HS:=ae hs;have DJ:=ae hsk;clear hs;obtain⟨R2,hR2⟩:∃x,x=2*r:=⟨_,rfl⟩;obtain⟨C,hC⟩:∃x,x=R2+1:=⟨_,rfl⟩;obtain⟨C1,X9⟩:∃x,x=C+1:=⟨_,rfl⟩;obtain⟨P,hP⟩:∃x,x=first+r:=⟨_,rfl⟩;obtain⟨Q,hQ⟩:∃x,x=first+C:=⟨_,rfl⟩;obtain⟨Q1,hQ1⟩:∃x,x=Q+1:=⟨_,rfl⟩;have wR2:IntKind.i64.wrap (2*(r:Int))=(R2:Int):=by rw[aw]<;>omega
  have wC:IntKind.i64.wrap ((R2:Int)+1)=(C:Int):=by rw[aw]<;>omega
  have wC1:IntKind.i64.wrap ((C:Int)+1)=(C1:Int):=by rw[aw]<;>omega
  have wP:IntKind.i64.wrap ((first:Int)+(r:Int))=(P:Int):=by rw[aw]<;>omega
  have wQ:IntKind.i64.wrap ((first:Int)+(C:Int))=(Q:Int):=by rw[aw]<;>omega
  have wQ1:IntKind.i64.wrap ((Q:Int)+1)=(Q1:Int):=by rw[aw]<;>omega
  have apz:IntKind.i64.wrap ((first:Int)+(C1:Int))=(Q1:Int):=by rw[aw]<;>omega
  have HE:Hid (C=2*r+1/\C1=2*r+2/\P=first+r/\Q=first+(2*r+1)/\Q1=first+(2*r+2)):=ae af;by_cases hch:C<hi
  ·have Z9:¬(C:Int) >= (hi:Int):=by omega
   have bP:(P:Int)<(N:Int):=by omega
   have bQ:(Q:Int)<(N:Int):=by omega
   by_cases hc1:C1<hi
   ·have ai1:(C1:Int)<(hi:Int):=by omega
    have bQ1:(Q1:Int)<(N:Int):=by omega
    have HB:Hid (P<dk.size/\Q<dk.size/\Q1<dk.size/\P≠Q/\P≠Q1/\C<hi/\C1<hi/\r<C/\r<C1):=ae af;clear hR2 hC X9 hP hQ hQ1 hsk;obtain⟨xq,hxq⟩:∃x,dk[Q]! = x:=⟨_,rfl⟩;obtain⟨xq1,RV⟩:∃x,dk[Q1]! = x:=⟨_,rfl⟩;have F1:=ae (HS.out.reads (i:=Q) (j:=Q1) (by have:=HB.out;omega) (by have:=HB.out;omega) hxq RV);by_cases JS:aQ bt xq xq1<0
    ·go_wp2_with fail;refine wq Wr ?_;iterate 11 (refine qz ?_)
     refine qz ?_ (fun w' hw'=>by obtain⟨⟨c0,c1,c2,c3⟩,-,-⟩:=F1.out w' hw';go_simp<;>rfl);iterate 6 (refine qz ?_)
     refine qz ?_ (fun w' hw'=>by obtain⟨-,⟨c0,c1,c2,c3⟩,-⟩:=F1.out w' hw';go_simp<;>rfl);refine qw (fun w' hw'=>(F1.out w' hw').2.2) ?_;iterate 2 (refine qz ?_)
     refine wpQuiet_nil ?_;intro w4 hw4;have gD:=ae (HS.out.below hw4);clear hw4;go_wp2_with fail;obtain⟨xr,Gh⟩:∃x,dk[P]! = x:=⟨_,rfl⟩;obtain⟨xc,BX⟩:∃x,dk[Q1]! = x:=⟨_,rfl⟩;have F2:=ae (gD.out.reads (i:=P) (j:=Q1) (by have:=HB.out;omega) (by have:=HB.out;omega) Gh BX);by_cases hl2:aQ bt xr xc<0
     ·go_wp2_with fail;refine wq w4 ?_;iterate 6 (refine qz ?_)
      refine qz ?_ (fun w' hw'=>by obtain⟨⟨c0,c1,c2,c3⟩,-,-⟩:=F2.out w' hw';go_simp<;>rfl);iterate 5 (refine qz ?_)
      refine qz ?_ (fun w' hw'=>by obtain⟨-,⟨c0,c1,c2,c3⟩,-⟩:=F2.out w' hw';go_simp<;>rfl);refine qw (fun w' hw'=>(F2.out w' hw').2.2) ?_;iterate 2 (refine qz ?_)
      refine wpQuiet_nil ?_;intro w5 fP;have b7:=ae (gD.out.below fP);clear fP;go_wp2_with fail;obtain⟨pp,qq,hex⟩:=b7.out.lA (i:=P) (j:=Q1) (by have:=HB.out;omega) (by have:=HB.out;omega) Gh BX;have pI:=ae hex;obtain⟨mH,EY,x0,x1,x2,x3,y0,y1,y2,y3,dQ,hap,-⟩:=hex;obtain⟨n0,n1,n2,n3,n4,n5,n6⟩:=hap (by have:=HB.out;omega);clear F2 hap F1;go_big_region
      all_goals
       clear x0 x1 x2 x3 y0 y1 y2 y3 n0 n1 n2 n3 n4 n5 n6 dQ;have hdone:=ae pI.out.done;go_wp2;refine⟨⟨C1,swp dk P Q1,rfl,?_,by rw[size_swp];exact DJ.out,hdone.out,?_⟩,?_⟩
       ·have:=HB.out;omega
       ·exact(by
         obtain⟨e1,e2,e3,e4,e5⟩:=HE.out;show siftDown _ _ _ _ _=_;rw[<- HO.out,qa e2 e3 e4 e5 hc1 (by rw[hxq,RV];exact decide_eq_true JS),Gh,BX,if_pos (by exact decide_eq_true hl2)])
       ·have:=HB.out;simp[intOf];omega
     ·have ad7:decide (aQ bt xr xc<0)=false:=decide_eq_false hl2;go_wp2_with fail;refine wq w4 ?_;iterate 6 (refine qz ?_)
      refine qz ?_ (fun w' hw'=>by obtain⟨⟨c0,c1,c2,c3⟩,-,-⟩:=F2.out w' hw';go_simp<;>rfl);iterate 5 (refine qz ?_)
      refine qz ?_ (fun w' hw'=>by obtain⟨-,⟨c0,c1,c2,c3⟩,-⟩:=F2.out w' hw';go_simp<;>rfl);refine qw (fun w' hw'=>(F2.out w' hw').2.2) ?_;iterate 2 (refine qz ?_)
      refine wpQuiet_nil ?_;intro w5 fP;have b7:=ae (gD.out.below fP);clear fP;go_wp2;go_returns;refine⟨rfl,?_⟩;rw[show siftDown (ltOf (aQ bt)) hi first lo d=dk from by
       obtain⟨e1,e2,e3,e4,e5⟩:=HE.out;rw[<- HO.out,qa e2 e3 e4 e5 hc1 (by rw[hxq,RV];exact decide_eq_true JS),Gh,BX,if_neg (by intro e;have:=of_decide_eq_true e;omega)]]
      exact b7.out
    ·have apB:decide (aQ bt xq xq1<0)=false:=decide_eq_false JS;go_wp2_with fail;refine wq Wr ?_;iterate 11 (refine qz ?_)
     refine qz ?_ (fun w' hw'=>by obtain⟨⟨c0,c1,c2,c3⟩,-,-⟩:=F1.out w' hw';go_simp<;>rfl);iterate 6 (refine qz ?_)
     refine qz ?_ (fun w' hw'=>by obtain⟨-,⟨c0,c1,c2,c3⟩,-⟩:=F1.out w' hw';go_simp<;>rfl);refine qw (fun w' hw'=>(F1.out w' hw').2.2) ?_;iterate 2 (refine qz ?_)
     refine wpQuiet_nil ?_;intro w4 hw4;have gD:=ae (HS.out.below hw4);clear hw4;go_wp2_with fail;obtain⟨xr,Gh⟩:∃x,dk[P]! = x:=⟨_,rfl⟩;obtain⟨xc,BX⟩:∃x,dk[Q]! = x:=⟨_,rfl⟩;have F2:=ae (gD.out.reads (i:=P) (j:=Q) (by have:=HB.out;omega) (by have:=HB.out;omega) Gh BX);by_cases hl2:aQ bt xr xc<0
     ·go_wp2_with fail;refine wq w4 ?_;iterate 6 (refine qz ?_)
      refine qz ?_ (fun w' hw'=>by obtain⟨⟨c0,c1,c2,c3⟩,-,-⟩:=F2.out w' hw';go_simp<;>rfl);iterate 5 (refine qz ?_)
      refine qz ?_ (fun w' hw'=>by obtain⟨-,⟨c0,c1,c2,c3⟩,-⟩:=F2.out w' hw';go_simp<;>rfl);refine qw (fun w' hw'=>(F2.out w' hw').2.2) ?_;iterate 2 (refine qz ?_)
      refine wpQuiet_nil ?_;intro w5 fP;have b7:=ae (gD.out.below fP);clear fP;go_wp2_with fail;obtain⟨pp,qq,hex⟩:=b7.out.lA (i:=P) (j:=Q) (by have:=HB.out;omega) (by have:=HB.out;omega) Gh BX;have pI:=ae hex;obtain⟨mH,EY,x0,x1,x2,x3,y0,y1,y2,y3,dQ,hap,-⟩:=hex;obtain⟨n0,n1,n2,n3,n4,n5,n6⟩:=hap (by have:=HB.out;omega);clear F2 hap F1;go_big_region
      all_goals
       clear x0 x1 x2 x3 y0 y1 y2 y3 n0 n1 n2 n3 n4 n5 n6 dQ;have hdone:=ae pI.out.done;go_wp2;refine⟨⟨C,swp dk P Q,rfl,?_,by rw[size_swp];exact DJ.out,hdone.out,?_⟩,?_⟩
       ·have:=HB.out;omega
       ·exact(by
         obtain⟨e1,e2,e3,e4,e5⟩:=HE.out;show siftDown _ _ _ _ _=_;rw[<- HO.out,jx e1 e3 e4 e5 hch (.inr (by rw[hxq,RV];exact decide_eq_false af)),Gh,BX,if_pos (by exact decide_eq_true hl2)])
       ·have:=HB.out;simp[intOf];omega
     ·have ad7:decide (aQ bt xr xc<0)=false:=decide_eq_false hl2;go_wp2_with fail;refine wq w4 ?_;iterate 6 (refine qz ?_)
      refine qz ?_ (fun w' hw'=>by obtain⟨⟨c0,c1,c2,c3⟩,-,-⟩:=F2.out w' hw';go_simp<;>rfl);iterate 5 (refine qz ?_)
      refine qz ?_ (fun w' hw'=>by obtain⟨-,⟨c0,c1,c2,c3⟩,-⟩:=F2.out w' hw';go_simp<;>rfl);refine qw (fun w' hw'=>(F2.out w' hw').2.2) ?_;iterate 2 (refine qz ?_)
      refine wpQuiet_nil ?_;intro w5 fP;have b7:=ae (gD.out.below fP);clear fP;go_wp2;go_returns;refine⟨rfl,?_⟩;rw[show siftDown (ltOf (aQ bt)) hi first lo d=dk from by
       obtain⟨e1,e2,e3,e4,e5⟩:=HE.out;rw[<- HO.out,jx e1 e3 e4 e5 hch (.inr (by rw[hxq,RV];exact decide_eq_false af)),Gh,BX,if_neg (by intro e;have:=of_decide_eq_true e;omega)]]
      exact b7.out
   ·have ai1:¬(C1:Int)<(hi:Int):=by omega
    have HB:Hid (P<dk.size/\Q<dk.size/\P≠Q/\C<hi/\¬C1<hi/\r<C):=ae af;clear hR2 hC X9 hP hQ hQ1 hsk;go_wp2_with fail;go_quiet (fail)
    have vK:RowKit.Below Wr.heap.size Wr (Wr.drewN nq):=⟨rfl,rfl,rfl,Nat.le_refl _,fun _ _=>rfl⟩;have gD:=ae (HS.out.below vK);clear vK;generalize Wr.drewN nq=w4 at *;go_wp2_with fail;obtain⟨xr,Gh⟩:∃x,dk[P]! = x:=⟨_,rfl⟩;obtain⟨xc,BX⟩:∃x,dk[Q]! = x:=⟨_,rfl⟩;have F2:=ae (gD.out.reads (i:=P) (j:=Q) (by have:=HB.out;omega) (by have:=HB.out;omega) Gh BX);by_cases hl2:aQ bt xr xc<0
    ·go_wp2_with fail;refine wq w4 ?_;iterate 6 (refine qz ?_)
     refine qz ?_ (fun w' hw'=>by obtain⟨⟨c0,c1,c2,c3⟩,-,-⟩:=F2.out w' hw';go_simp<;>rfl);iterate 5 (refine qz ?_)
     refine qz ?_ (fun w' hw'=>by obtain⟨-,⟨c0,c1,c2,c3⟩,-⟩:=F2.out w' hw';go_simp<;>rfl);refine qw (fun w' hw'=>(F2.out w' hw').2.2) ?_;iterate 2 (refine qz ?_)
     refine wpQuiet_nil ?_;intro w5 fP;have b7:=ae (gD.out.below fP);clear fP;go_wp2_with fail;obtain⟨pp,qq,hex⟩:=b7.out.lA (i:=P) (j:=Q) (by have:=HB.out;omega) (by have:=HB.out;omega) Gh BX;have pI:=ae hex;obtain⟨mH,EY,x0,x1,x2,x3,y0,y1,y2,y3,dQ,hap,-⟩:=hex;obtain⟨n0,n1,n2,n3,n4,n5,n6⟩:=hap (by have:=HB.out;omega);clear F2 hap;go_big_region
     all_goals
      clear x0 x1 x2 x3 y0 y1 y2 y3 n0 n1 n2 n3 n4 n5 n6 dQ;have hdone:=ae pI.out.done;go_wp2;refine⟨⟨C,swp dk P Q,rfl,?_,by rw[size_swp];exact DJ.out,hdone.out,?_⟩,?_⟩
      ·have:=HB.out;omega
      ·exact(by
        obtain⟨e1,e2,e3,e4,e5⟩:=HE.out;show siftDown _ _ _ _ _=_;rw[<- HO.out,jx e1 e3 e4 e5 hch (.inl (by have:=HB.out;omega)),Gh,BX,if_pos (by exact decide_eq_true hl2)])
      ·have:=HB.out;simp[intOf];omega
    ·have ad7:decide (aQ bt xr xc<0)=false:=decide_eq_false hl2;go_wp2_with fail;refine wq w4 ?_;iterate 6 (refine qz ?_)
     refine qz ?_ (fun w' hw'=>by obtain⟨⟨c0,c1,c2,c3⟩,-,-⟩:=F2.out w' hw';go_simp<;>rfl);iterate 5 (refine qz ?_)
     refine qz ?_ (fun w' hw'=>by obtain⟨-,⟨c0,c1,c2,c3⟩,-⟩:=F2.out w' hw';go_simp<;>rfl);refine qw (fun w' hw'=>(F2.out w' hw').2.2) ?_;iterate 2 (refine qz ?_)
     refine wpQuiet_nil ?_;intro w5 fP;have b7:=ae (gD.out.below fP);clear fP;go_wp2;go_returns;refine⟨rfl,?_⟩;rw[show siftDown (ltOf (aQ bt)) hi first lo d=dk from by
      obtain⟨e1,e2,e3,e4,e5⟩:=HE.out;rw[<- HO.out,jx e1 e3 e4 e5 hch (.inl (by have:=HB.out;omega)),Gh,BX,if_neg (by intro e;have:=of_decide_eq_true e;omega)]]
     exact b7.out
  ·have Z9:(C:Int) >= (hi:Int):=by omega
   go_wp2;go_returns;refine⟨rfl,?_⟩;rw[show siftDown (ltOf (aQ bt)) hi first lo d=dk from by rw[<- HO.out,EZ af]];exact HS.out
end
end
section
open Go.RowKit Go.Maps Go.Sort
section
variable {bt:Bool} {w0 W W':World} {jb pb bf made base g cap:Nat} {d:Array aD}
theorem fE.iC(h:fE bt w0 jb pb bf made base g cap d W){i:Nat}(hi:i<d.size){x:aD}(hx:d[i]! = x):∃p,i*4=p /\
 (W.cell? ⟨g,p,none⟩=some (.int .u32 (x.t.toNat:Int))/\W.cell? ⟨g,p+1,none⟩=some (.int .u32 (x.h.toNat:Int))/\W.cell? ⟨g,p+2,none⟩=some (.int .u64 (x.x.toNat:Int))/\W.cell? ⟨g,p+3,none⟩=some (.int .u32 (x.m.toNat:Int)))/\(∀k,W.frozen? ⟨g,k,none⟩=false) /\
 fE bt w0 jb pb bf made base g cap (swp d i i) (((((((((W.setCell ⟨g,p,none⟩ (.int .u32 (x.t.toNat:Int))).setCell ⟨g,p+1,none⟩ (.int .u32 (x.h.toNat:Int))).setCell ⟨g,p+2,none⟩ (.int .u64 (x.x.toNat:Int))).setCell ⟨g,p+3,none⟩ (.int .u32 (x.m.toNat:Int))).setCell ⟨g,p,none⟩ (.int .u32 (x.t.toNat:Int))).setCell ⟨g,p+1,none⟩ (.int .u32 (x.h.toNat:Int))).setCell ⟨g,p+2,none⟩ (.int .u64 (x.x.toNat:Int))).setCell ⟨g,p+3,none⟩ (.int .u32 (x.m.toNat:Int))).drew):=by
 obtain⟨p,q,hex⟩:=h.lA hi hi hx hx;have e:p=q:=by rw[<- hex.hp,<- hex.hq]
 subst e;exact⟨p,hex.hp,⟨hex.p0,hex.p1,hex.p2,hex.p3⟩,hex.fr,hex.done⟩
theorem E3(h:fE bt w0 jb pb bf made base g cap d W)(a b:Nat)(hab:a<b)(hb:b<=d.size)(hsz:d.size<=1000000) :
 Calls prog 306 #[.slice (some ⟨g,0,none⟩) d.size cap,.int .i64 (a:Int),.int .i64 (b:Int),cK jb] W (mZ bt w0 jb pb bf made base g cap (heapSort (ltOf (aQ bt)) d a b)):=by
 obtain⟨n,hn⟩:∃n,b=a+n:=⟨b-a,af⟩;have H:=ae h;clear h;obtain⟨N,hN⟩:∃N,N=d.size:=⟨_,rfl⟩;rw[<- hN]at hb hsz ⊢;have HN:=ae hN;clear hN;have Qf:Hid (∀(W:World)(dk:Array aD),dk.size=N->fE bt w0 jb pb bf made base g cap dk W->∀(lo hi:Nat),lo<=hi->hi<=n->Calls prog 315 #[.slice (some ⟨g,0,none⟩) N cap,.int .i64 (lo:Int),.int .i64 (hi:Int),.int .i64 (a:Int),cK jb] W (mZ bt w0 jb pb bf made base g cap (siftDown (ltOf (aQ bt)) hi a lo dk))):=ae (fun W dk hs h lo hi h1 h2=>by
  rw[<- hs];exact E0 h lo hi a h1 af af)
 have HPL:Hid (heapSort (ltOf (aQ bt)) d a b=heapPop (ltOf (aQ bt)) a n (heapBuild (ltOf (aQ bt)) n a ((n-1)/2+1) d)):=ae (by unfold heapSort;rw[show b-a=n by omega]);have w1:IntKind.i64.wrap ((b:Int)-(a:Int))=(n:Int):=by rw[aw]<;>omega
 have w2:IntKind.i64.wrap ((n:Int)-1)=(n:Int)-1:=aw af af;have w3:IntKind.i64.wrap (((n:Int)-1).tdiv 2)=(((n-1)/2:Nat):Int):=by
  rw[show((n:Int)-1)=((n-1:Nat):Int) by omega,show(((n-1:Nat):Int)).tdiv 2=(((n-1)/2:Nat):Int) from rfl];exact aw af af
 obtain⟨M,hM⟩:∃M,M=(n-1)/2:=⟨_,rfl⟩;have hMn:M<=n:=by omega
 rw[<- hM]at w3;have HM:=ae hM;clear hM;have hnN:a+n<=N:=by omega
 have han:(a:Int)<(N:Int):=by omega
 clear hn hab hb;unfold cK ptrTo at *;go_enter func306,ntmps306;go_wp2;go_loopw [11] (fun vi wr=>∃(z:Int)(k:Nat)(dk:Array aD),vi=.int .i64 z/\z=(k:Int)-1/\k<=M+1/\dk.size=N/\fE bt w0 jb pb bf made base g cap dk wr/\Hid (heapBuild (ltOf (aQ bt)) n a k dk=heapBuild (ltOf (aQ bt)) n a (M+1) d)) (fun vi _=>(intOf vi+1).toNat)
 case atStart=>exact⟨(M:Int),M+1,d,rfl,af,Nat.le_refl _,HN.out.symm,H.out,rfl⟩
 case round=>
  obtain⟨z,k,dk,rfl,hz,hk,hsk,hs,HO⟩:=hrel;generalize wr=Wr at *;have HS:=ae hs;have DJ:=ae hsk;clear hs hsk;cases k with
  |succ kp=>
    obtain rfl:z=(kp:Int):=by omega
    have hz0:¬(kp:Int)<0:=by omega
    have w4:IntKind.i64.wrap ((kp:Int)-1)=(kp:Int)-1:=aw af af;have hc:=ae (Qf.out Wr dk DJ.out HS.out kp n af (Nat.le_refl _));clear hz;go_wp2_with fail;refine hc.out.mono ?_;rintro e w5⟨rfl,hs5⟩;have b7:=ae hs5;clear hs5 hc;go_wp2;refine⟨⟨(kp:Int)-1,kp,siftDown (ltOf (aQ bt)) n a kp dk,rfl,rfl,af,by rw[size_siftDown _ n a n kp dk af];exact DJ.out,b7.out,?_⟩,by simp[intOf]⟩;show heapBuild _ _ _ _ _=_;rw[<- HO.out];rfl
  |zero=>
    obtain rfl:z=-1:=by omega
    have HB:Hid (heapBuild (ltOf (aQ bt)) n a (M+1) d=dk):=ae HO.out.symm;clear hz hk HO;go_wp2;go_loopw [12] (fun vi wr=>∃(z:Int)(k:Nat)(dj:Array aD),vi=.int .i64 z/\z=(k:Int)-1/\k<=n/\dj.size=N/\fE bt w0 jb pb bf made base g cap dj wr/\Hid (heapPop (ltOf (aQ bt)) a k dj=heapPop (ltOf (aQ bt)) a n dk)) (fun vi _=>(intOf vi+1).toNat)
    case atStart=>exact⟨(n:Int)-1,n,dk,rfl,rfl,Nat.le_refl _,DJ.out,HS.out,rfl⟩
    case round=>
     obtain⟨z,k,dj,rfl,hz,hk,hsk,hs,HO⟩:=hrel;generalize wr=Wr2 at *;have eP:=ae hs;have BW:=ae hsk;clear hs hsk;cases k with
     |zero=>
       obtain rfl:z=-1:=by omega
       clear hz hk;go_wp2;go_end0
       refine⟨rfl,?_⟩;rw[HPL.out,<- HM.out,HB.out,<- HO.out];exact eP.out
     |succ kp=>
       obtain rfl:z=(kp:Int):=by omega
       have hz0:¬(kp:Int)<0:=by omega
       have w4:IntKind.i64.wrap ((kp:Int)-1)=(kp:Int)-1:=aw af af;obtain⟨x,hx⟩:∃x,dj[a]! = x:=⟨_,rfl⟩;clear hz;cases kp with
       |zero=>
         obtain⟨pp,mH,⟨x0,x1,x2,x3⟩,dQ,hdone⟩:=eP.out.iC (i:=a) (by rw[BW.out];omega) hx;have Ya:=ae hdone;have wQ:IntKind.i64.wrap ((a:Int)+0)=(a:Int):=by rw[aw]<;>omega
         clear hdone;have hc:=ae (Qf.out _ (swp dj a a) (by rw[size_swp];exact BW.out) Ya.out 0 0 (Nat.le_refl _) (Nat.zero_le _));simp only[Int.natCast_zero]at hc Ya;go_wp2_with fail;go_big_region
         all_goals
          clear x0 x1 x2 x3 dQ;go_wp2_with fail;refine hc.out.mono ?_;rintro e w5⟨rfl,hs5⟩;have b7:=ae hs5;clear hs5 hc;go_wp2;refine⟨⟨-1,0,siftDown (ltOf (aQ bt)) 0 a 0 (swp dj a a),rfl,rfl,Nat.zero_le _,by rw[size_siftDown _ 0 a 0 0 _ af,size_swp];exact BW.out,b7.out,?_⟩,by simp[intOf]⟩;show heapPop _ _ _ _=_;rw[<- HO.out];rfl
       |succ kq=>
         obtain⟨Q,hQ⟩:∃Q,Q=a+(kq+1):=⟨_,rfl⟩;have wQ:IntKind.i64.wrap ((a:Int)+((kq:Int)+1))=(Q:Int):=by rw[aw]<;>omega
         have bQ:(Q:Int)<(N:Int):=by omega
         have HQ:Hid (Q<dj.size/\a<dj.size/\a≠Q):=ae (by have:=BW.out;omega);have HQE:=ae hQ;clear hQ;obtain⟨y,hy⟩:∃y,dj[Q]! = y:=⟨_,rfl⟩;obtain⟨pp,qq,hex⟩:=eP.out.lA (i:=a) (j:=Q) HQ.out.2.1 HQ.out.1 hx hy;have pI:=ae hex;obtain⟨mH,EY,x0,x1,x2,x3,y0,y1,y2,y3,dQ,hap,-⟩:=hex;obtain⟨n0,n1,n2,n3,n4,n5,n6⟩:=hap HQ.out.2.2;have hc:=ae (Qf.out _ (swp dj a Q) (by rw[size_swp];exact BW.out) pI.out.done 0 (kq+1) (Nat.zero_le _) af);have hcz:((kq+1:Nat):Int)=(kq:Int)+1:=by omega
         simp only[Int.natCast_zero,hcz]at hc hz0 w4 ⊢;clear hap hcz;go_wp2_with fail;go_big_region
         all_goals
          clear x0 x1 x2 x3 y0 y1 y2 y3 n0 n1 n2 n3 n4 n5 n6 dQ;go_wp2_with fail;refine hc.out.mono ?_;rintro e w5⟨rfl,hs5⟩;have b7:=ae hs5;clear hs5 hc;go_wp2;refine⟨⟨(kq:Int),kq+1,siftDown (ltOf (aQ bt)) (kq+1) a 0 (swp dj a Q),rfl,af,af,by rw[size_siftDown _ (kq+1) a (kq+1) 0 _ af,size_swp];exact BW.out,b7.out,?_⟩,by simp[intOf];omega⟩;show heapPop _ _ _ _=_;rw[<- HO.out,HQE.out];rfl
end
end
section
open Go.RowKit Go.Maps Go.Sort
section
variable {bt:Bool} {w0 W W':World} {jb pb bf made base g cap:Nat} {d:Array aD}
theorem AO{i j:Nat}{d:Array aD}(h:i<j):reverseLoop i j d=reverseLoop (i+1) (j-1) (swp d i j):=by
 conv=>lhs;unfold reverseLoop
 rw[if_pos h]
theorem wX{i j:Nat}{d:Array aD}(h:¬i<j):reverseLoop i j d=d:=by
 unfold reverseLoop;rw[if_neg h]
theorem wY(h:fE bt w0 jb pb bf made base g cap d W)(a b:Nat)(hab:a<b)(hb:b<=d.size)(hsz:d.size<=1000000) :
 Calls prog 309 #[.slice (some ⟨g,0,none⟩) d.size cap,.int .i64 (a:Int),.int .i64 (b:Int),cK jb] W (mZ bt w0 jb pb bf made base g cap (reverseRange d a b)):=by
 have H:=ae h;clear h;obtain⟨N,hN⟩:∃N,N=d.size:=⟨_,rfl⟩;rw[<- hN]at hb hsz ⊢;have HN:=ae hN;clear hN;obtain⟨j0,UX⟩:∃j0,j0=b-1:=⟨_,rfl⟩;have w1:IntKind.i64.wrap ((b:Int)-1)=(j0:Int):=by rw[aw]<;>omega
 have ai4:j0<N:=by omega
 have HJ0:=ae UX;clear UX;unfold cK ptrTo;go_enter func309,ntmps309;go_wp2;go_loopw [8,9] (fun vi vj wr=>∃(i j:Nat)(dk:Array aD),vi=.int .i64 (i:Int)/\vj=.int .i64 (j:Int)/\i<=N/\j<N/\dk.size=N/\fE bt w0 jb pb bf made base g cap dk wr/\Hid (reverseLoop i j dk=reverseLoop a j0 d)) (fun _ vj _=>(intOf vj).toNat)
 case atStart=>exact⟨a,j0,d,rfl,rfl,af,ai4,HN.out.symm,H.out,rfl⟩
 case round=>
  obtain⟨i,j,dk,rfl,rfl,hi,hj,hsk,hs,HO⟩:=hrel;generalize wr=Wr at *;have HS:=ae hs;have DJ:=ae hsk;clear hs hsk;by_cases eY:i<j
  ·obtain⟨j',hj'⟩:∃j',j=j'+1:=⟨j-1,af⟩;have qO:(i:Int)<(j:Int):=by omega
   have wi:IntKind.i64.wrap ((i:Int)+1)=(i:Int)+1:=aw af af;have wj:IntKind.i64.wrap ((j:Int)-1)=(j':Int):=by rw[aw]<;>omega
   have bi:(i:Int)<(N:Int):=by omega
   have bj:(j:Int)<(N:Int):=by omega
   have hjj:j'<j/\i+1<=N:=by omega
   obtain⟨x,hx⟩:∃x,dk[i]! = x:=⟨_,rfl⟩;obtain⟨y,hy⟩:∃y,dk[j]! = y:=⟨_,rfl⟩;obtain⟨pp,qq,hex⟩:=HS.out.lA (i:=i) (j:=j) (by rw[DJ.out];omega) (by rw[DJ.out];omega) hx hy;have pI:=ae hex;obtain⟨mH,EY,x0,x1,x2,x3,y0,y1,y2,y3,dQ,hap,-⟩:=hex;obtain⟨n0,n1,n2,n3,n4,n5,n6⟩:=hap af;have HJ':=ae hj';clear hap hj';go_wp2_with fail;go_big_region
   all_goals
    clear x0 x1 x2 x3 y0 y1 y2 y3 n0 n1 n2 n3 n4 n5 n6 dQ;go_wp2;refine⟨⟨i+1,j',swp dk i j,by go_num,rfl,hjj.2,af,by rw[size_swp];exact DJ.out,pI.out.done,?_⟩,by simp[intOf];omega⟩;show reverseLoop _ _ _=_;rw[<- HO.out,AO eY,show j-1=j' by have:=HJ'.out;omega]
  ·have qO:¬(i:Int)<(j:Int):=by omega
   go_wp2;go_end0
   refine⟨rfl,?_⟩;rw[show reverseRange d a b=dk from by unfold reverseRange;rw[<- HJ0.out,<- HO.out,wX af]];exact HS.out
structure CF(bt:Bool)(w0:World)(jb pb bf made base g cap:Nat)(d:Array aD)(c s:Nat)(W:World):Prop where
 uJ:fE bt w0 jb pb bf made base g cap d W
 box:∃T,W.heap[c]? = some (.cells #[.int .i64 (s:Int)] T (0,0))
 new:w0.heap.size<=c
 ng:c≠g
 nj:c≠jb
 nb:c≠bf
variable {c s:Nat}
theorem CF.below(h:CF bt w0 jb pb bf made base g cap d c s W)(hb:RowKit.Below W.heap.size W W'):CF bt w0 jb pb bf made base g cap d c s W':=by
 obtain⟨T,hT⟩:=h.box;exact⟨h.uJ.below hb,⟨T,by rw[hb.block c (Array.getElem?_eq_some_iff.1 hT).1];exact hT⟩,h.new,h.ng,h.nj,h.nb⟩
theorem CF.cell(h:CF bt w0 jb pb bf made base g cap d c s W):W.cell? ⟨c,0,none⟩=some (.int .i64 (s:Int))/\W.frozen? ⟨c,0,none⟩=false:=by
 obtain⟨T,hT⟩:=h.box;exact⟨by rw[ar hT];rfl,aO hT _⟩
theorem CF.bump(h:CF bt w0 jb pb bf made base g cap d c s W)(t:Nat):CF bt w0 jb pb bf made base g cap d c t (W.setCell ⟨c,0,none⟩ (.int .i64 (t:Int))):=by
 obtain⟨T,hT⟩:=h.box;have ht:aG (·=c) W (W.setCell ⟨c,0,none⟩ (.int .i64 (t:Int))):=aG.setCell (aG.refl _ _) _ _ (.inl rfl);refine⟨⟨ht.ownsRow h.uJ.row (fun b hb e=>?_),h.uJ.EX.kept (ht.block _ h.uJ.EX.lt.1 (fun e=>h.nj e.symm)) (ht.block _ h.uJ.EX.lt.2 (fun e=>h.nb e.symm)),h.uJ.nj,h.uJ.nb,h.uJ.turn.setCell _ _ (.inr h.new)⟩,⟨T,by rw[aT hT];rfl⟩,h.new,h.ng,h.nj,h.nb⟩;have:b=g:=by
  have:=hb;simp[Value.ownBlock]at this;exact this.symm
 exact h.ng (by rw[<- e,this])
def lB(bt:Bool)(w0:World)(jb pb bf made base g cap:Nat)(d:Array aD)(c s:Nat)(v:Value)(e:Ending)(w':World):Prop:=e=.returned v/\CF bt w0 jb pb bf made base g cap d c s w'
theorem KQ(h:CF bt w0 jb pb bf made base g cap d c s W)(a b:Nat)(ha:a<d.size)(hb:b<d.size)(hs:s<=1000) :
 Calls prog 319 #[.slice (some ⟨g,0,none⟩) d.size cap,.int .i64 (a:Int),.int .i64 (b:Int),ptrTo c,cK jb] W
  (lB bt w0 jb pb bf made base g cap d c (order2 (ltOf (aQ bt)) d a b s).2.2 (.tuple #[.int .i64 ((order2 (ltOf (aQ bt)) d a b s).1:Int),.int .i64 ((order2 (ltOf (aQ bt)) d a b s).2.1:Int)])):=by
 have H:=ae h;have ba:(a:Int)<(d.size:Int):=by omega
 have bb:(b:Int)<(d.size:Int):=by omega
 have ws:IntKind.i64.wrap ((s:Int)+1)=((s+1:Nat):Int):=by rw[aw]<;>omega
 obtain⟨x,hx⟩:∃x,d[b]! = x:=⟨_,rfl⟩;obtain⟨y,hy⟩:∃y,d[a]! = y:=⟨_,rfl⟩;have F:=ae (h.uJ.reads (i:=b) (j:=a) hb ha hx hy);unfold order2;rw[hx,hy];clear h ha hb;unfold cK ptrTo;by_cases hl:aQ bt x y<0
 ·rw[if_pos (show ltOf (aQ bt) x y=true from decide_eq_true hl)];generalize d.size=N at *;go_enter func319,ntmps319;go_wp2_with fail;refine wq W ?_;iterate 4 (refine qz ?_)
  refine qz ?_ (fun w' hw'=>by obtain⟨⟨c0,c1,c2,c3⟩,-,-⟩:=F.out w' hw';go_simp<;>rfl);iterate 3 (refine qz ?_)
  refine qz ?_ (fun w' hw'=>by obtain⟨-,⟨c0,c1,c2,c3⟩,-⟩:=F.out w' hw';go_simp<;>rfl);refine qw (fun w' hw'=>(F.out w' hw').2.2) ?_;iterate 1 (refine qz ?_)
  refine wpQuiet_nil ?_;intro w3 hw3;have H3:=ae (H.out.below hw3);clear hw3;have RX:=ae (H3.out.bump (s+1));obtain⟨hc,hf⟩:=H3.out.cell;go_wp2;go_ret2;exact⟨rfl,RX.out⟩
 ·rw[if_neg (show ¬ltOf (aQ bt) x y=true from fun e=>hl (of_decide_eq_true e))];generalize d.size=N at *;go_enter func319,ntmps319;go_wp2_with fail;refine wq W ?_;iterate 4 (refine qz ?_)
  refine qz ?_ (fun w' hw'=>by obtain⟨⟨c0,c1,c2,c3⟩,-,-⟩:=F.out w' hw';go_simp<;>rfl);iterate 3 (refine qz ?_)
  refine qz ?_ (fun w' hw'=>by obtain⟨-,⟨c0,c1,c2,c3⟩,-⟩:=F.out w' hw';go_simp<;>rfl);refine qw (fun w' hw'=>(F.out w' hw').2.2) ?_;iterate 1 (refine qz ?_)
  refine wpQuiet_nil ?_;intro w3 hw3;have H3:=ae (H.out.below hw3);clear hw3;go_wp2;go_ret2;exact⟨rfl,H3.out⟩
end
end
section
open Go.RowKit Go.Maps Go.Sort
section
variable {bt:Bool} {w0 W W':World} {jb pb bf made base g cap c s:Nat} {d:Array aD}
theorem oP(lt:aD->aD->Bool)(d:Array aD){a b s N:Nat}(ha:a<N)(hb:b<N):(order2 lt d a b s).1<N/\(order2 lt d a b s).2.1<N/\(order2 lt d a b s).2.2<=s+1:=by
 unfold order2;split<;>exact⟨by assumption,by assumption,ai⟩
theorem OA(lt:aD->aD->Bool)(d:Array aD){a b c s N:Nat}(ha:a<N)(hb:b<N)(hc:c<N):(median lt d a b c s).1<N/\(median lt d a b c s).2<=s+3:=by
 unfold median;obtain⟨h1,h2,h3⟩:=oP lt d (s:=s) ha hb;obtain⟨k1,k2,k3⟩:=oP lt d (s:=(order2 lt d a b s).2.2) h2 hc;obtain⟨q1,q2,q3⟩:=oP lt d (s:=(order2 lt d (order2 lt d a b s).2.1 c (order2 lt d a b s).2.2).2.2) h1 k1;exact⟨q2,Nat.le_trans q3 af⟩
theorem s8(h:CF bt w0 jb pb bf made base g cap d c s W)(a b k:Nat)(ha:a<d.size)(hb:b<d.size)(hk:k<d.size)(hs:s<=900) :
 Calls prog 317 #[.slice (some ⟨g,0,none⟩) d.size cap,.int .i64 (a:Int),.int .i64 (b:Int),.int .i64 (k:Int),ptrTo c,cK jb] W
  (lB bt w0 jb pb bf made base g cap d c (median (ltOf (aQ bt)) d a b k s).2 (.int .i64 ((median (ltOf (aQ bt)) d a b k s).1:Int))):=by
 have HO:Hid (∀W a b s,CF bt w0 jb pb bf made base g cap d c s W->a<d.size->b<d.size->s<=1000->Calls prog 319 #[.slice (some ⟨g,0,none⟩) d.size cap,.int .i64 (a:Int),.int .i64 (b:Int),ptrTo c,cK jb] W
  (lB bt w0 jb pb bf made base g cap d c (order2 (ltOf (aQ bt)) d a b s).2.2 (.tuple #[.int .i64 ((order2 (ltOf (aQ bt)) d a b s).1:Int),.int .i64 ((order2 (ltOf (aQ bt)) d a b s).2.1:Int)]))):=ae (fun W a b s h ha hb hs=>KQ h a b ha hb hs)
 have H:=ae h;unfold median;obtain⟨p1,p2,p3⟩:=oP (ltOf (aQ bt)) d (s:=s) ha hb;have hc1:=ae (HO.out W a b s h ha hb af);generalize order2 (ltOf (aQ bt)) d a b s=r1 at *;obtain⟨x1,y1,s1⟩:=r1;dsimp only at *;obtain⟨q1,q2,q3⟩:=oP (ltOf (aQ bt)) d (s:=s1) p2 hk;have hc2:Hid (∀W,CF bt w0 jb pb bf made base g cap d c s1 W->_):=ae (fun W h=>HO.out W y1 k s1 h p2 hk af);generalize order2 (ltOf (aQ bt)) d y1 k s1=r2 at *;obtain⟨x2,y2,s2⟩:=r2;dsimp only at *;have hc3:Hid (∀W,CF bt w0 jb pb bf made base g cap d c s2 W->_):=ae (fun W h=>HO.out W x1 x2 s2 h p1 q1 af);generalize order2 (ltOf (aQ bt)) d x1 x2 s2=r3 at *;obtain⟨x3,y3,s3⟩:=r3;dsimp only at *;clear h HO p1 p2 p3 q1 q2 q3 ha hb hk hs;unfold cK ptrTo at *;generalize d.size=N at *;go_enter func317,ntmps317;go_wp2_with fail;refine hc1.out.mono ?_;rintro e w1⟨rfl,h1⟩;have KR:=ae (hc2.out w1 h1);clear h1 hc1 hc2;go_wp2_with fail;refine KR.out.mono ?_;rintro e w2⟨rfl,h2⟩;have KG:=ae (hc3.out w2 h2);clear h2 KR hc3;go_wp2_with fail;refine KG.out.mono ?_;rintro e w3⟨rfl,h3⟩;have H3:=ae h3;clear h3 KG;go_wp2;go_ret;exact⟨rfl,H3.out⟩
theorem iQ(h:CF bt w0 jb pb bf made base g cap d c s W)(a:Nat)(h0:1<=a)(ha:a+1<d.size)(hsz:d.size<=1000000)(hs:s<=900) :
 Calls prog 316 #[.slice (some ⟨g,0,none⟩) d.size cap,.int .i64 (a:Int),ptrTo c,cK jb] W
  (lB bt w0 jb pb bf made base g cap d c (medianAdjacent (ltOf (aQ bt)) d a s).2 (.int .i64 ((medianAdjacent (ltOf (aQ bt)) d a s).1:Int))):=by
 have hm:=ae (s8 h (a-1) a (a+1) af af ha hs);have w1:IntKind.i64.wrap ((a:Int)-1)=((a-1:Nat):Int):=by rw[aw]<;>omega
 have w2:IntKind.i64.wrap ((a:Int)+1)=((a+1:Nat):Int):=by rw[aw]<;>omega
 unfold medianAdjacent;clear h h0 ha;unfold cK ptrTo at *;generalize median (ltOf (aQ bt)) d (a-1) a (a+1) s=r at *;generalize a-1=A0 at *;generalize a+1=A1 at *;generalize d.size=N at *;go_enter func316,ntmps316;go_wp2_with fail;refine hm.out.mono ?_;rintro e w1⟨rfl,h1⟩;have H1:=ae h1;clear h1 hm;go_wp2;go_ret;exact⟨rfl,H1.out⟩
end
end
section
open Go.RowKit Go.Maps Go.Sort
section
variable {bt:Bool} {w0 W W':World} {jb pb bf made base g cap c s:Nat} {d:Array aD}
def nh:Hint->Nat
 | .unknown=>0
 | .increasing=>1
 | .decreasing=>2
theorem fE.count(h:fE bt w0 jb pb bf made base g cap d W)(T:TypeId):CF bt w0 jb pb bf made base g cap d W.heap.size 0 (W.alloc (.cells #[.int .i64 0] T)):=by
 have hg:g<W.heap.size:=by
  obtain⟨_,⟨h0,_⟩|⟨g',cap',cur,hv,_,hh,_⟩⟩:=h.row
  ·cases h0
  ·cases hv;exact(Array.getElem?_eq_some_iff.1 hh).1
 have:=h.EX.lt;exact⟨h.below aj,⟨T,heap_alloc_new W _⟩,h.turn.size,af,af,af⟩
def VP(bt:Bool)(w0:World)(jb pb bf made base g cap:Nat)(d:Array aD)(r:Nat×Hint)(e:Ending)(w':World):Prop:=
 e=.returned (.tuple #[.int .i64 (r.1:Int),.int .i64 (nh r.2:Int)])/\fE bt w0 jb pb bf made base g cap d w'
theorem KS{lt:aD->aD->Bool}{d:Array aD}{a b I J K:Nat}{m:Nat×Nat}(h8:8<=b-a)(h50:¬50<=b-a)(hI:I=a+(b-a)/4*1)(hJ:J=a+(b-a)/4*2)(hK:K=a+(b-a)/4*3)(hm:median lt d I J K 0=m) :
 choosePivot lt d a b=(m.1,if m.2=0 then .increasing else if m.2=12 then .decreasing else .unknown):=by
 subst hI hJ hK hm;unfold choosePivot;simp only[ge_iff_le,h8,h50,if_true,if_false]
theorem KT{lt:aD->aD->Bool}{d:Array aD}{a b I J K:Nat}{ri rj rk m:Nat×Nat}(h50:50<=b-a)(hI:I=a+(b-a)/4*1)(hJ:J=a+(b-a)/4*2)(hK:K=a+(b-a)/4*3)(h1:medianAdjacent lt d I 0=ri)(h2:medianAdjacent lt d J ri.2=rj)(h3:medianAdjacent lt d K rj.2=rk)(hm:median lt d ri.1 rj.1 rk.1 rk.2=m) :
 choosePivot lt d a b=(m.1,if m.2=0 then .increasing else if m.2=12 then .decreasing else .unknown):=by
 subst hI hJ hK h1 h2 h3 hm;have h8:8<=b-a:=by omega
 unfold choosePivot;simp only[ge_iff_le,h8,h50,if_true]
theorem KU(lt:aD->aD->Bool)(d:Array aD){a s N:Nat}(ha:a+1<N):(medianAdjacent lt d a s).1<N/\(medianAdjacent lt d a s).2<=s+3:=
 OA lt d af af ha
theorem y4(h:fE bt w0 jb pb bf made base g cap d W)(a b:Nat)(hl:12<b-a)(hb:b<=d.size)(hsz:d.size<=1000000) :
 Calls prog 308 #[.slice (some ⟨g,0,none⟩) d.size cap,.int .i64 (a:Int),.int .i64 (b:Int),cK jb] W (VP bt w0 jb pb bf made base g cap d (choosePivot (ltOf (aQ bt)) d a b)):=by
 have VC:=ae (h.count 3);obtain⟨L,hL⟩:∃L,L=b-a:=⟨_,rfl⟩;obtain⟨Q,hQ⟩:∃Q,Q=(b-a)/4:=⟨_,rfl⟩;obtain⟨Q2,VQ⟩:∃Q2,Q2=Q*2:=⟨_,rfl⟩;obtain⟨Q3,hQ3⟩:∃Q3,Q3=Q*3:=⟨_,rfl⟩;obtain⟨I,hI⟩:∃I,I=a+Q:=⟨_,rfl⟩;obtain⟨J,hJ⟩:∃J,J=a+Q2:=⟨_,rfl⟩;obtain⟨K,hK⟩:∃K,K=a+Q3:=⟨_,rfl⟩;have wL:IntKind.i64.wrap ((b:Int)-(a:Int))=(L:Int):=by rw[aw]<;>omega
 have wQ:IntKind.i64.wrap ((L:Int)/4)=(Q:Int):=by rw[aw]<;>omega
 have wQ1:IntKind.i64.wrap (Q:Int)=(Q:Int):=aw af af;have wQ2:IntKind.i64.wrap ((Q:Int)*2)=(Q2:Int):=by rw[aw]<;>omega
 have wQ3:IntKind.i64.wrap ((Q:Int)*3)=(Q3:Int):=by rw[aw]<;>omega
 have wI:IntKind.i64.wrap ((a:Int)+(Q:Int))=(I:Int):=by rw[aw]<;>omega
 have wJ:IntKind.i64.wrap ((a:Int)+(Q2:Int))=(J:Int):=by rw[aw]<;>omega
 have wK:IntKind.i64.wrap ((a:Int)+(Q3:Int))=(K:Int):=by rw[aw]<;>omega
 have l8:¬(L:Int)<8:=by omega
 have pw:Hid (I+1<d.size/\J+1<d.size/\K+1<d.size/\1<=I/\1<=J/\1<=K):=ae af;have hI':I=a+(b-a)/4*1:=by omega
 have hJ':J=a+(b-a)/4*2:=by omega
 have hK':K=a+(b-a)/4*3:=by omega
 by_cases h50:50<=b-a
 ·have l50:¬(L:Int)<50:=by omega
  obtain⟨ri,h1⟩:∃r,medianAdjacent (ltOf (aQ bt)) d I 0=r:=⟨_,rfl⟩;obtain⟨rj,h2⟩:∃r,medianAdjacent (ltOf (aQ bt)) d J ri.2=r:=⟨_,rfl⟩;obtain⟨rk,h3⟩:∃r,medianAdjacent (ltOf (aQ bt)) d K rj.2=r:=⟨_,rfl⟩;obtain⟨m,hm⟩:∃r,median (ltOf (aQ bt)) d ri.1 rj.1 rk.1 rk.2=r:=⟨_,rfl⟩;have HT:=ae (KT h50 hI' hJ' hK' h1 h2 h3 hm);have bi:=KU (ltOf (aQ bt)) d (s:=0) pw.out.1;rw[h1]at bi;have bj:=KU (ltOf (aQ bt)) d (s:=ri.2) pw.out.2.1;rw[h2]at bj;have bk:=KU (ltOf (aQ bt)) d (s:=rj.2) pw.out.2.2.1;rw[h3]at bk;have C1:Hid (∀W',CF bt w0 jb pb bf made base g cap d W.heap.size 0 W'->Calls prog 316 #[.slice (some ⟨g,0,none⟩) d.size cap,.int .i64 (I:Int),ptrTo W.heap.size,cK jb] W' (lB bt w0 jb pb bf made base g cap d W.heap.size ri.2 (.int .i64 (ri.1:Int)))):=ae (fun W' h=>by
   have:=iQ h I pw.out.2.2.2.1 pw.out.1 hsz af;rwa [h1]at this)
  have C2:Hid (∀W',CF bt w0 jb pb bf made base g cap d W.heap.size ri.2 W'->Calls prog 316 #[.slice (some ⟨g,0,none⟩) d.size cap,.int .i64 (J:Int),ptrTo W.heap.size,cK jb] W' (lB bt w0 jb pb bf made base g cap d W.heap.size rj.2 (.int .i64 (rj.1:Int)))):=ae (fun W' h=>by
   have:=iQ h J pw.out.2.2.2.2.1 pw.out.2.1 hsz af;rwa [h2]at this)
  have C3:Hid (∀W',CF bt w0 jb pb bf made base g cap d W.heap.size rj.2 W'->Calls prog 316 #[.slice (some ⟨g,0,none⟩) d.size cap,.int .i64 (K:Int),ptrTo W.heap.size,cK jb] W' (lB bt w0 jb pb bf made base g cap d W.heap.size rk.2 (.int .i64 (rk.1:Int)))):=ae (fun W' h=>by
   have:=iQ h K pw.out.2.2.2.2.2 pw.out.2.2.1 hsz af;rwa [h3]at this)
  have C4:Hid (∀W',CF bt w0 jb pb bf made base g cap d W.heap.size rk.2 W'->Calls prog 317 #[.slice (some ⟨g,0,none⟩) d.size cap,.int .i64 (ri.1:Int),.int .i64 (rj.1:Int),.int .i64 (rk.1:Int),ptrTo W.heap.size,cK jb] W' (lB bt w0 jb pb bf made base g cap d W.heap.size m.2 (.int .i64 (m.1:Int)))):=ae (fun W' h=>by
   have:=s8 h ri.1 rj.1 rk.1 bi.1 bj.1 bk.1 af;rwa [hm]at this)
  clear h hL hQ VQ hQ3 hI hJ hK hI' hJ' hK' h1 h2 h3 hm bi bj bk hl hb hsz;unfold cK ptrTo at *;generalize d.size=N at *;generalize choosePivot (ltOf (aQ bt)) d a b=r at HT ⊢;obtain⟨mi,ms⟩:=m;obtain⟨ri1,ri2⟩:=ri;obtain⟨rj1,rj2⟩:=rj;obtain⟨rk1,rk2⟩:=rk;dsimp only at *;go_enter func308,ntmps308;go_wp2_with fail;refine(C1.out _ VC.out).mono ?_;rintro e w1⟨rfl,h1⟩;have hc:=ae (C2.out w1 h1);clear h1 C1 C2 VC;go_wp2_with fail;refine hc.out.mono ?_;rintro e w2⟨rfl,h2⟩;have hc2:=ae (C3.out w2 h2);clear h2 hc C3;go_wp2_with fail;refine hc2.out.mono ?_;rintro e w3⟨rfl,h3⟩;have hc3:=ae (C4.out w3 h3);clear h3 hc2 C4;go_wp2_with fail;refine hc3.out.mono ?_;rintro e w4⟨rfl,h4⟩;have H4:=ae h4;obtain⟨hcell,-⟩:=h4.cell;clear h4 hc3;by_cases m0:ms=0
  ·subst m0;simp only[Int.natCast_zero]at hcell;go_wp2;go_ret2;rw[HT.out];exact⟨rfl,H4.out.uJ⟩
  ·by_cases m12:ms=12
   ·subst m12;have RY:w4.cell? ⟨W.heap.size,0,none⟩=some (.int .i64 12):=hcell;clear hcell;go_wp2;go_ret2;rw[HT.out,if_neg ag,if_pos (by trivial)];exact⟨rfl,H4.out.uJ⟩
   ·have z0:¬(ms:Int)=0:=by omega
    have z12:¬(ms:Int)=12:=by omega
    have z0b:((ms:Int) == 0)=false:=beq_false_of_ne z0;have ad9:((ms:Int) == 12)=false:=beq_false_of_ne z12;go_wp2;go_ret2;rw[HT.out,if_neg m0,if_neg m12];exact⟨rfl,H4.out.uJ⟩
 ·have l50:(L:Int)<50:=by omega
  obtain⟨m,hm⟩:∃r,median (ltOf (aQ bt)) d I J K 0=r:=⟨_,rfl⟩;have HT:=ae (KS af h50 hI' hJ' hK' hm);have C4:Hid (∀W',CF bt w0 jb pb bf made base g cap d W.heap.size 0 W'->Calls prog 317 #[.slice (some ⟨g,0,none⟩) d.size cap,.int .i64 (I:Int),.int .i64 (J:Int),.int .i64 (K:Int),ptrTo W.heap.size,cK jb] W' (lB bt w0 jb pb bf made base g cap d W.heap.size m.2 (.int .i64 (m.1:Int)))):=ae (fun W' h=>by
   have:=s8 h I J K (by have:=pw.out;omega) (by have:=pw.out;omega) (by have:=pw.out;omega) af;rwa [hm]at this)
  clear h hL hQ VQ hQ3 hI hJ hK hI' hJ' hK' hm hl hb hsz;unfold cK ptrTo at *;generalize d.size=N at *;generalize choosePivot (ltOf (aQ bt)) d a b=r at HT ⊢;obtain⟨mi,ms⟩:=m;dsimp only at *;go_enter func308,ntmps308;go_wp2_with fail;refine(C4.out _ VC.out).mono ?_;rintro e w4⟨rfl,h4⟩;have H4:=ae h4;obtain⟨hcell,-⟩:=h4.cell;clear h4 C4 VC;by_cases m0:ms=0
  ·subst m0;simp only[Int.natCast_zero]at hcell;go_wp2;go_ret2;rw[HT.out];exact⟨rfl,H4.out.uJ⟩
  ·by_cases m12:ms=12
   ·subst m12;have RY:w4.cell? ⟨W.heap.size,0,none⟩=some (.int .i64 12):=hcell;clear hcell;go_wp2;go_ret2;rw[HT.out,if_neg ag,if_pos (by trivial)];exact⟨rfl,H4.out.uJ⟩
   ·have z0:¬(ms:Int)=0:=by omega
    have z12:¬(ms:Int)=12:=by omega
    have z0b:((ms:Int) == 0)=false:=beq_false_of_ne z0;have ad9:((ms:Int) == 12)=false:=beq_false_of_ne z12;go_wp2;go_ret2;rw[HT.out,if_neg m0,if_neg m12];exact⟨rfl,H4.out.uJ⟩
end
end
section
open Go.RowKit Go.Maps Go.Sort
section
variable {bt:Bool} {w0 W W':World} {jb pb bf made base g cap c:Nat} {d:Array aD}
structure Nb(bt:Bool)(w0:World)(jb pb bf made base g cap:Nat)(d:Array aD)(c:Nat)(v:Value)(W:World):Prop where
 uJ:fE bt w0 jb pb bf made base g cap d W
 box:∃T,W.heap[c]? = some (.cells #[v] T (0,0))
 new:w0.heap.size<=c
 ng:c≠g
 nj:c≠jb
 nb:c≠bf
theorem Nb.cell{v:Value}(h:Nb bt w0 jb pb bf made base g cap d c v W):W.cell? ⟨c,0,none⟩=some v/\W.frozen? ⟨c,0,none⟩=false:=by
 obtain⟨T,hT⟩:=h.box;exact⟨by rw[ar hT];rfl,aO hT _⟩
theorem Nb.below{v:Value}(h:Nb bt w0 jb pb bf made base g cap d c v W)(hb:RowKit.Below W.heap.size W W'):Nb bt w0 jb pb bf made base g cap d c v W':=by
 obtain⟨T,hT⟩:=h.box;exact⟨h.uJ.below hb,⟨T,by rw[hb.block c (Array.getElem?_eq_some_iff.1 hT).1];exact hT⟩,h.new,h.ng,h.nj,h.nb⟩
theorem Nb.put{v:Value}(h:Nb bt w0 jb pb bf made base g cap d c v W)(u:Value):Nb bt w0 jb pb bf made base g cap d c u (W.setCell ⟨c,0,none⟩ u):=by
 obtain⟨T,hT⟩:=h.box;have ht:aG (·=c) W (W.setCell ⟨c,0,none⟩ u):=aG.setCell (aG.refl _ _) _ _ (.inl rfl);refine⟨⟨ht.ownsRow h.uJ.row (fun b hb e=>?_),h.uJ.EX.kept (ht.block _ h.uJ.EX.lt.1 (fun e=>h.nj e.symm)) (ht.block _ h.uJ.EX.lt.2 (fun e=>h.nb e.symm)),h.uJ.nj,h.uJ.nb,h.uJ.turn.setCell _ _ (.inr h.new)⟩,⟨T,by rw[aT hT];rfl⟩,h.new,h.ng,h.nj,h.nb⟩;have:b=g:=by
  have:=hb;simp[Value.ownBlock]at this;exact this.symm
 exact h.ng (by rw[<- e,this])
theorem Nb.swapped{v:Value}(h:Nb bt w0 jb pb bf made base g cap d c v W){d':Array aD}{p q:Nat}{v0 v1 v2 v3 u0 u1 u2 u3:Value}(hs:fE bt w0 jb pb bf made base g cap d' (((((((((W.setCell ⟨g,p,none⟩ v0).setCell ⟨g,p+1,none⟩ v1).setCell ⟨g,p+2,none⟩ v2).setCell ⟨g,p+3,none⟩ v3).setCell ⟨g,q,none⟩ u0).setCell ⟨g,q+1,none⟩ u1).setCell ⟨g,q+2,none⟩ u2).setCell ⟨g,q+3,none⟩ u3).drew)) :
 Nb bt w0 jb pb bf made base g cap d' c v (((((((((W.setCell ⟨g,p,none⟩ v0).setCell ⟨g,p+1,none⟩ v1).setCell ⟨g,p+2,none⟩ v2).setCell ⟨g,p+3,none⟩ v3).setCell ⟨g,q,none⟩ u0).setCell ⟨g,q+1,none⟩ u1).setCell ⟨g,q+2,none⟩ u2).setCell ⟨g,q+3,none⟩ u3).drew):=by
 obtain⟨T,hT⟩:=h.box;have ht:aG (·=g) W (((((((((W.setCell ⟨g,p,none⟩ v0).setCell ⟨g,p+1,none⟩ v1).setCell ⟨g,p+2,none⟩ v2).setCell ⟨g,p+3,none⟩ v3).setCell ⟨g,q,none⟩ u0).setCell ⟨g,q+1,none⟩ u1).setCell ⟨g,q+2,none⟩ u2).setCell ⟨g,q+3,none⟩ u3).drew):=
  ((((((((((aG.refl (·=g) W).setCell _ _ (.inl rfl)).setCell _ _ (.inl rfl)).setCell _ _ (.inl rfl)).setCell _ _ (.inl rfl)).setCell _ _ (.inl rfl)).setCell _ _ (.inl rfl)).setCell _ _ (.inl rfl)).setCell _ _ (.inl rfl))).drew
 exact⟨hs,⟨T,ht.heap hT h.ng⟩,h.new,h.ng,h.nj,h.nb⟩
theorem uK(h:fE bt w0 jb pb bf made base g cap d W)(a b:Nat)(hl:12<b-a)(hb:b<=d.size)(hsz:d.size<=1000000) :
 Calls prog 307 #[.slice (some ⟨g,0,none⟩) d.size cap,.int .i64 (a:Int),.int .i64 (b:Int),cK jb] W (mZ bt w0 jb pb bf made base g cap (breakPatterns d a b)):=by
 have hgl:g<W.heap.size:=by
  obtain⟨_,⟨h0,_⟩|⟨g',cap',cur,hv,_,hh,_⟩⟩:=h.row
  ·cases h0
  ·cases hv;exact(Array.getElem?_eq_some_iff.1 hh).1
 have lQ:=h.EX.lt;obtain⟨L,hL⟩:∃L,L=b-a:=⟨_,rfl⟩;obtain rfl:b=a+L:=by omega
 have hL8:8<=L:=by omega
 rw[breakPatterns_eq d a L hL8];obtain⟨M,hM⟩:∃M:Nat,M=1 <<< bitsLen L:=⟨_,rfl⟩;have OB:1<=M:=by rw[hM,Nat.one_shiftLeft];exact Nat.two_pow_pos _
 have Qi:M<=2*L:=by rw[hM,Nat.one_shiftLeft];exact two_pow_bitsLen_le af
 have HNP:Hid (∀W',Calls prog 192 #[.int .i64 (L:Int)] W' fun e w'=>e=.returned (.int .u64 (M:Int))/\w'=W'):=ae (fun W'=>by
  rw[hM];exact AnyF.nextPowerOfTwo (P:=prog) (ρ:=Tryz.eI) { Tryz.jY with } L af W')
 have RZ:Hid (∀(W':World)(rb X:Nat),X<18446744073709551616->W'.cell? ⟨rb,0,none⟩=some (.int .u64 (X:Int))->W'.frozen? ⟨rb,0,none⟩=false->Calls prog 193 #[.pointer (some ⟨rb,0,none⟩)] W' fun e w'=>e=.returned (.int .u64 (xorNextN X:Nat))/\w'=(W'.setCell ⟨rb,0,none⟩ (.int .u64 (xorNextN X:Nat))).drewN 3):=ae (fun W' rb X hX hc hf=>
  AnyF.xorshift_Next (P:=prog) (ρ:=Tryz.eI) { Tryz.jY with } rb 0 X hX W' hc hf)
 rw[<- hM];obtain⟨N,hN⟩:∃N,N=d.size:=⟨_,rfl⟩;rw[<- hN]at hb hsz ⊢;have HN:=ae hN;obtain⟨Q,hQ⟩:∃Q,Q=L/4:=⟨_,rfl⟩;obtain⟨Q2,VQ⟩:∃Q2,Q2=Q*2:=⟨_,rfl⟩;obtain⟨A2,hA2⟩:∃A2,A2=a+Q2:=⟨_,rfl⟩;obtain⟨E,hE⟩:∃E,E=A2+1:=⟨_,rfl⟩;obtain⟨B,hB⟩:∃B,B=A2-1:=⟨_,rfl⟩;obtain⟨BN,hBN⟩:∃BN,BN=a+L:=⟨_,rfl⟩;have wL:IntKind.i64.wrap ((BN:Int)-(a:Int))=(L:Int):=by rw[aw]<;>omega
 have ai6:IntKind.u64.wrap (L:Int)=(L:Int):=fW _ af af;have wQ:IntKind.i64.wrap ((L:Int)/4)=(Q:Int):=by rw[aw]<;>omega
 have wQ2:IntKind.i64.wrap ((Q:Int)*2)=(Q2:Int):=by rw[aw]<;>omega
 have wA2:IntKind.i64.wrap ((a:Int)+(Q2:Int))=(A2:Int):=by rw[aw]<;>omega
 have wE:IntKind.i64.wrap ((A2:Int)+1)=(E:Int):=by rw[aw]<;>omega
 have wB:IntKind.i64.wrap ((A2:Int)-1)=(B:Int):=by rw[aw]<;>omega
 have wM:IntKind.u64.wrap ((M:Int)-1)=(M:Int)-1:=fW _ af af;have l8:¬(L:Int)<8:=by omega
 have HB:Hid (E=B+2/\B+3<=a+L/\a+L<=N/\a<=B/\8<=L/\1<=M/\M<=2*L/\L<=N/\N<=1000000):=ae af;have R1:Hid (a+L/4*2-1=B):=ae af;have H0:Hid (Nb bt w0 jb pb bf made base g cap d W.heap.size (.int .u64 (L:Int)) (W.alloc (.cells #[.int .u64 (L:Int)] 280))):=ae ⟨h.below aj,⟨_,heap_alloc_new W _⟩,h.turn.size,af,af,af⟩;rw[<- hBN];rw[R1.out];clear h hgl lQ hL hM OB Qi hN hQ VQ hA2 hE hB hBN hb hsz hL8 hl;unfold cK ptrTo at *;go_enter func307,ntmps307;go_wp2_with fail;generalize W.heap.size=rb at H0 ⊢;generalize W.alloc (.cells #[.int .u64 (L:Int)] 280)=W1 at H0 ⊢;refine(HNP.out _).mono ?_;rintro e w'⟨rfl,hw'⟩;obtain rfl:=hw';clear HNP;go_wp2;go_loopw [11] (fun vi wr=>∃(i t:Nat)(r:UInt64)(dk:Array aD),vi=.int .i64 (i:Int)/\t<=3/\dk.size=N/\Nb bt w0 jb pb bf made base g cap dk rb (.int .u64 (r.toNat:Int)) wr/\Hid (i=B+t)/\Hid (bpRest a L M B (3-t) t (r,dk)=bpRest a L M B 3 0 (UInt64.ofNat L,d))) (fun vi _=>B+3-(intOf vi).toNat)
 case atStart=>
  refine⟨B,0,UInt64.ofNat L,d,rfl,af,HN.out.symm,?_,ae rfl,rfl⟩;rw[show(UInt64.ofNat L).toNat=L from by rw[UInt64.toNat_ofNat'];have:=HB.out;omega];exact H0.out
 case round=>
  obtain⟨i,t,r,dk,rfl,ht,hsk,hs,hi,HO⟩:=hrel;generalize wr=Wr at *;have HS:=ae hs;have DJ:=ae hsk;clear hs hsk;by_cases yY:t<3
  ·obtain⟨R0,hR0⟩:∃R0:Nat,R0=r.toNat:=⟨_,rfl⟩;have lR:R0<18446744073709551616:=by rw[hR0];exact r.toNat_lt
   obtain⟨R',VR⟩:∃R':Nat,R'=xorNextN R0:=⟨_,rfl⟩;have lR':R'<18446744073709551616:=by rw[VR];exact xorNextN_lt R0 lR
   obtain⟨O,hO⟩:∃O:Nat,O=R' &&& (M-1):=⟨_,rfl⟩;have lO:O<=M-1:=by rw[hO];exact Nat.and_le_right
   have ai7:bits .and .u64 (R':Int) ((M:Int)-1)=(O:Int):=by
    have:=HB.out;rw[show((M:Int)-1)=((M-1:Nat):Int) by omega,bits_and_u64_nat _ _ lR' af,hO]
   have UY:Hid (R'=(xorNext r).toNat/\O=(xorNext r).toNat &&& (M-1)):=ae (by
    have e:R'=(xorNext r).toNat:=by rw[VR,hR0,xorNext_toNat]
    exact⟨e,by rw[hO,e]⟩)
   have x9:=HS.out.cell;rw[<- hR0]at x9;have AP:Hid (Calls prog 193 #[.pointer (some ⟨rb,0,none⟩)] Wr fun e w'=>e=.returned (.int .u64 (R':Int))/\Nb bt w0 jb pb bf made base g cap dk rb (.int .u64 (R':Int)) w'):=ae ((RZ.out Wr rb R0 lR x9.1 x9.2).mono fun e w' ⟨h1,h2⟩=>by
    rw[<- VR]at h1 h2;refine⟨h1,?_⟩;rw[h2];exact(HS.out.put _).below ⟨rfl,rfl,rfl,Nat.le_refl _,fun _ _=>rfl⟩)
   have aed:i<=E/\i<N/\O<=2000000:=by have:=HB.out;have:=hi.out;omega
   have VS:(i:Int)<=(E:Int):=by omega
   have bi:(i:Int)<(N:Int):=by omega
   have wO:IntKind.i64.wrap (O:Int)=(O:Int):=aw af af;have Yb:IntKind.i64.wrap ((i:Int)+1)=((i+1:Nat):Int):=by
    have:=HB.out;rw[aw]<;>omega
   have Qj:=ae lO;have HIE:=ae aed;clear hR0 VR hO lR lR' lO x9 aed;by_cases hLO:L<=O
   ·obtain⟨V,hV⟩:∃V,V=O-L:=⟨_,rfl⟩;obtain⟨P,hP⟩:∃P,P=a+V:=⟨_,rfl⟩;have aac:(O:Int) >= (L:Int):=by omega
    have wV:IntKind.i64.wrap ((O:Int)-(L:Int))=(V:Int):=by
     have:=HB.out;have:=Qj.out;have:=HIE.out
     rw[aw]<;>omega
    have wP:IntKind.i64.wrap ((a:Int)+(V:Int))=(P:Int):=by
     have:=HB.out;have:=Qj.out;have:=HIE.out
     rw[aw]<;>omega
    have hPN:P<N:=by have:=HB.out;have:=Qj.out;omega
    have bP:(P:Int)<(N:Int):=by omega
    have HBP:Hid (bpRest a L M B (3-(t+1)) (t+1) (xorNext r,swp dk i P)=bpRest a L M B 3 0 (UInt64.ofNat L,d)):=ae (by
     rw[<- HO.out,bp_step a L M B t r dk V yY (by rw[<- UY.out.2,if_pos hLO,hV]),hi.out,hP])
    clear hV hP;have UZ:Hid (i<dk.size/\P<dk.size):=ae (by rw[DJ.out];have:=HIE.out;omega);go_wp2_with fail;refine AP.out.mono ?_;rintro e w2⟨rfl,hb2⟩;have cY:=ae hb2;clear hb2 AP;obtain⟨x,hx⟩:∃x,dk[i]! = x:=⟨_,rfl⟩;by_cases hiP:i=P
    ·subst hiP;obtain⟨pp,mH,⟨x0,x1,x2,x3⟩,dQ,hdone⟩:=cY.out.uJ.iC (i:=i) UZ.out.1 hx;have HD:=ae (cY.out.swapped hdone);clear hdone;go_wp2_with fail;go_big_region
     all_goals
      clear x0 x1 x2 x3 dQ;go_wp2;refine⟨⟨i+1,t+1,xorNext r,swp dk i i,rfl,af,by rw[size_swp];exact DJ.out,by rw[<- UY.out.1];exact HD.out,ae (by have:=hi.out;omega),HBP.out⟩,?_⟩;have:=HB.out;have:=hi.out;simp[intOf];omega
    ·obtain⟨y,hy⟩:∃y,dk[P]! = y:=⟨_,rfl⟩;obtain⟨pp,qq,hex⟩:=cY.out.uJ.lA (i:=i) (j:=P) UZ.out.1 UZ.out.2 hx hy;have pI:=ae hex;have HD:=ae (cY.out.swapped hex.done);obtain⟨mH,EY,x0,x1,x2,x3,y0,y1,y2,y3,dQ,hap,-⟩:=hex;obtain⟨n0,n1,n2,n3,n4,n5,n6⟩:=hap hiP;clear hap;go_wp2_with fail;go_big_region
     all_goals
      clear x0 x1 x2 x3 y0 y1 y2 y3 n0 n1 n2 n3 n4 n5 n6 dQ;go_wp2;refine⟨⟨i+1,t+1,xorNext r,swp dk i P,rfl,af,by rw[size_swp];exact DJ.out,by rw[<- UY.out.1];exact HD.out,ae (by have:=hi.out;omega),HBP.out⟩,?_⟩;have:=HB.out;have:=hi.out;simp[intOf];omega
   ·obtain⟨P,hP⟩:∃P,P=a+O:=⟨_,rfl⟩;have aac:¬(O:Int) >= (L:Int):=by omega
    have wP:IntKind.i64.wrap ((a:Int)+(O:Int))=(P:Int):=by
     have:=HB.out;have:=Qj.out;have:=HIE.out
     rw[aw]<;>omega
    have hPN:P<N:=by have:=HB.out;omega
    have bP:(P:Int)<(N:Int):=by omega
    have HBP:Hid (bpRest a L M B (3-(t+1)) (t+1) (xorNext r,swp dk i P)=bpRest a L M B 3 0 (UInt64.ofNat L,d)):=ae (by
     rw[<- HO.out,bp_step a L M B t r dk O yY (by rw[<- UY.out.2,if_neg af]),hi.out,hP])
    clear hP;have UZ:Hid (i<dk.size/\P<dk.size):=ae (by rw[DJ.out];have:=HIE.out;omega);go_wp2_with fail;refine AP.out.mono ?_;rintro e w2⟨rfl,hb2⟩;have cY:=ae hb2;clear hb2 AP;obtain⟨x,hx⟩:∃x,dk[i]! = x:=⟨_,rfl⟩;by_cases hiP:i=P
    ·subst hiP;obtain⟨pp,mH,⟨x0,x1,x2,x3⟩,dQ,hdone⟩:=cY.out.uJ.iC (i:=i) UZ.out.1 hx;have HD:=ae (cY.out.swapped hdone);clear hdone;go_wp2_with fail;go_big_region
     all_goals
      clear x0 x1 x2 x3 dQ;go_wp2;refine⟨⟨i+1,t+1,xorNext r,swp dk i i,rfl,af,by rw[size_swp];exact DJ.out,by rw[<- UY.out.1];exact HD.out,ae (by have:=hi.out;omega),HBP.out⟩,?_⟩;have:=HB.out;have:=hi.out;simp[intOf];omega
    ·obtain⟨y,hy⟩:∃y,dk[P]! = y:=⟨_,rfl⟩;obtain⟨pp,qq,hex⟩:=cY.out.uJ.lA (i:=i) (j:=P) UZ.out.1 UZ.out.2 hx hy;have pI:=ae hex;have HD:=ae (cY.out.swapped hex.done);obtain⟨mH,EY,x0,x1,x2,x3,y0,y1,y2,y3,dQ,hap,-⟩:=hex;obtain⟨n0,n1,n2,n3,n4,n5,n6⟩:=hap hiP;clear hap;go_wp2_with fail;go_big_region
     all_goals
      clear x0 x1 x2 x3 y0 y1 y2 y3 n0 n1 n2 n3 n4 n5 n6 dQ;go_wp2;refine⟨⟨i+1,t+1,xorNext r,swp dk i P,rfl,af,by rw[size_swp];exact DJ.out,by rw[<- UY.out.1];exact HD.out,ae (by have:=hi.out;omega),HBP.out⟩,?_⟩;have:=HB.out;have:=hi.out;simp[intOf];omega
  ·have VS:¬(i:Int)<=(E:Int):=by have:=HB.out;have:=hi.out;omega
   go_wp2;go_end0
   refine⟨rfl,?_⟩;have h3:t=3:=by omega
   subst h3;rw[<- HO.out];exact HS.out.uJ
end
end
end Go.Proofs.YthkkgdpomhhjjaaGreatDoor
