/-
  Joined.
-/
import Derived.Test.YthkkgdpomhhjjaaGreatDoorK11
import Derived.Shelf.SlSortCmp.WholeK
import Derived.Lib.ItoaMem
set_option maxRecDepth 100000
set_option maxHeartbeats 16000000
namespace Go.Proofs.YthkkgdpomhhjjaaGreatDoor
open Go.Proofs.Tryz
section
open Go Go.RowKit
section
variable {P:Program} {C:World->Prop} {Pd:Nat->Value->World->Prop} {l h:List Oper} {a0:Act}
structure FD(C:World->Prop)(Pd:Nat->Value->World->Prop)(h:List Oper)(a0:Act)(listed:Array Bool)(a:Act)(w:World):Prop where
 cls:C w
 Ni:a.tmps.size=a0.tmps.size
 Wi:a.defers=a0.defers
 out:∀k,(∀o∈h,o.dst≠some k)->a.tmps[k]? = a0.tmps[k]?
 slot:∀(i:Nat)(o:Oper)(k:Nat),h[i]? = some o->o.dst=some k->listed.getD i true=true->∃v,a.tmps[k]? = some v/\Pd i v w
def Jc(P:Program)(Pd:Nat->Value->World->Prop)(l:List Oper)(i:Nat)(o:Oper)(a:Act)(w:World):Prop:=Region.wanted o (yielded l.toArray a.tmps)=true/\rK P Pd i o a w
theorem LQ{n g:Nat}{Q:Exit->Act->World->Prop}(hh:h=l.take n)(hn:n<l.length)(hs:Region.sinkB .any l.toArray n=true)(hc:Region.chainB .any l.toArray n=true)(WS:∀(i:Nat)(o:Oper),h[i]? = some o->∀e∈o.after,e.on<i)(hd:∀(i j:Nat)(oi oj:Oper)(k:Nat),h[i]? = some oi->h[j]? = some oj->oi.dst=some k->oj.dst=some k->i=j)(hb:∀o∈h,∀k,o.dst=some k->k<a0.tmps.size)(hmono:∀w w',C w->Below w.heap.size w w'->C w')(hP:∀i v w w',Below w.heap.size w w'->Pd i v w->Pd i v w')(hstep:∀(i:Nat)(o:Oper),h[i]? = some o->∀a w,C w->jB Pd h a0 o a w->Jc P Pd l i o a w)(hL:∀listed a w,HeadInv .any l.toArray n listed->FD C Pd h a0 listed a w->(∀i,i<n->listed.getD i true=true)->wpAny P .any l.toArray Q g listed a w)(f:Nat) :
 ∀(listed:Array Bool)(a:Act)(w:World),HeadInv .any l.toArray n listed->FD C Pd h a0 listed a w->(listed.toList.take n).count false=f->wpAny P .any l.toArray Q (f+g) listed a w:=by
 have ik:∀i,i<n->h[i]? = l[i]? := fun i hi=>by rw[hh,List.getElem?_take_of_lt hi]
 induction f with
 |zero=>
   intro listed a w hv inv hf;rw[Nat.zero_add];refine hL _ _ _ hv inv (fun i hi=>?_);rw[Array.getD_eq_getD_getElem?];cases e:listed[i]? with
   |none=>rfl
   |some b=>
     cases b with
     |true=>rfl
     |false=>
       exfalso
       have h1:false∈listed.toList.take n:=List.mem_of_getElem? (i:=i) (by rw[List.getElem?_take_of_lt hi,Array.getElem?_toList];exact e);have:=List.count_pos_iff.2 h1;omega
 |succ f ih=>
   intro listed a w hv inv hf;have hsz:listed.size=l.length:=by simpa using hv.size
   obtain⟨u,hu,oG⟩:∃u,u<n/\listed.getD u true=false:=by
    have h1:0<(listed.toList.take n).count false:=by omega
    obtain⟨u,hu⟩:=List.mem_iff_getElem?.1 (List.count_pos_iff.1 h1);have hul:u<n:=by
     have:=(List.getElem?_eq_some_iff.1 hu).1;rw[List.length_take]at this;omega
    rw[List.getElem?_take_of_lt hul,Array.getElem?_toList]at hu;exact⟨u,hul,by rw[Array.getD_eq_getD_getElem?,hu];rfl⟩
   have hne:Region.ready .any l.toArray listed≠[]:=by
    have key:∀u,u<n->listed.getD u true=false->Region.ready .any l.toArray listed≠[]:=by
     intro u;induction u using Nat.strongRecOn with
     |_ u ihu=>
       intro hu oG;by_cases hall:∀e∈(l[u]'(by omega)).after,Region.binds .any e=true->listed.getD e.on false=true
       ·intro e0;have:u∈Region.ready .any l.toArray listed:=mem_ready.2 ⟨oG,l[u]'(by omega),by simp[show u<l.length by omega],hall⟩;rw[e0]at this;cases this
       ·have:∃e∈(l[u]'(by omega)).after,listed.getD e.on false=false:=by
         apply Classical.byContradiction;intro hno;refine hall (fun e he _=>?_);cases hx:listed.getD e.on false with
         |true=>rfl
         |false=>exact absurd ⟨e,he,hx⟩ hno
        obtain⟨e,he,hx⟩:=this;have hlt:=WS u (l[u]'(by omega)) (by rw[ik u hu];exact List.getElem?_eq_getElem af) e he;refine ihu e.on hlt af ?_;rw[Array.getD_eq_getD_getElem?]at hx ⊢;have oC:e.on<listed.size:=by omega
        rw[Array.getElem?_eq_getElem oC]at hx ⊢;exact hx
    exact key u hu oG
   rw[show f+1+g=(f+g)+1 by omega];refine⟨fun e0=>absurd e0 hne,fun i hi=>?_⟩;have oC:i<n:=by
    rcases Nat.lt_or_ge i n with h1 | h1
    ·exact h1
    ·exact absurd hi (tail_waits hs hc (by simpa using hn) hv _ u rfl hu oG i h1)
   obtain⟨Pw,o,ho,hall⟩:=mem_ready.1 hi;have jM:h[i]? = some o:=by rw[ik i oC];simpa using ho
   have hol:o∈h:=List.mem_of_getElem? jM;have SS:jB Pd h a0 o a w:=⟨inv.out,inv.Ni,fun e he Lh oj k km hk=>inv.slot _ oj k km hk (by
    have h1:=hall e he Lh;rw[Array.getD_eq_getD_getElem?]at h1 ⊢;cases h2:listed[e.on]? with
    |none=>rw[h2]at h1;cases h1
    |some b=>rw[h2]at h1;exact h1)⟩
   obtain⟨hw,hst⟩:=hstep i o jM a w inv.cls SS;unfold wpOp;rw[ho];simp only[hw,if_true];refine .inl (hst _ _ (fun v w' hbw hv'=>ih _ _ _ (hv.set hi oC) ⟨hmono _ _ inv.cls hbw,?_,?_,fun k hk=>?_,fun j oj k km hk hlj=>?_⟩ ?_))
   ·unfold Act.put;cases o.dst with
    |none=>exact inv.Ni
    |some d=>simp[inv.Ni]
   ·unfold Act.put;cases o.dst with
    |none=>exact inv.Wi
    |some d=>exact inv.Wi
   ·unfold Act.put;cases LR:o.dst with
    |none=>exact inv.out k hk
    |some d=>
      have hne:d≠k:=fun e=>hk o hol (by rw[LR,e]);simp only[Array.getElem?_setIfInBounds_ne hne];exact inv.out k hk
   ·by_cases eY:i=j
    ·subst eY;rw[jM]at km;obtain rfl:=Option.some.inj km;refine⟨v,?_,hv'⟩;unfold Act.put;rw[hk];have hkb:=hb o hol k hk;rw[<- inv.Ni]at hkb;simp[hkb]
    ·have aaH:listed.getD j true=true:=by
      rw[Array.getD_eq_getD_getElem?,Array.getElem?_setIfInBounds_ne eY]at hlj;rw[Array.getD_eq_getD_getElem?];exact hlj
     obtain⟨u,hu1,hu2⟩:=inv.slot j oj k km hk aaH;refine⟨u,?_,hP _ _ _ _ hbw hu2⟩;unfold Act.put;cases LR:o.dst with
     |none=>exact hu1
     |some d=>
       have hne:d≠k:=fun e=>eY (hd i j o oj k jM km (by rw[LR,e]) hk);simp only[Array.getElem?_setIfInBounds_ne hne];exact hu1
   ·have sY:listed[i]? = some false:=by
     rw[Array.getD_eq_getD_getElem?]at Pw;cases h:listed[i]? with
     |none=>rw[h]at Pw;cases Pw
     |some b=>rw[h]at Pw;simp at Pw;rw[Pw]
    have hlt:i<(listed.toList.take n).length:=by rw[List.length_take,Array.length_toList,hsz];omega
    rw[Array.toList_setIfInBounds,List.take_set];have h1:(listed.toList.take n)[i]? = some false:=by rw[List.getElem?_take_of_lt oC,Array.getElem?_toList];exact sY
    have h2:(listed.toList.take n).count false=((listed.toList.take n).set i true).count false+1:=by
     rw[List.count_set hlt];rw[List.getElem?_eq_getElem hlt]at h1;have h3:=Option.some.inj h1;rw[h3];have h4:0<(listed.toList.take n).count false:=List.count_pos_iff.2 (List.mem_of_getElem? (by rw[List.getElem?_eq_getElem hlt,h3]));rw[if_pos ag,if_neg ag];omega
    omega
def Nw(l:List Oper)(n:Nat):Bool:=
 l.all (fun o=>match o.dst with | some k=>decide (k<n) | none=>true) &&
  (List.range l.length).all fun i=>(List.range l.length).all fun j=>decide (i=j) || (match (l[i]?).bind (·.dst),(l[j]?).bind (·.dst) with | some a,some b=>decide (a≠b) | _,_=>true)
theorem Tz{listed:Array Bool}{a:Act}{w:World}(inv:FD C Pd h a0 listed a w)(hall:∀i,i<h.length->listed.getD i true=true)(hB:Nw h a0.tmps.size=true)(hA:(h.all fun o=>o.dst.isSome)=true) :
 ∃vs:List Value,vs.length=h.length/\(∀i v,vs[i]? = some v->Pd i v w)/\a=jC a0 h vs:=by
 rw[List.all_eq_true]at hA;have LR:∀(i:Nat)(o:Oper),h[i]? = some o->∃k,o.dst=some k:=fun i o ho=>Option.isSome_iff_exists.1 (hA o (List.mem_of_getElem? ho));have pZ:∀(i:Nat)(o:Oper)(k:Nat),h[i]? = some o->o.dst=some k->∃v,a.tmps[k]? = some v/\Pd i v w:=fun i o k ho hk=>inv.slot i o k ho hk (hall i (List.getElem?_eq_some_iff.1 ho).1);simp only[Nw,Bool.and_eq_true,List.all_eq_true]at hB;obtain⟨h2,h3⟩:=hB;have Yq:∀(i j:Nat)(oi oj:Oper)(k:Nat),h[i]? = some oi->h[j]? = some oj->oi.dst=some k->oj.dst=some k->i=j:=fun i j oi oj k hi hj MG hkj=>by
  have h4:=h3 i (List.mem_range.2 (List.getElem?_eq_some_iff.1 hi).1) j (List.mem_range.2 (List.getElem?_eq_some_iff.1 hj).1);rw[hi,hj]at h4;simp only[Option.bind_some,MG,hkj,Bool.or_eq_true,decide_eq_true_eq]at h4;rcases h4 with h4 | h4
  ·exact h4
  ·exact absurd rfl h4
 refine⟨h.map fun o=>(o.dst.bind (a.tmps[·]?)).getD undef,List.length_map _,fun i v hv=>?_,?_⟩
 ·rw[List.getElem?_map]at hv;obtain⟨o,ho,rfl⟩:=Option.map_eq_some_iff.1 hv;obtain⟨k,hk⟩:=LR i o ho;obtain⟨v,e1,e2⟩:=pZ i o k ho hk;rw[hk];simp only[Option.bind_some,e1,Option.getD_some];exact e2
 ·obtain⟨k1,k2,k3⟩:=nx h a0 (h.map fun o=>(o.dst.bind (a.tmps[·]?)).getD undef);refine qU (by rw[k1,inv.Ni]) (by rw[k2,inv.Wi]) (fun k hk=>?_);rw[k1]at hk;by_cases he:∃o∈h,o.dst=some k
  ·obtain⟨o,ho,fe⟩:=he;obtain⟨i,hi⟩:=List.mem_iff_getElem?.1 ho;obtain⟨v,e1,_⟩:=pZ i o k hi fe;rw[e1];refine(xv h a0 _ i o k v hi fe ?_ hk (fun j oj hj hjk=>Yq j i oj o k hj hi hjk fe)).symm;rw[List.getElem?_map,hi];simp[fe,e1]
  ·have hno:∀o∈h,o.dst≠some k:=fun o ho e=>he ⟨o,ho,e⟩;rw[k3 k hno,inv.out k hno]
def Jd(l:List Oper)(n m:Nat):Bool:=
 decide (n<l.length) && Region.sinkB .any l.toArray n && Region.chainB .any l.toArray n && Nw (l.take n) m && (l.take n).all (fun o=>o.dst.isSome) &&
  ((List.range n).all fun i=>match l[i]? with | some o=>o.after.toList.all (fun e=>decide (e.on<i)) | none=>true) &&
  Region.seqB .any l.toArray (l.length-n) n ((Array.range l.length).map fun i=>decide (i<n))
theorem uY{id:Nat}{Q:Exit->Act->World->Prop}{w:World}(C:World->Prop)(Pd:Nat->Value->World->Prop)(n:Nat)(hm:P.follows .mixedOrders=true)(hB:Jd l n a0.tmps.size=true)(hC:C w.drew)(hmono:∀w w',C w->Below w.heap.size w w'->C w')(hP:∀i v w w',Below w.heap.size w w'->Pd i v w->Pd i v w')(hstep:∀(i:Nat)(o:Oper),(l.take n)[i]? = some o->∀a w,C w->jB Pd (l.take n) a0 o a w->Jc P Pd l i o a w)(hend:∀(vs:List Value)w',C w'->vs.length=n->(∀i v,vs[i]? = some v->Pd i v w')->wpList P l.toArray Q (l.drop n) (jC a0 (l.take n) vs) w'):(Code.region id l.toArray true).wp P Q a0 w:=by
 simp only[Jd,Bool.and_eq_true,decide_eq_true_eq]at hB;obtain⟨⟨⟨⟨⟨⟨hn,hs⟩,hc⟩,hrel⟩,LR⟩,WS⟩,hseq⟩:=hB;have zo:(l.take n).length=n:=by simp;omega
 have hR:=hrel;simp only[Nw,Bool.and_eq_true,List.all_eq_true]at hrel;obtain⟨h2,h3⟩:=hrel;rw[List.all_eq_true]at WS;refine wp_region_any hm ?_;have Kg:HeadInv .any l.toArray n (Array.replicate l.toArray.size false):=
  ⟨ai,fun j oj _ hl=>(by rw[getD_replicate_false]at hl;cases hl),fun t _ ht=>getD_in (by simpa using ht) (getD_replicate_false _ _)⟩
 have key:=LQ (P:=P) (C:=C) (Pd:=Pd) (l:=l) (h:=l.take n) (a0:=a0) (n:=n) (g:=l.length-n) (Q:=Q) rfl hn hs hc (fun i o ho e he=>?_) (fun i j oi oj k hi hj MG hkj=>?_) (fun o ho k hk=>?_) hmono hP hstep
  (fun listed a w' hv inv hall=>?_) n (Array.replicate l.toArray.size false) a0 w.drew Kg ⟨hC,rfl,rfl,fun _ _=>rfl,fun i o k ho _ hl=>?_⟩ ?_
 ·rw[show n+(l.length-n)=l.toArray.size by simp;omega]at key;exact key
 ·have hi:i<n:=by have:=(List.getElem?_eq_some_iff.1 ho).1;rw[zo]at this;exact this
  have h4:=WS i (List.mem_range.2 hi);rw[List.getElem?_take_of_lt hi]at ho;rw[ho]at h4;simp only[List.all_eq_true,decide_eq_true_eq]at h4;exact h4 e (by simpa using he)
 ·have h4:=h3 i (List.mem_range.2 (List.getElem?_eq_some_iff.1 hi).1) j (List.mem_range.2 (List.getElem?_eq_some_iff.1 hj).1);rw[hi,hj]at h4;simp only[Option.bind_some,MG,hkj,Bool.or_eq_true,decide_eq_true_eq]at h4;rcases h4 with h4 | h4
  ·exact h4
  ·exact absurd rfl h4
 ·have h4:=h2 o ho;rw[hk]at h4;simpa using h4
 ·have hsz:listed.size=l.length:=by simpa using hv.size
  have WT:listed=(Array.range l.length).map fun i=>decide (i<n):=by
   apply Array.ext
   ·simp[hsz]
   ·intro i g1 g2;simp only[Array.getElem_map,Array.getElem_range];by_cases hi:i<n
    ·have h4:=hall i hi;rw[Array.getD_eq_getD_getElem?,Array.getElem?_eq_getElem g1]at h4;rw[decide_eq_true hi];exact h4
    ·have h4:=hv.tail i af (by simp;omega);rw[Array.getD_eq_getD_getElem?,Array.getElem?_eq_getElem g1]at h4;rw[decide_eq_false hi];exact h4
  obtain⟨vs,e1,e2,rfl⟩:=Tz inv (fun i hi=>hall i (by rw[zo]at hi;exact hi)) hR LR;have:=wpAny_of_seq (P:=P) (md:=.any) (ops:=l.toArray) (Q':=Q) (l.drop n) n listed (jC a0 (l.take n) vs) w' (fun j=>by simp[List.getElem?_drop]) (by rw[WT,List.length_drop];exact hseq) (hend vs w' inv.cls (by rw[e1,zo]) e2);rwa [List.length_drop]at this
 ·exfalso
  have hi:i<l.length:=by
   have:=(List.getElem?_eq_some_iff.1 ho).1;rw[zo]at this;omega
  rw[Array.getD_eq_getD_getElem?]at hl;simp[hi]at hl
 ·rw[Array.toList_replicate,List.take_replicate];simp;omega
end
end
section
open Go.RowKit Go.Maps
theorem nC{w:World}{base:Nat}{v:Value}{es:List aD}(h:aJ w base v es):kC w v es:=by
 rcases ck h with⟨rfl,h1⟩|⟨g,cap,rfl,hg,hc1,hc2⟩
 ·obtain⟨a,cap,rfl⟩:=aA h;exact⟨a,cap,rfl,.inl rfl⟩
 ·refine⟨some ⟨g,0,none⟩,cap,rfl,.inr ⟨g,0,rfl,fun j x hx=>?_⟩⟩;obtain⟨h1,h2,h3,h4⟩:=bK h hx;rw[Nat.zero_add];exact⟨h1,h2,h3,h4⟩
end
section
open Go.RowKit Go.Maps
section
variable {S:Nat->Prop} {w0 w w':World} {pb db n gb gen N ob ib vb:Nat} {o o':au} {d d':Dsk} {L L':aH}
theorem dH.TA(h:dH w o gb pb gen N ob ib vb)(hm:Moved S n pb db w o d w' o' d' L')(hs:∀x,x<w.heap.size->¬S x):dH w' o' gb pb gen N ob ib vb:=
 ⟨h.raw.moved hm h.Ys (hs _ h.raw.lt),h.out.moved hm h.S0 (hs _ h.out.lt),h.rV.moved hm h.Wp (hs _ h.rV.lt),h.sH.moved hm h.Ll (hs _ h.sH.lt),hm.free h.raw.lt h.Ys,hm.free h.out.lt h.S0,hm.free h.rV.lt h.Wp,hm.free h.sH.lt h.Ll⟩
def Bl(x:aD):Value:=.agg #[.int .u32 (x.t.toNat:Int),.int .u32 (x.h.toNat:Int),.int .u64 (x.x.toNat:Int),.int .u32 (x.m.toNat:Int)]
theorem Bn(HW:aP)(h:Held w0 w pb db n o d L)(hq:need L<=131072)(hg:dH w o gb pb gen N ob ib vb){es:List aD}{fl:Bool}(hL:aB L (aK 101 gen)=some (ax es fl)) :
 Calls prog 27 #[ptrTo gb] w fun e w'=>∃d' o',e=.returned (.tuple #[.int .i64 (es.length:Int),.int .i64 0])/\Moved (fun _=>False) n pb db w o d w' o' d' L:=by
 refine(A8 HW h.aY hg hL).mono ?_;rintro e w'⟨c,d',o',⟨x,rfl,hx⟩,hm,he⟩;grind [Held.qY]
theorem D6(HW:aP)(h:Held w0 w pb db n o d L)(hq:need L<=131072)(hg:dH w o gb pb gen N ob ib vb){es:List aD}{fl:Bool}(hL:aB L (aK 101 gen)=some (ax es fl)){i:Nat}{x:aD}(hi:es[i]? = some x) :
 Calls prog 28 #[ptrTo gb,.int .i64 (i:Int)] w fun e w'=>∃d' o',e=.returned (.tuple #[Bl x,.int .i64 0])/\Moved (fun _=>False) n pb db w o d w' o' d' L:=by
 refine(Fx HW h.aY hg hL hi).mono ?_;rintro e w'⟨c,d',o',y,rfl,hm,he,hy,-⟩;have h0:c=0:=h.qY hm he hq;subst h0;rw[hy rfl];exact⟨d',o',rfl,hm⟩
def jD(n pb db:Nat)(w:World)(o:au)(d:Dsk)(L:aH)(ts:List aD)(e:Ending)(w':World):Prop:=
 ∃v d' o',e=.returned (.tuple #[v,.int .i64 0])/\Moved (fun _=>False) n pb db w o d w' o' d' L/\aJ w' w.heap.size v ts/\∀x,v.ownBlock=some x->o' x=none
theorem Je(HW:aP)(h:Held w0 w pb db n o d L)(hq:need L<=131072)(hg:dH w o gb pb gen N ob ib vb){es:List aD}(hL:aB L (aK 101 gen)=some (ax (aC false es) true))(hl:es.length<=1000){v:Nat}(hv:v<N)(hN:N<=1000) :
 Calls prog 21 #[ptrTo gb,.int .u32 (v:Int)] w (jD n pb db w o d L (II false v (aC false es))):=by
 refine(IK HW h.aY hg hL (yG false es) (by grind [b8]) hv af).mono ?_;rintro e w'⟨v',c,d',o',rfl,hm,he,hv',-⟩;have h0:c=0:=h.qY hm he hq;subst h0;obtain⟨h1,h2⟩:=hv' rfl;exact⟨v',d',o',rfl,hm,h1,h2⟩
theorem WU(HW:aP)(h:Held w0 w pb db n o d L)(hq:need L<=131072)(hg:dH w o gb pb gen N ob ib vb){es:List aD}(hL:aB L (aK 114 gen)=some (ax (aC true es) true))(hl:es.length<=1000){v:Nat}(hv:v<N)(hN:N<=1000) :
 Calls prog 22 #[ptrTo gb,.int .u32 (v:Int)] w (jD n pb db w o d L (II true v (aC true es))):=by
 refine(Lu HW h.aY hg hL (yG true es) (by grind [b8]) hv af).mono ?_;rintro e w'⟨v',c,d',o',rfl,hm,he,hv',-⟩;have h0:c=0:=h.qY hm he hq;subst h0;obtain⟨h1,h2⟩:=hv' rfl;exact⟨v',d',o',rfl,hm,h1,h2⟩
theorem D7(HW:aP)(h:Held w0 w pb db n o d L)(hq:need L<=131072){vs:List cj}{fl:Bool}(hg:dH w o gb pb gen vs.length ob ib vb)(hL:aB L (aK 118 gen)=some (b6 vs fl)){v:Nat}(hv:v<vs.length)(hv':v<4294967296) :
 Calls prog 23 #[ptrTo gb,.int .u32 (v:Int)] w fun e w'=>∃d' o',e=.returned (.tuple #[xw vs[v],.int .i64 0])/\Moved (fun _=>False) n pb db w o d w' o' d' L:=by
 refine(Fp HW h.aY hg hL rfl v hv hv').mono ?_;rintro e w'⟨c,d',o',rfl,hm,he⟩;grind [Held.qY]
end
def YI(l:List UInt8):Nat:=l.foldl (fun a b=>a*10+(b.toNat-48)) 0
theorem Px(k:Nat):YI (Lib.decDigits k)=k:=by
 induction k using Nat.strongRecOn with
 |_ k ih=>
   have hd:∀j,j<10->(UInt8.ofNat (48+j)).toNat-48=j:=by decide
   grind [Lib.decDigits,YI]
theorem bq{c c':UInt8}{k k':Nat}(h:k≠k'):aK c k≠aK c' k':=by
 grind [aK,Px]
end
section
open Go.RowKit Go.Maps
open Go.ChangeMaps (setBlock)
theorem mD{P:Program}{t:TypeId}{a b c}(h:P.underlying t=some (.func a b c))(f:Fn)(bs cs:Array Value)(w:World):(binOp .eql t (.func f bs cs) .nilFunc).run P w=.ok (.bool false) w:=by
 have e:(Op.equalIn (9999+1) t (.func f bs cs) .nilFunc).run P w=.ok false w:=by
  unfold Op.equalIn;simp[run_underlying h,Result.andThen]
 have e2:(Op.equal t (.func f bs cs) .nilFunc).run P w=.ok false w:=e;unfold binOp;simp_all
theorem bS.len{κ υ:Type}{P:Program}{kt t e:TypeId}{ek:κ->Value}{ev:υ->Value}{w:World}{b:Nat}{m:List (κ×υ)}(h:bS P kt ek ev w b m)(ht:P.underlying t=some (.map kt e))(ty:TypeId):(Builtin.len_ #[t] ty #[.map (some b)]).run P w=.ok (.int .i64 (m.length:Int)) w:=by
 obtain⟨es,clock,l,hb,hp,-,hl,-⟩:=h;have e1:es.size=m.length:=by
  have:=congrArg List.length hl;grind [List.Perm.length_eq]
 rw[<- e1];simp[Builtin.len_,run_underlying ht,MapKept.run_getObj_map hb,goInt,Result.andThen]
theorem CY{κ υ:Type}{P:Program}{kt t e:TypeId}{ek:κ->Value}{ev:υ->Value}(w:World){ops:Array Oper}{rest:List Oper}{o:Oper}{a:Act}{Q:Exit->Act->World->Prop}(hg:o.guard=none)(x:Operand)(hop:o.op=Op.call { callee:=Callee.builtin Builtin.len,args:=#[x],argTypes:=#[t] })(ht:P.underlying t=some (.map kt e))(b:Nat)(m:List (κ×υ))(hx:a.eval x=.map (some b))(h:bS P kt ek ev w b m)(hK:wpList P ops Q rest (a.put o.dst (.int .i64 (m.length:Int))) w):wpList P ops Q (o::rest) a w:=by
 refine wpList_plain hg fun K' hK'=>?_;have hrun:=h.len ht o.type;unfold Oper.wp execOp;simp only[hop,resolve,invoke,builtin,Sem.run_bind,Sem.run_pure,Result.andThen_ok,List.map_toArray,List.map_cons,List.map_nil,hx,hrun];exact hK' _ _ hK
abbrev jE(w:World)(b:Nat)(S:List Nat):Prop:=bS prog 26 je (fun _:Unit=>Value.agg #[]) w b (S.map fun x=>(x,()))
theorem oq{P:Program}{kt t e:TypeId}{ek:Nat->Value}{ev:Unit->Value}(w:World){ops:Array Oper}{rest:List Oper}{o:Oper}{a:Act}{Q:Exit->Act->World->Prop}(hg:o.guard=none)(x:Operand)(hop:o.op=Op.call { callee:=Callee.builtin Builtin.len,args:=#[x],argTypes:=#[t] })(ht:P.underlying t=some (.map kt e))(b:Nat)(St:List Nat)(hx:a.eval x=.map (some b))(h:bS P kt ek ev w b (St.map fun x=>(x,())))(hK:wpList P ops Q rest (a.put o.dst (.int .i64 (St.length:Int))) w):wpList P ops Q (o::rest) a w:=
 CY w hg x hop ht b _ hx h (by rw[List.length_map];exact hK)
theorem rN(S:List Nat)(x:Nat):qh (S.map fun x=>(x,())) x=decide (x∈S):=by
 grind [qh,aB]
theorem FE{S:List Nat}{x:Nat}(h:x ∉ S):aS (S.map fun x=>(x,())) x ()=(x::S).map fun x=>(x,()):=by
 grind [aS,oD]
section
variable {S:Nat->Prop} {n pb db:Nat} {w w' w'':World} {o o' gY:au} {d d' ig:Dsk} {L L' Ao:aH}
theorem Moved.zB(h:Moved S n pb db w o d w' o' d' L'){B:Nat->Prop}(hB:∀b,b<w'.heap.size->B b->o' b=none/\(S b\/w.heap.size<=b))(ht:aG B w' w''):Moved S n pb db w o d w'' o' d' L':=by
 have ht':aG (fun b=>b<w'.heap.size/\B b) w' w'':=ht.mono (fun x hx hb=>⟨hx,hb⟩);refine⟨h.aY.kept ht' (fun x hx e=>au.dE (hB x e.1 e.2).1 hx) (fun _ _ h=>h) (fun x t hx=>Nat.lt_of_lt_of_le (h.aY.owned x t hx) ht.size),h.turn.trans ht (fun x hx e=>?_),h.grow,h.on⟩;grind [Nat.lt_of_lt_of_le,size]
structure vM(n pb db:Nat)(w:World)(o:au)(d:Dsk)(L:aH)(N:Nat)(X:Nat->Prop)(fb sb:Nat)(St:List Nat)(m:vL)(c:Nat)(W:World)(o':au)(d':Dsk):Prop where
 fr:∃B,fA W fb B m c/\∀b,B b->w.heap.size<=b/\b<W.heap.size/\o' b=none/\b≠sb/\¬X b
 st:jE W sb St
 sg:w.heap.size<=sb/\o' sb=none
 mv:Moved (fun _=>False) n pb db w o d W o' d' L
 gd:∀p∈m,p.1<N/\p.2<9223372036854775808/\p.1 ∉ St
variable {N fb sb c:Nat} {X:Nat->Prop} {St:List Nat} {m m':vL} {W W':World} {B:Nat->Prop}
theorem fA.more(f:fA W fb B m c){c':Nat}(h:c<=c'):fA W fb B m c':=by
 obtain⟨hb,mb,v,h',f,hw,hc,r⟩:=f;exact⟨hb,mb,v,h',f,hw,Nat.le_trans hc h,r⟩
theorem fA.keys(f:fA W fb B m c):(m.map (·.1)).Nodup:=by
 obtain⟨hb,mb,v,h',f,_⟩:=f;exact f.far.keys
theorem vM.below(h:vM n pb db w o d L N X fb sb St m c W o' d')(hb:Below W.heap.size W W'):vM n pb db w o d L N X fb sb St m c W' o' d':=by
 obtain⟨B,h1,h2⟩:=h.fr;exact⟨⟨B,h1.kept (fun b hb'=>hb.block b (h2 b hb').2.1),fun b hb'=>⟨(h2 b hb').1,Nat.lt_of_lt_of_le (h2 b hb').2.1 hb.size,(h2 b hb').2.2⟩⟩,h.st.kept (hb.block _ h.st.lt),h.sg,h.mv.below hb,h.gd⟩
theorem vM.moved(h:vM n pb db w o d L N X fb sb St m c W o' d')(hm:Moved (fun _=>False) n pb db W o' d' w' gY ig L):vM n pb db w o d L N X fb sb St m c w' gY ig:=by
 obtain⟨B,h1,h2⟩:=h.fr;refine⟨⟨B,h1.kept (fun b hb'=>hm.block (h2 b hb').2.1 (h2 b hb').2.2.1 (fun e=>e)),fun b hb'=>⟨(h2 b hb').1,Nat.lt_of_lt_of_le (h2 b hb').2.1 hm.size,hm.free (h2 b hb').2.1 (h2 b hb').2.2.1,(h2 b hb').2.2.2⟩⟩,h.st.kept (hm.block h.st.lt h.sg.2 (fun e=>e)),⟨h.sg.1,hm.free h.st.lt h.sg.2⟩,h.mv.trans hm (fun _ _ e=>e),h.gd⟩
theorem vM.turned(h:vM n pb db w o d L N X fb sb St m c W o' d'){B B':Nat->Prop}{c':Nat}(hB:∀b,B b->w.heap.size<=b/\b<W.heap.size/\o' b=none/\b≠sb/\¬X b)(ht:aG B W W')(hf:fA W' fb B' m' c')(Vg:∀b,B' b->B b\/W.heap.size<=b/\b<W'.heap.size)(hX:∀b,X b->b<W.heap.size)(hg:∀p∈m',p.1<N/\p.2<9223372036854775808/\p.1 ∉ St):vM n pb db w o d L N X fb sb St m' c' W' o' d'/\∀b,X b->W'.heap[b]? = W.heap[b]? := by
 refine⟨⟨⟨B',hf,fun b hb=>?_⟩,h.st.kept (ht.block _ h.st.lt (fun e=>(hB _ e).2.2.2.1 rfl)),h.sg,h.mv.zB (fun b _ hb=>⟨(hB b hb).2.2.1,.inr (hB b hb).1⟩) ht,hg⟩,fun b hb=>ht.block b (hX b hb) (fun e=>(hB b e).2.2.2.2 hb)⟩;rcases Vg b hb with e | e
 ·grind [Nat.lt_of_lt_of_le,aG.size]
 ·exact⟨Nat.le_trans h.mv.size e.1,e.2,h.mv.aY.fresh e.1,fun e'=>by have:=h.st.lt;omega,fun hx=>by grind⟩
theorem vM.settled(h:vM n pb db w o d L N X fb sb St m c W o' d'){v:Nat}(hv:v ∉ St){es:Array MapEntry}{clock:Nat}(hm:bS prog 26 je (fun _:Unit=>Value.agg #[]) (setBlock W sb (.map es clock)) sb (aS (St.map fun x=>(x,())) v ()))(hg:∀p∈m,p.1≠v) :
 vM n pb db w o d L N X fb sb (v::St) m c (setBlock W sb (.map es clock)) o' d':=by
 obtain⟨B,h1,h2⟩:=h.fr;have hs:(setBlock W sb (.map es clock)).heap.size=W.heap.size:=by grind [setBlock]
 refine⟨⟨B,h1.kept (fun b hb=>bg _ (h2 b hb).2.2.2.1),fun b hb=>⟨(h2 b hb).1,by grind,(h2 b hb).2.2⟩⟩,by grind [FE],h.sg,h.mv.turned h.sg.2 (.inr h.sg.1) ((aG.refl _ W).setBlock _ _ (.inl rfl)),fun p hp=>⟨(h.gd p hp).1,(h.gd p hp).2.1,fun e=>?_⟩⟩;rcases List.mem_cons.1 e with e | e
 ·grind
 ·exact(h.gd p hp).2.2 e
theorem vM.wider(h:vM n pb db w o d L N X fb sb St m c W o' d'){X':Nat->Prop}(hX:∀b,X' b->b<W.heap.size->X b){c':Nat}(hc:c<=c'):vM n pb db w o d L N X' fb sb St m c' W o' d':=by
 obtain⟨B,h1,h2⟩:=h.fr;exact⟨⟨B,h1.more hc,fun b hb=>⟨(h2 b hb).1,(h2 b hb).2.1,(h2 b hb).2.2.1,(h2 b hb).2.2.2.1,fun e=>(h2 b hb).2.2.2.2 (hX b e (h2 b hb).2.1)⟩⟩,h.st,h.sg,h.mv,h.gd⟩
theorem vM.fresh(h:vM n pb db w o d L N X fb sb St m c W o' d'):vM n pb db w o d L N (fun b=>W.heap.size<=b) fb sb St m c W o' d':=by
 obtain⟨B,h1,h2⟩:=h.fr;exact⟨⟨B,h1,fun b hb=>⟨(h2 b hb).1,(h2 b hb).2.1,(h2 b hb).2.2.1,(h2 b hb).2.2.2.1,fun e=>by grind⟩⟩,h.st,h.sg,h.mv,h.gd⟩
theorem uZ(l:List (Nat×Unit))(x:Nat):((aB l x).map (fun _:Unit=>Value.agg #[])).getD (Value.agg #[])=Value.agg #[]:=by
 cases aB l x<;>rfl
theorem nG{A:Nat->Bool}{St:List Nat}{zj:Nat}{m:vL}{ts:List aD}{j:Nat}{x:aD}(h:ts[j]? = some x) :
 ir A St zj m (ts.take (j+1))=if zj+x.x.toNat<9223372036854775808/\x.h.toNat ∉ St/\A x.h.toNat=false then nz (ir A St zj m (ts.take j)) x.h.toNat (zj+x.x.toNat) else ir A St zj m (ts.take j):=by
 grind [List.take_succ_eq_append_getElem,ir]
theorem Py{m:vL}{v d:Nat}{p:Nat×Nat}(h:p∈nz m v d):p∈m\/p=(v,d):=by
 grind [aS,gF,nz]
end
end
section
open Go.RowKit Go.Maps
open Go.ChangeMaps (setBlock)
def oY(n pb db:Nat)(w:World)(o:au)(d:Dsk)(L:aH)(r:Bool)(e:Ending)(w':World):Prop:=
 ∃d' o',e=.returned (.tuple #[.bool r,.int .i64 0])/\Moved (fun _=>False) n pb db w o d w' o' d' L
def Jf:Option Obj->Nat
 |some (.map es _)=>es.size
 |_=>0
theorem jE.Jf{W:World}{sb:Nat}{St:List Nat}(h:jE W sb St):Jf W.heap[sb]? = St.length:=by
 obtain⟨es,clock,l,hb,hp,-,hl,-⟩:=h;rw[hb];have:=congrArg List.length hl;simp at this;show es.size=_;rw[this,hp.length_eq];simp
theorem D9(w:World):(zeroValue 245).run prog w=.ok (.agg #[]) w:=Tryz.zeroValue245 w
structure tD(w0 w:World)(pb db n:Nat)(o:au)(d:Dsk)(L:aH)(gb gen N ob ib vb:Nat)(es:List aD)(A:Nat->Bool)(sv av:Nat)(K:Nat->Prop):Prop where
 held:Held w0 w pb db n o d L
 need:need L<=131072
 gr:dH w o gb pb gen N ob ib vb
 file:aB L (aK 101 gen)=some (ax (aC false es) true)
 len:es.length<=1000
 top:N<=1000
 ends:∀x∈es,x.t.toNat<N/\x.h.toNat<N
 pU:∀b,K b->b<w.heap.size/\o b=none
 afC:∀W(x:Nat),(∀b,K b->W.heap[b]? = w.heap[b]?)->w.heap.size<=W.heap.size->x<4294967296->Calls prog 200 #[.int .u32 (x:Int),.pointer (some ⟨sv,0,none⟩),.pointer (some ⟨av,0,none⟩)] W fun e W'=>e=.returned (.bool (A x))/\Below W.heap.size W W'
section
variable {w0 w w':World} {pb db n gb gen N ob ib vb sv av:Nat} {o o':au} {d d':Dsk} {L:aH} {es:List aD} {A:Nat->Bool} {K:Nat->Prop}
theorem tD.moved(h:tD w0 w pb db n o d L gb gen N ob ib vb es A sv av K)(hm:Moved (fun _=>False) n pb db w o d w' o' d' L):tD w0 w' pb db n o' d' L gb gen N ob ib vb es A sv av K:=
 ⟨h.held.moved hm (fun _ e=>e.elim),h.need,h.gr.TA hm (fun _ _ e=>e),h.file,h.len,h.top,h.ends,fun b hb=>⟨Nat.lt_of_lt_of_le (h.pU b hb).1 hm.size,hm.free (h.pU b hb).1 (h.pU b hb).2⟩,
  fun W x hk hs hx=>h.afC W x (fun b hb=>(hk b hb).trans (hm.block (h.pU b hb).1 (h.pU b hb).2 (fun e=>e))) (Nat.le_trans hm.size hs) hx⟩
theorem tD.out(HW:aP)(h:tD w0 w pb db n o d L gb gen N ob ib vb es A sv av K){v:Nat}(hv:v<N):Calls prog 21 #[ptrTo gb,.int .u32 (v:Int)] w (jD n pb db w o d L (aX es v)):=
 Je HW h.held h.need h.gr h.file h.len hv h.top
theorem Bo{es:List aD}{v:Nat}{x:aD}(h:x∈aX es v):x∈es/\x.t.toNat=v:=
 ⟨((bL false es).mem x (zA h).1).1,(zA h).2⟩
theorem nH(es:List aD)(v:Nat):(aX es v).length<=es.length:=by
 have:=b8 false es;exact Nat.le_trans (List.length_filter_le _ _) this
theorem Jg(HW:aP)(h:tD w0 w pb db n o d L gb gen N ob ib vb es A sv av K)(u t most:Nat)(hu:u<N) :
 Calls prog 202 #[.func (.func 21) #[ptrTo gb] #[],.func (.func 200) #[] #[.pointer (some ⟨sv,0,none⟩),.pointer (some ⟨av,0,none⟩)],.int .u32 (u:Int),.int .u32 (t:Int),.int .u64 (most:Int)] w (oY n pb db w o d L (k9 (aX es) A t most 16 [(u,0)] [])):=by
 have H:=ae h;have HN:Hid (N<=1000):=ae h.top;have aaz:Hid (∀W o' d',Moved (fun _=>False) n pb db w o d W o' d' L->∀v,v<N->Calls prog 21 #[ptrTo gb,.int .u32 (v:Int)] W (jD n pb db W o' d' L (aX es v))):=ae (fun W o' d' hm v hv=>(H.out.moved hm).out HW hv);clear h;obtain⟨R,HR⟩:∃R,Hid (k9 (aX es) A t most 16 [(u,0)] []=R):=⟨_,ae rfl⟩;rw[HR.out];unfold ptrTo at *;have BU:=mD Tryz.underlying53 (.func 21) #[.pointer (some ⟨gb,0,none⟩)] #[];have U4:=mD Tryz.underlying234 (.func 200) #[] #[.pointer (some ⟨sv,0,none⟩),.pointer (some ⟨av,0,none⟩)];have tL:∀(t:TypeId)(W:World),(Instr.makeMap t none).run prog W=.ok (.map (some W.heap.size)) (W.alloc (.map #[] 0)):=fun _ _=>rfl;have HZU:=ae D9;go_enter func202,ntmps202;go_wp2_with fail;clear BU U4;refine(IW w).mono ?_;rintro e w1⟨rfl,zU,hb1,hs1⟩;obtain⟨B4,oB,HF4⟩:∃B:Nat->Prop,Hid (∀b,B b->w.heap.size<=b/\b<w1.heap.size+2)/\Hid (fA ((w1.alloc (.map #[] 0)).alloc (.cells #[.pointer (some ⟨w.heap.size,0,none⟩),.map (some w1.heap.size)] 325)) (w1.heap.size+1) B [] 0):=by
  refine⟨fun b=>b=w.heap.size\/b=w1.heap.size\/b=w1.heap.size+1,ae (fun b hb=>by omega),ae ⟨w.heap.size,w1.heap.size,.slice none 0 0,[],⟨?_,?_,fun j h1 h2=>by grind,?_,af,af,af,by simp[Value.ownBlock],by simp[Value.ownBlock]⟩,⟨fun v d e=>(by cases e),fun y hy=>(by cases hy)⟩,Nat.le_refl _,.inr (.inr rfl),.inl rfl,.inr (.inl rfl),fun b e=>(by cases e)⟩⟩
  ·grind [World.alloc,ptrTo]
  ·exact zU.below (aj.alloc ai _)
  ·exact(bS.made w1 prog 26 je afq).kept ((MapKept.heap_alloc _ _).2 _ ai)
 have abe:Hid (Below w.heap.size w ((w1.alloc (.map #[] 0)).alloc (.cells #[.pointer (some ⟨w.heap.size,0,none⟩),.map (some w1.heap.size)] 325))):=ae ((hb1.alloc hb1.size _).alloc (by simp;omega) _);have gD:Hid (((w1.alloc (.map #[] 0)).alloc (.cells #[.pointer (some ⟨w.heap.size,0,none⟩),.map (some w1.heap.size)] 325)).heap.size=w1.heap.size+2):=ae ai;have hcm:=ae (I0 HF4.out af u 0 (by grind [Hid.out]));clear zU hb1 hs1;unfold ptrTo at *;go_wp2_with fail;refine hcm.out.mono ?_;rintro e w5⟨rfl,hf5,rU⟩;obtain⟨sb,CB⟩:∃sb,sb=w5.heap.size:=⟨_,rfl⟩;obtain⟨fb,ZE⟩:∃fb,fb=w1.heap.size+1:=⟨_,rfl⟩;have Fc:Hid (vM n pb db w o d L N (fun _=>False) fb sb [] [(u,0)] 1 (w5.alloc (.map #[] 0)) o d):=ae (by
  subst CB ZE;have Nx:=H.out.held.aY;have hsz:=gD.out;have vF:=abe.out.size;have UL:=rU.size;refine⟨⟨_,hf5.kept (fun b hb=>(MapKept.heap_alloc _ _).2 b ?_),fun b hb=>?_⟩,bS.made w5 prog 26 je (fun _:Unit=>Value.agg #[]),⟨af,Nx.fresh af⟩,((Moved.aV Nx abe.out).zB (fun b _ hb=>⟨Nx.fresh (oB.out b hb).1,.inr (oB.out b hb).1⟩) rU).alloc _,fun p hp=>?_⟩
  ·grind [Hid.out]
  ·have h1:w.heap.size<=b/\b<w5.heap.size:=by
    grind [Hid.out]
   exact⟨h1.1,by simp;omega,Nx.fresh h1.1,af,fun e=>e⟩
  grind)
 have HSB:Hid (sb<(w5.alloc (.map #[] 0)).heap.size):=ae (by simp_all);clear hcm HF4 oB abe gD hf5 rU;go_wp2_with fail;rw[<- CB];try rw[<- ZE]
 clear CB ZE;generalize w5.alloc (.map #[] 0)=W6 at *;go_loopw [] (fun wr=>∃St m c d' o',Hid (vM n pb db w o d L N (fun _=>False) fb sb St m c wr o' d')/\Hid (c<=1+St.length*1000/\St.length<=16)/\Hid (k9 (aX es) A t most (16-St.length) m St=R)) (fun wr=>16-Jf wr.heap[sb]?)
 case atStart=>grind [ae]
 case round=>
  obtain⟨St,m,c,d2,o2,HS,HC,Qh⟩:=hrel;clear Fc;generalize wr=Wr at *;obtain⟨B,hF,hB⟩:=HS.out.fr;have HK:=ae hF.keys;have hle:=ae (Pr hF (by grind [Hid.out]));have JV:=ae hB;clear hF hB;unfold ptrTo xF at hle;go_wp2_with fail;refine hle.out.mono ?_;rintro e w2 (⟨hn,rfl,ht⟩|⟨v,dd,hn,rfl,hF2,ht⟩)
  ·have HQ:Hid (oY n pb db w o d L R (.returned (.tuple #[.bool false,.int .i64 0])) w2):=ae ⟨d2,o2,by
    rw[<- Qh.out];cases 16-St.length with
    |zero=>rfl
    |succ k=>rw[k9,hn],HS.out.mv.zB (fun b _ hb=>⟨(JV.out b hb).2.2.1,.inr (JV.out b hb).1⟩) ht⟩
   clear hle;go_wp2;go_returns;exact HQ.out
  ·have mI:=(tv hn).1;have hgd:=HS.out.gd _ mI;have eP:Hid (vM n pb db w o d L N (fun _=>False) fb sb St (bX m v) c w2 o2 d2):=ae (HS.out.turned JV.out ht hF2 (fun b hb=>.inl hb) (fun b hb=>hb.elim) (fun p hp=>HS.out.gd p (gF.1 hp).1)).1;have HV:Hid (v<N/\dd<9223372036854775808/\v ∉ St):=ae hgd;have HMN:Hid (Jf Wr.heap[sb]? = St.length):=ae HS.out.st.Jf;have HRK:Hid (R=if St.length=16 then false else if most<dd then false else if v=t then true else k9 (aX es) A t most (16-(St.length+1)) (ir A (v::St) dd (bX m v) (aX es v)) (v::St)):=ae (by
    rw[<- Qh.out];by_cases YJ:St.length=16
    ·rw[if_pos YJ,YJ];rfl
    ·rw[if_neg YJ,show 16-St.length=(16-(St.length+1))+1 by have:=HC.out;omega,k9,hn])
   clear hle mI hgd hn hF2 ht HS JV HK;by_cases jq:most<dd
   ·have hmz:(dd:Int)>(most:Int):=by omega
    have HQ:Hid (oY n pb db w o d L R (.returned (.tuple #[.bool false,.int .i64 0])) w2):=ae ⟨d2,o2,by rw[HRK.out];simp_all,eP.out.mv⟩;go_wp2;go_returns;exact HQ.out
   ·have hmz:¬(dd:Int)>(most:Int):=by omega
    by_cases YJ:St.length=16
    ·have hsz:(St.length:Int)=16:=by omega
     have HQ:Hid (oY n pb db w o d L R (.returned (.tuple #[.bool false,.int .i64 0])) w2):=ae ⟨d2,o2,by rw[HRK.out,if_pos YJ],eP.out.mv⟩;go_wp2_with (refine oq _ rfl _ rfl Tryz.underlying243 sb St rfl eP.out.st ?_);go_returns;exact HQ.out
    ·have hsz:¬(St.length:Int)=16:=by omega
     by_cases hvt:v=t
     ·have HQ:Hid (oY n pb db w o d L R (.returned (.tuple #[.bool true,.int .i64 0])) w2):=ae ⟨d2,o2,by rw[HRK.out,if_neg YJ,if_neg jq,if_pos hvt],eP.out.mv⟩;have hvz:(v:Int)=(t:Int):=by omega
      go_wp2_with (refine oq _ rfl _ rfl Tryz.underlying243 sb St rfl eP.out.st ?_);go_returns;exact HQ.out
     ·have hvz:¬(v:Int)=(t:Int):=by omega
      have Bp:Hid (k9 (aX es) A t most (16-(St.length+1)) (ir A (v::St) dd (bX m v) (aX es v)) (v::St)=R):=ae (by rw[HRK.out,if_neg YJ,if_neg jq,if_neg hvt]);have hout:=ae (aaz.out w2 o2 d2 eP.out.mv v HV.out.1);have H16:Hid (St.length<16):=ae (by have:=HC.out;omega);have HG:=ae (fU (k:=v) (by have:=HN.out;have:=HV.out;omega));clear HRK;unfold jD at hout;go_wp2_with (refine oq _ rfl _ rfl Tryz.underlying243 sb St rfl eP.out.st ?_);refine hout.out.mono ?_;rintro e w3⟨ev,d3,o3,rfl,eE,hown,fR⟩;obtain⟨ea,ec,rfl⟩:=aA hown;have fF:Hid (vM n pb db w o d L N (fun b=>(Value.slice ea (aX es v).length ec).ownBlock=some b) fb sb St (bX m v) c w3 o3 d3):=ae ((eP.out.fresh.moved eE).wider (fun b hb _=>(aL hown b hb).2) (Nat.le_refl _));have Pv:=ae hown;have s7:Hid (∀b,(Value.slice ea (aX es v).length ec).ownBlock=some b->b≠sb):=ae (fun b hb=>by
       have h1:=aL hown b hb;have h2:=eP.out.st.lt;omega)
      clear eE hown fR hout eP hmz hsz hvz;obtain⟨M,hM⟩:∃M,M=(aX es v).length:=⟨_,rfl⟩;rw[<- hM]at fF Pv s7 ⊢;have HM:Hid (M=(aX es v).length/\M<=1000):=ae ⟨hM,by rw[hM];exact Nat.le_trans (nH es v) H.out.len⟩;clear hM;go_wp2_with (at_mapUpdate;refine eL _ rfl _ _ _ _ rfl 245 cd dr Tryz.underlying243 sb _ rfl fF.out.st v () rfl rfl HG.out ?_;intro es4 TB eX;have gC:=ae eX;clear eX);have gD:=ae (fF.out.settled HV.out.2.2 gC.out (fun p hp=>(gF.1 hp).2));have Tt:Hid (aJ (setBlock w3 sb (.map es4 TB)) w2.heap.size (.slice ea M ec) (aX es v)):=ae (bH Pv.out (fun b hb=>bg _ (s7.out b hb)));clear gC fF Pv s7 HG;generalize setBlock w3 sb (.map es4 TB)=W4 at *;go_loopw [72] (fun vi wr=>∃(j:Nat)(m':vL),vi=.int .i64 (j:Int)/\j<=M/\Hid (vM n pb db w o d L N (fun b=>(Value.slice ea M ec).ownBlock=some b) fb sb (v::St) m' (c+j) wr o3 d3)/\Hid (m'=ir A (v::St) dd (bX m v) ((aX es v).take j))/\Hid (aJ wr w2.heap.size (.slice ea M ec) (aX es v))) (fun vi _=>M-(intOf vi).toNat)
      case atStart=>exact⟨0,bX m v,rfl,Nat.zero_le _,gD,ae rfl,Tt⟩
      case round=>
       obtain⟨j,m',rfl,hj,b7,lL,WV⟩:=hrel;clear gD Tt;generalize wr=Wq at *;by_cases hlt:j<M
       ·have JX:(j:Int)<(M:Int):=by omega
        have wj:IntKind.i64.wrap ((j:Int)+1)=((j+1:Nat):Int):=by grind [Hid.out,aw]
        obtain⟨x,hx⟩:∃x,(aX es v)[j]? = some x:=⟨_,List.getElem?_eq_getElem (by grind [Hid.out])⟩;have HX:=ae hx;have HXN:Hid (x.h.toNat<N/\x.h.toNat<4294967296):=ae ⟨(H.out.ends x (Bo (List.mem_of_getElem? hx)).1).2,x.h.toNat_lt⟩;obtain⟨g,rfl⟩:∃g,ea=some ⟨g,0,none⟩:=by
         obtain⟨-,⟨h1,h2⟩|⟨g,_,_,h1,_⟩⟩:=WV.out
         ·grind
         grind
        have afE:Hid (aJ Wq w2.heap.size (.slice (some ⟨g,0,none⟩) (aX es v).length ec) (aX es v)):=ae (by grind [Hid.out]);obtain⟨q0,q1,q2,q3⟩:=bK afE.out hx;have HGX:=ae (fU HXN.out.2);have gH:=ae (b7.out.below (ak.alloc (Nat.le_refl _) (.cells #[.int .u32 (x.t.toNat:Int),.int .u32 (x.h.toNat:Int),.int .u64 (x.x.toNat:Int),.int .u32 (x.m.toNat:Int)] 64)));have WW:Hid (aJ (Wq.alloc (.cells #[.int .u32 (x.t.toNat:Int),.int .u32 (x.h.toNat:Int),.int .u64 (x.x.toNat:Int),.int .u32 (x.m.toNat:Int)] 64)) w2.heap.size (.slice (some ⟨g,0,none⟩) M ec) (aX es v)):=ae (aW WV.out aj);have Zs:Hid ((Wq.alloc (.cells #[.int .u32 (x.t.toNat:Int),.int .u32 (x.h.toNat:Int),.int .u64 (x.x.toNat:Int),.int .u32 (x.m.toNat:Int)] 64)).heap[Wq.heap.size]? = some (.cells #[.int .u32 (x.t.toNat:Int),.int .u32 (x.h.toNat:Int),.int .u64 (x.x.toNat:Int),.int .u32 (x.m.toNat:Int)] 64)):=ae (heap_alloc_new _ _);have lq:=ae (I1 dd x.x.toNat (by grind [Hid.out]) x.x.toNat_lt (Wq.alloc (.cells #[.int .u32 (x.t.toNat:Int),.int .u32 (x.h.toNat:Int),.int .u64 (x.x.toNat:Int),.int .u32 (x.m.toNat:Int)] 64)));clear hx afE;go_wp2_with fail;refine lq.out.mono ?_;rintro e w7⟨rfl,rfl⟩;clear q0 q1 q2 q3 lq;generalize Gl:Wq.heap.size=xb at *;generalize Wq.alloc (.cells #[.int .u32 (x.t.toNat:Int),.int .u32 (x.h.toNat:Int),.int .u64 (x.x.toNat:Int),.int .u32 (x.m.toNat:Int)] 64)=W6 at *;clear Gl b7 WV;have k1:W6.cell? ⟨xb,1,none⟩=some (.int .u32 (x.h.toNat:Int)):=by rw[ar Zs.out];rfl
        have k2:=(Array.getElem?_eq_some_iff.1 Zs.out).1;by_cases iA:dd+x.x.toNat<9223372036854775808
        ·have LS:LJ dd x.x.toNat=.tuple #[.int .u64 ((dd+x.x.toNat:Nat):Int),.bool true]:=if_pos iA;rw[LS];obtain⟨s,hs⟩:∃s,s=dd+x.x.toNat:=⟨_,rfl⟩;rw[<- hs]at iA ⊢;have Ny:=ae hs;have Gd:=ae iA;clear LS hs iA;by_cases WX:x.h.toNat∈v::St
         ·have TC:Hid (decide (x.h.toNat∈v::St)=true):=ae (decide_eq_true WX);have UW:=ae WX;clear WX;have j5:Hid (vM n pb db w o d L N (fun b=>(Value.slice (some ⟨g,0,none⟩) M ec).ownBlock=some b) fb sb (v::St) m' (c+(j+1)) (W6.alloc (.cells #[] 245)) o3 d3):=ae ((gH.out.below aj).wider (fun _ e _=>e) af);have abf:Hid (aJ (W6.alloc (.cells #[] 245)) w2.heap.size (.slice (some ⟨g,0,none⟩) M ec) (aX es v)):=ae (aW WW.out aj);have BZ:Hid (m'=ir A (v::St) dd (bX m v) ((aX es v).take (j+1))):=ae (by rw[nG HX.out,if_neg (fun e=>e.2.1 UW.out)];assumption);go_wp2_with (at_lookup;refine bY _ rfl _ _ _ _ rfl 245 cd dr Tryz.underlying243 (HZU.out _) sb _ rfl gH.out.st x.h.toNat rfl HGX.out ?_;rw[uZ,rN];try rw[TC.out]);go_roundw
          case rel=>exact⟨j+1,m',by go_num,af,j5,BZ,abf⟩
          grind [intOf]
         ·have TC:Hid (decide (x.h.toNat∈v::St)=false):=ae (decide_eq_false WX);have UW:=ae WX;clear WX;have rY:Hid (Below W6.heap.size W6 (W6.alloc (.cells #[] 245))):=ae aj;have j5:=ae (gH.out.below rY.out);have hsh:=ae (H.out.afC _ x.h.toNat (fun b hb=>j5.out.mv.block (H.out.pU b hb).1 (H.out.pU b hb).2 (fun e=>e)) j5.out.mv.size HXN.out.2);go_wp2_with (at_lookup;refine bY _ rfl _ _ _ _ rfl 245 cd dr Tryz.underlying243 (HZU.out _) sb _ rfl gH.out.st x.h.toNat rfl HGX.out ?_;rw[uZ,rN];try rw[TC.out]);refine hsh.out.mono ?_;rintro e w8⟨rfl,P4⟩;have jK:=ae (j5.out.below P4);have WY:=ae (aW (aW WW.out rY.out) P4);have k3:w8.cell? ⟨xb,1,none⟩=some (.int .u32 (x.h.toNat:Int)):=Bc P4 (Bc rY.out k1);clear hsh P4 j5 WW k1 k2;by_cases hA:A x.h.toNat=true
          ·rw[hA];have sf:Hid (m'=ir A (v::St) dd (bX m v) ((aX es v).take (j+1))):=ae (by rw[nG HX.out,if_neg (fun e=>by simp_all)];assumption);have qs:Hid (vM n pb db w o d L N (fun b=>(Value.slice (some ⟨g,0,none⟩) M ec).ownBlock=some b) fb sb (v::St) m' (c+(j+1)) w8 o3 d3):=ae (jK.out.wider (fun _ e _=>e) af);clear hA;go_wp2;go_roundw
           case rel=>exact⟨j+1,m',by go_num,af,qs,sf,WY⟩
           grind [intOf]
          ·have hAb:A x.h.toNat=false:=by simp_all
           rw[hAb];obtain⟨B,hF,hB⟩:=jK.out.fr;have hcm:=ae (I0 hF (by have:=HC.out;have:=HM.out;omega) x.h.toNat s HXN.out.2);have JV:=ae hB;have HAB:=ae hAb;clear hF hB hA hAb;unfold ptrTo Bf at hcm;go_wp2_with fail;refine hcm.out.mono ?_;rintro e w9⟨rfl,hf9,ht9⟩;obtain⟨fs9,hk9⟩:=jK.out.turned JV.out ht9 hf9 (fun b hb=>hb) (fun b hb=>(aL WY.out b hb).1) (fun p hp=>(Py hp).elim (jK.out.gd p) (fun e=>by rw[e];exact⟨HXN.out.1,Gd.out,UW.out⟩));have qs:Hid (vM n pb db w o d L N (fun b=>(Value.slice (some ⟨g,0,none⟩) M ec).ownBlock=some b) fb sb (v::St) (nz m' x.h.toNat s) (c+(j+1)) w9 o3 d3):=ae fs9;have akW:=ae (bH WY.out (fun b hb=>hk9 b hb));have Nk:Hid (nz m' x.h.toNat s=ir A (v::St) dd (bX m v) ((aX es v).take (j+1))):=ae (by rw[nG HX.out,if_pos ⟨by rw[<- Ny.out];assumption,UW.out,HAB.out⟩,<- lL.out,Ny.out]);clear hcm hf9 ht9 fs9 hk9 jK WY k3;go_wp2;go_roundw
           case rel=>exact⟨j+1,_,by go_num,af,qs,Nk,akW⟩
           grind [intOf]
        ·have LS:LJ dd x.x.toNat=.tuple #[.int .u64 0,.bool false]:=if_neg iA;rw[LS];have Gd:=ae iA;clear LS iA;have TC:=ae (Eq.refl 0);have j5:Hid (vM n pb db w o d L N (fun b=>(Value.slice (some ⟨g,0,none⟩) M ec).ownBlock=some b) fb sb (v::St) m' (c+(j+1)) (W6.alloc (.cells #[] 245)) o3 d3):=ae ((gH.out.below aj).wider (fun _ e _=>e) af);have abf:Hid (aJ (W6.alloc (.cells #[] 245)) w2.heap.size (.slice (some ⟨g,0,none⟩) M ec) (aX es v)):=ae (aW WW.out aj);have BZ:Hid (m'=ir A (v::St) dd (bX m v) ((aX es v).take (j+1))):=ae (by rw[nG HX.out,if_neg (fun e=>Gd.out e.1)];assumption);go_wp2_with (at_lookup;refine bY _ rfl _ _ _ _ rfl 245 cd dr Tryz.underlying243 (HZU.out _) sb _ rfl gH.out.st x.h.toNat rfl HGX.out ?_;rw[uZ,rN];try rw[TC.out]);go_roundw
         case rel=>exact⟨j+1,m',by go_num,af,j5,BZ,abf⟩
         grind [intOf]
       ·have JX:¬(j:Int)<(M:Int):=by omega
        have jK:Hid (vM n pb db w o d L N (fun _=>False) fb sb (v::St) m' (c+j) Wq o3 d3):=ae (b7.out.wider (fun _ e _=>e.elim) (Nat.le_refl _));have HR8:Hid (k9 (aX es) A t most (16-(v::St).length) m' (v::St)=R):=ae (by
         grind [Hid.out])
        have HC8:Hid (c+j<=1+(v::St).length*1000/\(v::St).length<=16):=ae (by
         grind [Hid.out])
        have Qr:Hid (16-Jf Wq.heap[sb]? < 16-Jf Wr.heap[sb]?):=ae (by
         rw[jK.out.st.Jf,HMN.out,List.length_cons];grind [Hid.out])
        clear b7 lL WV;go_wp2;go_roundw
        case rel=>exact⟨_,_,_,_,_,jK,HC8,HR8⟩
        assumption
end
end
section
open Go.RowKit Go.Maps
theorem LU(l:List aD):∀u∈dD l,u.oneCell'=true:=by
 induction l with
 |nil=>intro u hu;cases hu
 |cons x l ih=>
   intro u hu;rw[dD,List.mem_append]at hu;rcases hu with hu | hu
   ·simp[aD.cells]at hu;rcases hu with rfl | rfl | rfl | rfl<;>rfl
   ·exact ih u hu
theorem WZ{w:World}{b off n cap:Nat}{es:List aD}(h:kC w (.slice (some ⟨b,off,none⟩) n cap) es):∀j u,(dD es)[j]? = some u->w.cell? ((⟨b,off,none⟩:Addr).add j)=some u:=by
 intro j u hj;obtain⟨-,hc⟩:=oV h;have lQ:=aN hj;rw[nW]at lQ;have hi:j/4<es.length:=by omega
 obtain⟨b',off',he,h1,h2,h3,h4⟩:=hc w ak (j/4) es[j/4] (List.getElem?_eq_getElem hi);cases he;have hg:=mo (List.getElem?_eq_getElem hi) (j:=j%4) af;rw[show j/4*4+j%4=j by omega,hj]at hg;rw[bI];have akY:j%4=0\/j%4=1\/j%4=2\/j%4=3:=by omega
 rcases akY with e | e | e | e
 ·rw[e]at hg;cases hg;rw[show off+j=off+j/4*4 by omega];exact h1
 ·rw[e]at hg;cases hg;rw[show off+j=off+j/4*4+1 by omega];exact h2
 ·rw[e]at hg;cases hg;rw[show off+j=off+j/4*4+2 by omega];exact h3
 ·rw[e]at hg;cases hg;rw[show off+j=off+j/4*4+3 by omega];exact h4
theorem gy{w:World}{ops:Array Oper}{rest:List Oper}{op:Oper}{a:Act}{Q:Exit->Act->World->Prop}(hgd:op.guard=none)(s x:Operand)(ho:op.op=.call { callee:=.builtin .append,args:=#[s,x],argTypes:=#[22,22] })(base:Nat)(v:Value)(l:List aD)(hs:a.eval s=v)(hown:aJ w base v l)(u:Value)(es:List aD)(hx:a.eval x=u)(hr:kC w u es)(hl:l.length+es.length<=100000)(hbase:base<=w.heap.size)(k:∀v' w',aJ w' base v' (l++es)->mr v w w' v'->wpList prog ops Q rest (a.put op.dst v') w'):wpList prog ops Q (op::rest) a w:=by
 have hrw:=hr;obtain⟨ad,cap,rfl,hc⟩:=hrw;cases ad with
 |some ad=>
   have lW:∀j u,(dD es)[j]? = some u->w.cell? (ad.add j)=some u:=fun j u hj=>by
    have lQ:=aN hj;rw[nW]at lQ;rcases hc with h0 |⟨b,off,ha,_⟩
    ·omega
    ·cases ha;exact WZ hr j u hj
   refine dO hgd s x 22 ho base 64 _ 4 24 Tryz.underlying22 rI rfl ag v l.length (dD l) hs hown ad es.length cap (dD es) hx (nW es) lW (LU es) (by unfold maxLen;omega) af hbase (fun v' w' h1 h2=>k v' w' ?_ h2);unfold aJ;rw[nY,List.length_append];exact h1
 |none=>
   have h0:es=[]:=by
    rcases hc with hc |⟨b,off,ha,_⟩
    ·exact List.length_eq_zero_iff.1 hc
    ·cases ha
   subst h0;obtain⟨i0,tK,hz0,hz1,hz2⟩:=info_parts rI;have Kj:∀ad,(storeCells ad []).run prog w=.ok () w:=fun _=>rfl;obtain⟨va,vc,Cz⟩:∃va vc,v=.slice va l.length vc:=aA hown;subst Cz;refine wpList_plain hgd fun K hK=>?_;have GL:l.length<=vc:=by
    rcases ck hown with⟨h1,h2⟩|⟨g,c,h1,_,h2,_⟩
    ·rw[h1];exact Nat.zero_le _
    ·cases h1;exact h2
   have hrun:(Builtin.append_ #[22,22] op.type #[.slice va l.length vc,.slice none ([]:List aD).length cap]).run prog w=.ok (.slice va l.length vc) w:=by
    cases va with
    |none=>simp[Builtin.append_,run_underlying Tryz.underlying22,sizeOf,typeInfo,tK,Builtin.lenOf,Builtin.firstCells,GL]
    |some va=>simp[Builtin.append_,run_underlying Tryz.underlying22,sizeOf,typeInfo,tK,Builtin.lenOf,Builtin.firstCells,Kj,GL]
   unfold Oper.wp execOp;simp only[ho,resolve,invoke,builtin,Sem.run_bind,Sem.run_pure,Result.andThen_ok,List.map_toArray,List.map_cons,List.map_nil,hs,hx,hrun];refine hK _ _ (k _ _ (by rw[List.append_nil];exact hown) ⟨⟨rfl,rfl,rfl,Nat.le_refl _,fun _ _ _=>rfl⟩,.inl rfl⟩)
theorem q7(w:World):aJ (w.alloc (.cells #[] 64)) w.heap.size (.slice (some ⟨w.heap.size,0,none⟩) 0 0) []:=
 ⟨by simp[dD],.inr ⟨w.heap.size,0,#[],rfl,Nat.le_refl _,heap_alloc_new w _,Nat.le_refl _,Nat.zero_le _,ai,by simp[dD]⟩⟩
theorem kC.take{w:World}{a:Option Addr}{n cap k:Nat}{es:List aD}(h:kC w (.slice a n cap) es)(hk:k<=es.length):kC w (.slice a k cap) (es.take k):=by
 obtain⟨a',cap',he,hc⟩:=h;cases he;have hl:(es.take k).length=k:=by rw[List.length_take];omega
 refine⟨a,cap,by rw[hl],?_⟩;rcases hc with hc |⟨b,off,rfl,hc⟩
 ·exact .inl af
 ·exact .inr ⟨b,off,rfl,fun j x hx=>hc j x (by rw[List.getElem?_take]at hx;split at hx;exact hx;cases hx)⟩
theorem kC.drop{w:World}{b off n cap k:Nat}{es:List aD}(h:kC w (.slice (some ⟨b,off,none⟩) n cap) es)(hk:k<=es.length)(c:Nat):kC w (.slice (some ⟨b,off+k*4,none⟩) (n-k) c) (es.drop k):=by
 obtain⟨a',cap',he,hc⟩:=h;cases he;have hl:(es.drop k).length=es.length-k:=List.length_drop ..;refine⟨_,c,by rw[hl],?_⟩;rcases hc with hc |⟨b',off',he,hc⟩
 ·exact .inl af
 ·cases he;refine .inr ⟨b,off+k*4,rfl,fun j x hx=>?_⟩;rw[List.getElem?_drop]at hx;have:=hc (k+j) x hx;rw[show off+k*4+j*4=off+(k+j)*4 by omega];exact this
theorem kC.none{w:World}{a:Option Addr}{cap:Nat}:kC w (.slice a 0 cap) []:=⟨a,cap,rfl,.inl rfl⟩
theorem gP{W0 W W':World}{v v':Value}(hb:Below W0.heap.size W0 W)(hv:∀y,v.ownBlock=some y->W0.heap.size<=y)(ha:mr v W W' v'):Below W0.heap.size W0 W'/\∀y,v'.ownBlock=some y->W0.heap.size<=y:=by
 obtain⟨hg,h⟩:=ha;have hs:=hb.size;refine⟨hb.trans ⟨hg.os,hg.tape,hg.output,hg.size,fun x hx=>hg.block x af (fun e=>?_)⟩,fun y hy=>?_⟩
 ·have:=hv x e.symm;omega
 ·rcases h with h | h
  ·rw[h]at hy;exact hv y hy
  ·rw[h]at hy;cases hy;exact hs
def LW(w:World)(b:Bool)(r:List aD)(i:Nat)(v:Value)(W:World):Prop:=∃out:List aD,aJ W w.heap.size v out/\dJ b (r.take i) out/\out.length<=i/\Below w.heap.size w W
theorem LX(v:Value)(es:List aD)(b:Bool)(w:World)(hv:kC w v es)(hl:es.length<=10000):Calls prog 46 #[v,.int .i64 (mh b:Int)] w (I8 w (aC b es)):=by
 have afG:=ae (LL v es w hv hl);have JR:(aC false es).length<=10000:=Nat.le_trans (b8 _ _) hl;have kR:=ae (bL false es);have aaM:Hid (∀out,dJ b (aC false es) out->out=aC b es):=ae (fun out h=>by rw[h.eq,I5]);obtain⟨va,vn,vc,rfl⟩:∃a n c,v=.slice a n c:=by
  obtain⟨a,c,rfl,_⟩:=hv;exact⟨a,_,c,rfl⟩
 clear hv hl;generalize aC false es=r at *;obtain⟨bn,Lh⟩:∃bn:Int,bn=(mh b:Int):=⟨_,rfl⟩;have aM:=ae (fun W x y=>I7 b x y W);rw[<- Lh]at aM ⊢;clear Lh;go_enter func46,ntmps46;go_wp2_with fail;refine afG.out.mono ?_;rintro e w1⟨rv,rfl,hr1,hb1⟩;have nN:=ae hr1;have cO:=ae hb1;obtain⟨ra,rc,rfl⟩:∃ra rc,rv=.slice ra r.length rc:=aA hr1;have RF:=ae (nC hr1);obtain⟨-,lW⟩:=oV RF.out;have HC:=ae lW;have HX:Hid (∀i,i<r.length->∃x,r[i]? = some x):=ae (fun i hi=>⟨_,List.getElem?_eq_getElem hi⟩);have Co:Hid (r.take r.length=r):=ae (List.take_of_length_le (Nat.le_refl _));clear lW hr1 hb1 afG;generalize hN:r.length=N at *;have HN:=ae hN;clear hN;go_wp2;go_loopw [5,7] (fun ov iv W=>∃i:Nat,i<=N/\iv=.int .i64 (i:Int)/\LW w1 b r i ov W) (fun _ iv _=>N-(intOf iv).toNat)
 case atStart=>exact⟨0,Nat.zero_le _,rfl,[],World.ownsRow_nil _ _ _ _,dJ.nil _,Nat.le_refl _,Below.refl _ _⟩
 case round=>
  generalize u5=ov at *;generalize wr=W1 at *;obtain⟨i,hi,rfl,out,hr,AR,hol,hb⟩:=hrel;have HR:=ae hr;have nu:=ae AR;have HB:=ae hb;have hz:w1.heap.size<=W1.heap.size:=hb.size;clear hr AR hb;by_cases hlt:i<N
  ·obtain⟨x,hx⟩:=HX.out i hlt;have HXX:=ae hx;have qT:=ae (rM hx);obtain⟨re,ro,rfl,-⟩:=HC.out W1 HB.out i x hx;have Nv:Hid (∀W,Below W1.heap.size W1 W->W.cell? ⟨re,ro+i*4,none⟩=some (.int .u32 (x.t.toNat:Int))/\W.cell? ⟨re,ro+i*4+1,none⟩=some (.int .u32 (x.h.toNat:Int))/\W.cell? ⟨re,ro+i*4+2,none⟩=some (.int .u64 (x.x.toNat:Int))/\W.cell? ⟨re,ro+i*4+3,none⟩=some (.int .u32 (x.m.toNat:Int))):=ae (fun W hB=>by
    obtain⟨b',o',e,g⟩:=HC.out W (HB.out.trans (hB.mono HB.out.size)) i x HXX.out;cases e;exact g)
   obtain⟨oa,oc,Cz⟩:∃oa oc,ov=.slice oa out.length oc:=aA HR.out;subst Cz;have MP:Hid (∀W,Below W1.heap.size W1 W->kC W (.slice oa out.length oc) out):=ae (fun W hB=>(nC HR.out).below hB);have Oy:out.length<=oc/\oc<=maxLen:=by
    rcases ck HR.out with⟨h1,h2⟩|⟨g,c,h1,_,h2,h3⟩
    ·rw[h1];exact⟨Nat.zero_le _,by injection h2 with _ _ e3;rw[e3];exact Nat.zero_le _⟩
    ·cases h1;exact⟨h2,h3⟩
   obtain⟨akZ,Lf⟩:=Oy;unfold maxLen at Lf;have J3:Hid (∀j,j<out.length->∃o,out[j]? = some o):=ae (fun j hj=>⟨_,List.getElem?_eq_getElem hj⟩);have ZA:Hid (∀o∈out,pk b o≠pk b x):=ae (fun o ho e=>by
    have h1:=(nu.out.mem o ho).1;obtain⟨j,hj,rfl⟩:=List.getElem_of_mem h1;rw[List.getElem_take]at e;rw[List.length_take]at hj;have e':pk false r[j]=pk false x:=iL.2 (iL.1 e);have h2:=fB kR.out.gU (show j<i by omega) (List.getElem?_eq_getElem af) HXX.out;omega)
   have Jb:Hid (x.t≠x.h):=ae (kR.out.mem x (List.mem_of_getElem? HXX.out)).2.1;clear hx;generalize QP:out.length=n0 at *;have k7:=ae QP;clear QP;go_wp2;go_loopw [8] (fun kv W=>∃k:Nat,k<=n0/\kv=.int .i64 (k:Int)/\(∀(j:Nat)(o:aD),j<k->out[j]? = some o->pk b o<pk b x)/\Below W1.heap.size W1 W) (fun kv _=>n0-(intOf kv).toNat)
   case atStart=>exact⟨0,Nat.zero_le _,rfl,(fun j o hj=>absurd hj (Nat.not_lt_zero _)),Below.refl _ _⟩
   case round=>
    generalize wr=W2 at *;obtain⟨k,hk,rfl,JQ,hb2⟩:=hrel;have Qj:=ae JQ;have cY:=ae hb2;clear JQ hb2;by_cases yS:k<n0
    ·obtain⟨o,ho⟩:=J3.out k yS;have HO:=ae ho;clear ho;obtain⟨-,hcc⟩:=oV (by rw[<- k7.out]at MP;exact MP.out W2 cY.out);obtain⟨oe,oo,rfl,-⟩:=hcc W2 ak k o HO.out;have HOW:Hid (∀W,Below W2.heap.size W2 W->W.cell? ⟨oe,oo+k*4,none⟩=some (.int .u32 (o.t.toNat:Int))/\W.cell? ⟨oe,oo+k*4+1,none⟩=some (.int .u32 (o.h.toNat:Int))/\W.cell? ⟨oe,oo+k*4+2,none⟩=some (.int .u64 (o.x.toNat:Int))/\W.cell? ⟨oe,oo+k*4+3,none⟩=some (.int .u32 (o.m.toNat:Int))):=ae (fun W hB=>by
      obtain⟨g',o',e,r⟩:=hcc W hB k o HO.out;cases e;exact r)
     clear hcc;have LY:=ae (fun W=>aM.out W o x);obtain⟨rr,jO⟩:∃r:Bool,r=decide (pk b o<pk b x):=⟨_,rfl⟩;rw[<- jO]at LY;have Qh:=ae jO;clear jO;go_wp2_with fail;refine wq W2 ?_;iterate 8 (refine qz ?_)
     refine qz ?_ (fun w' hw'=>by obtain⟨e0,e1,e2,e3⟩:=HOW.out w' hw';go_simp<;>rfl);iterate 3 (refine qz ?_)
     refine qz ?_ (fun w' hw'=>by obtain⟨e0,e1,e2,e3⟩:=Nv.out w' (cY.out.trans (hw'.mono cY.out.size));go_simp<;>rfl);refine qz ?_;refine qw (fun w' hw'=>(LY.out w').mono fun e w'' ⟨he,hb⟩=>⟨he,hw'.trans (hb.mono hw'.size)⟩) ?_;refine qz ?_;refine wpQuiet_nil ?_;intro W3 hb3;have jJ:=ae (cY.out.trans (hb3.mono cY.out.size));clear hb3 LY HOW;cases rr with
     |true=>
       have aa4:Hid (∀(j:Nat)(o':aD),j<k+1->out[j]? = some o'->pk b o'<pk b x):=ae (fun j o' hj jM=>by
        rcases Nat.lt_or_ge j k with h | h
        ·exact Qj.out j o' h jM
        ·obtain rfl:j=k:=by omega
         rw[HO.out]at jM;rw[<- Option.some.inj jM];exact of_decide_eq_true Qh.out.symm)
       go_wp2;go_roundw
       case rel=>exact⟨k+1,af,by go_num,aa4.out,jJ.out⟩
       case measure=>simp[intOf];omega
     |false=>
       have LM:Hid (dJ b (r.take (i+1)) (out.take k++x::out.drop k)):=ae (by
        rw[qT.out];refine nu.out.lay Jb.out (by rw[k7.out];exact hk) Qj.out (fun j o' hj jM=>?_);have h0:=ZA.out o (List.mem_of_getElem? HO.out);have h1:=of_decide_eq_false Qh.out.symm;rcases Nat.eq_or_lt_of_le hj with rfl | hlt
        ·rw[HO.out]at jM;rw[<- Option.some.inj jM];omega
        ·have:=fB nu.out.gU hlt HO.out jM;omega)
       have mM:=jJ;have TD:Hid (aJ (W3.alloc (.cells #[] 64)) w1.heap.size (.slice (some ⟨W3.heap.size,0,none⟩) 0 0) []):=ae (aU (q7 W3) (Nat.le_trans hz mM.out.size));have abh:Hid (kC (W3.alloc (.cells #[] 64)) (.slice (some ⟨oe,oo,none⟩) k oc) (out.take k)):=ae ((MP.out _ (mM.out.alloc mM.out.size _)).take (by rw[k7.out];exact hk));have hlk:([]:List aD).length+(out.take k).length<=100000:=by rw[List.length_take,List.length_nil];omega
       have hzX:w1.heap.size<=(W3.alloc (.cells #[] 64)).heap.size:=by have:=mM.out.size;simp;omega
       go_wp2_with (at_builtin;refine gy rfl _ _ rfl w1.heap.size _ [] rfl TD.out _ (out.take k) rfl abh.out hlk hzX ?_);intro v4 W4 hr4 La;obtain⟨hb4,hv4⟩:=gP ((Below.refl W3.heap.size W3).alloc (Nat.le_refl _) _) (fun y hy=>by cases hy;exact Nat.le_refl _) La;have MR:Hid (aJ W4 w1.heap.size v4 (out.take k)):=ae (by rw[<- List.nil_append (out.take k)];exact hr4);have oB:=ae (mM.out.trans (hb4.mono mM.out.size));have Hv:=ae hb4;have KD:=ae hv4;obtain⟨x0,x1,x2,x3⟩:=Nv.out W4 oB.out;have abi:(out.take k).length<=100000:=by rw[List.length_take];omega
       have vF:w1.heap.size<=W4.heap.size:=Nat.le_trans hz oB.out.size;clear hr4 La hb4 hv4;go_wp2_with (at_builtin;refine cQ rfl _ _ rfl w1.heap.size _ (out.take k) rfl MR.out x 1 rfl abi vF ?_);intro v5 W5 Lx J1;obtain⟨pj,U5⟩:=gP (Hv.out.alloc Hv.out.size _) KD.out J1;have DW:=ae Lx;have E5:=ae (mM.out.trans (pj.mono mM.out.size));have abj:=ae pj;have Oo:=ae U5;have UL:w1.heap.size<=W5.heap.size:=Nat.le_trans hz E5.out.size;have Xa:(out.take k++[x]).length+(out.drop k).length<=100000:=by rw[List.length_append,List.length_take,List.length_drop,List.length_singleton,k7.out];omega
       clear Lx J1 pj U5 x0 x1 x2 x3;have HDR:Hid (kC W5 (.slice (some ⟨oe,oo+k*4,none⟩) (n0-k) (oc-k)) (out.drop k)):=ae (by
        have:=MP.out W5 E5.out;exact kC.drop this (by rw[k7.out];exact hk) _)
       go_wp2_with (at_builtin;refine gy rfl _ _ rfl w1.heap.size _ (out.take k++[x]) rfl DW.out _ (out.drop k) rfl HDR.out Xa UL ?_);intro v6 W6 Bi LN;obtain⟨Gg,-⟩:=gP abj.out Oo.out LN;have Kt:Hid (aJ W6 w1.heap.size v6 (out.take k++x::out.drop k)):=ae (by
        exact Bi)
       have TE:=ae (HB.out.trans (mM.out.mono hz));have nw:=ae (TE.out.trans (Gg.mono TE.out.size));clear Bi LN Gg;go_wp2;go_roundw
       case rel=>exact⟨i+1,af,by go_num,out.take k++x::out.drop k,Kt.out,LM.out,by rw[List.length_append,List.length_cons,List.length_take,List.length_drop,k7.out];omega,nw.out⟩
       case measure=>simp[intOf];omega
    ·obtain rfl:n0=k:=by omega
     have LM:Hid (dJ b (r.take (i+1)) (out.take n0++x::out.drop n0)):=ae (by
      rw[qT.out];refine nu.out.lay Jb.out (by rw[k7.out];exact Nat.le_refl _) Qj.out (fun j o' hj jM=>?_);have:=aN jM;rw[k7.out]at this;omega)
     have hdd:decide ((n0:Int)<(n0:Int))=false:=decide_eq_false af;have aa9:decide (n0<n0)=false:=decide_eq_false af;rcases Nat.eq_or_lt_of_le akZ with hcN | hcN;case' inl=>subst hcN
     all_goals
      go_wp2_with fail;go_quiet (fail)
      have hb3:Below W2.heap.size W2 (W2.drewN nq):=below_drewN ak _;have mM:=ae (cY.out.trans (hb3.mono cY.out.size));clear hb3 hdd aa9;generalize W2.drewN nq=W3 at *;have TD:Hid (aJ (W3.alloc (.cells #[] 64)) w1.heap.size (.slice (some ⟨W3.heap.size,0,none⟩) 0 0) []):=ae (aU (q7 W3) (Nat.le_trans hz mM.out.size));have abh:=ae ((MP.out (W3.alloc (.cells #[] 64)) (mM.out.alloc mM.out.size _)).take (k:=n0) (by rw[k7.out];exact hk));have hlk:([]:List aD).length+(out.take n0).length<=100000:=by rw[List.length_take,List.length_nil];omega
      have hzX:w1.heap.size<=(W3.alloc (.cells #[] 64)).heap.size:=by have:=mM.out.size;simp;omega
      go_wp2_with (at_builtin;refine gy rfl _ _ rfl w1.heap.size _ [] rfl TD.out _ (out.take n0) rfl abh.out hlk hzX ?_);intro v4 W4 hr4 La;obtain⟨hb4,hv4⟩:=gP ((Below.refl W3.heap.size W3).alloc (Nat.le_refl _) _) (fun y hy=>by cases hy;exact Nat.le_refl _) La;have MR:Hid (aJ W4 w1.heap.size v4 (out.take n0)):=ae (by rw[<- List.nil_append (out.take n0)];exact hr4);have oB:=ae (mM.out.trans (hb4.mono mM.out.size));have Hv:=ae hb4;have KD:=ae hv4;obtain⟨x0,x1,x2,x3⟩:=Nv.out W4 oB.out;have abi:(out.take n0).length<=100000:=by rw[List.length_take];omega
      have vF:w1.heap.size<=W4.heap.size:=Nat.le_trans hz oB.out.size;clear hr4 La hb4 hv4;go_wp2_with (at_builtin;refine cQ rfl _ _ rfl w1.heap.size _ (out.take n0) rfl MR.out x 1 rfl abi vF ?_);intro v5 W5 Lx J1;obtain⟨pj,U5⟩:=gP (Hv.out.alloc Hv.out.size _) KD.out J1;have DW:=ae Lx;have E5:=ae (mM.out.trans (pj.mono mM.out.size));have abj:=ae pj;have Oo:=ae U5;have UL:w1.heap.size<=W5.heap.size:=Nat.le_trans hz E5.out.size;have Xa:(out.take n0++[x]).length+(out.drop n0).length<=100000:=by rw[List.length_append,List.length_take,List.length_drop,List.length_singleton,k7.out];omega
      clear Lx J1 pj U5 x0 x1 x2 x3;have hdr:out.drop n0=[]:=List.drop_of_length_le (by rw[k7.out];exact Nat.le_refl _);have HDR:=ae hdr;have ak2:=ae Xa;clear hdr Xa;go_wp2_with (at_builtin;refine gy rfl _ _ rfl w1.heap.size _ (out.take n0++[x]) rfl DW.out _ (out.drop n0) rfl (by rw[HDR.out];exact kC.none) ak2.out UL ?_);intro v6 W6 Bi LN;obtain⟨Gg,-⟩:=gP abj.out Oo.out LN;have Kt:Hid (aJ W6 w1.heap.size v6 (out.take n0++x::out.drop n0)):=ae (by
       exact Bi)
      have TE:=ae (HB.out.trans (mM.out.mono hz));have nw:=ae (TE.out.trans (Gg.mono TE.out.size));clear Bi LN Gg;go_wp2;go_roundw
      case rel=>exact⟨i+1,af,by go_num,out.take n0++x::out.drop n0,Kt.out,LM.out,by rw[List.length_append,List.length_cons,List.length_take,List.length_drop,k7.out];omega,nw.out⟩
      case measure=>simp[intOf];omega
  ·obtain rfl:N=i:=by omega
   go_wp2;go_ret;refine⟨_,rfl,?_,cO.out.trans (HB.out.mono cO.out.size)⟩;have h:=nu.out;rw[Co.out]at h;rw[<- aaM.out _ h];exact aU HR.out cO.out.size
end
section
open Go.RowKit Go.Maps Go.MapKept
theorem fG.rd{w:World}{v:Value}{vs:List cj}(h:fG w v vs):WI w v vs:=by
 obtain⟨a,cap,rfl,h1,h2,h⟩:=h;refine⟨a,cap,rfl,h.imp id ?_⟩;rintro⟨b,off,rfl,hc⟩;refine⟨b,off,rfl,fun j x hx=>?_⟩;have hl:=aN hx;rw[List.getElem?_eq_getElem hl]at hx;obtain rfl:=Option.some.inj hx;exact hc j hl
theorem cell_of_heap{w w':World}{b o:Nat}(h:w'.heap[b]? = w.heap[b]?):w'.cell? ⟨b,o,none⟩=w.cell? ⟨b,o,none⟩:=by
 unfold World.cell?;rw[h]
theorem kC.other{w w':World}{v:Value}{es:List aD}(h:kC w v es)(hk:∀b,v.ownBlock=some b->w'.heap[b]? = w.heap[b]?):kC w' v es:=by
 obtain⟨a,cap,rfl,h⟩:=h;refine⟨a,cap,rfl,h.imp id ?_⟩;rintro⟨b,off,rfl,hc⟩;have he:∀o,w'.cell? ⟨b,o,Option.none⟩=w.cell? ⟨b,o,Option.none⟩:=fun o=>cell_of_heap (hk b rfl);refine⟨b,off,rfl,fun j x hx=>?_⟩;obtain⟨q0,q1,q2,q3⟩:=hc j x hx;exact⟨(he _).trans q0,(he _).trans q1,(he _).trans q2,(he _).trans q3⟩
end
section
open Go.RowKit Go.Maps
theorem kC.moved{n pb db:Nat}{w w':World}{o o':au}{d d':Dsk}{L':aH}{v:Value}{es:List aD}(h:kC w v es)(hm:Moved (fun _=>False) n pb db w o d w' o' d' L')(ho:∀b,v.ownBlock=some b->o b=Option.none):kC w' v es:=by
 obtain⟨a,cap,rfl,h⟩:=h;refine⟨a,cap,rfl,h.imp id ?_⟩;rintro⟨b,off,rfl,hc⟩;refine⟨b,off,rfl,fun j x hx=>?_⟩;obtain⟨q0,q1,q2,q3⟩:=hc j x hx;exact⟨hm.cell q0 (ho b rfl) (fun h=>h),hm.cell q1 (ho b rfl) (fun h=>h),hm.cell q2 (ho b rfl) (fun h=>h),hm.cell q3 (ho b rfl) (fun h=>h)⟩
end
section
open Go.RowKit Go.Maps
structure fN(w0 w:World)(pb db n:Nat)(o:au)(d:Dsk)(L:aH)(gb gen N ob ib vb:Nat)(es:List aD):Prop where
 held:Held w0 w pb db n o d L
 need:need L<=131072
 gr:dH w o gb pb gen N ob ib vb
 file:aB L (aK 101 gen)=some (ax (aC false es) true)
 Jh:aB L (aK 114 gen)=some (ax (aC true es) true)
 len:es.length<=1000
 top:N<=1000
 ends:∀x∈es,x.t.toNat<N/\x.h.toNat<N
structure Ji(w:World)(o:au)(av:Value)(A:Nat->Bool)(K:Nat->Prop):Prop where
 ex:∃f cs,av=.func (.func f) #[] cs/\(∀args W,Sem.run prog (callFunc f args) W=.ok (.enter f args) W) /\
  ∀W(x:Nat),(∀b,K b->W.heap[b]? = w.heap[b]?)->w.heap.size<=W.heap.size->x<4294967296->Calls prog f (#[.int .u32 (x:Int)]++cs) W fun e W'=>e=.returned (.bool (A x))/\Below W.heap.size W W'
 old:∀b,K b->b<w.heap.size/\o b=none
section
variable {w0 w w' W:World} {pb db n gb gen N ob ib vb sv ab:Nat} {o o':au} {d d':Dsk} {L:aH} {es:List aD} {A:Nat->Bool} {K:Nat->Prop} {av:Value}
theorem fN.moved(h:fN w0 w pb db n o d L gb gen N ob ib vb es)(hm:Moved (fun _=>False) n pb db w o d w' o' d' L):fN w0 w' pb db n o' d' L gb gen N ob ib vb es:=
 ⟨h.held.moved hm (by grind),h.need,h.gr.TA hm (by grind),h.file,h.Jh,h.len,h.top,h.ends⟩
theorem Ji.moved(h:Ji w o av A K)(hm:Moved (fun _=>False) n pb db w o d w' o' d' L):Ji w' o' av A K:=by
 obtain⟨f,cs,rfl,h1,h2⟩:=h.ex;exact⟨⟨f,cs,rfl,h1,fun W x hk hs hx=>h2 W x (fun b hb=>(hk b hb).trans (hm.block (h.old b hb).1 (h.old b hb).2 (fun e=>e))) (Nat.le_trans hm.size hs) hx⟩,fun b hb=>⟨Nat.lt_of_lt_of_le (h.old b hb).1 hm.size,hm.free (h.old b hb).1 (h.old b hb).2⟩⟩
theorem fN.out(HW:aP)(h:fN w0 w pb db n o d L gb gen N ob ib vb es){v:Nat}(hv:v<N):Calls prog 21 #[ptrTo gb,.int .u32 (v:Int)] w (jD n pb db w o d L (aX es v)):=
 Je HW h.held h.need h.gr h.file h.len hv h.top
theorem fN.rV(HW:aP)(h:fN w0 w pb db n o d L gb gen N ob ib vb es){v:Nat}(hv:v<N):Calls prog 22 #[ptrTo gb,.int .u32 (v:Int)] w (jD n pb db w o d L (fJ es v)):=
 WU HW h.held h.need h.gr h.Jh h.len hv h.top
theorem Nz{es:List aD}{v:Nat}{x:aD}(h:x∈fJ es v):x∈es/\x.h.toNat=v:=
 ⟨((bL true es).mem x (zA h).1).1,(zA h).2⟩
theorem Bq(es:List aD)(v:Nat):(fJ es v).length<=es.length:=by
 have:=b8 true es;exact Nat.le_trans (List.length_filter_le _ _) this
abbrev ve(gb:Nat):Value:=.func (.func 21) #[ptrTo gb] #[]
abbrev FH(gb:Nat):Value:=.func (.func 22) #[ptrTo gb] #[]
def q8(n pb db:Nat)(w:World)(o:au)(d:Dsk)(L:aH)(es:List aD)(v:Nat)(e:Ending)(w':World):Prop:=
 ∃iv ov d' o',e=.returned (.tuple #[iv,ov,.int .i64 0])/\Moved (fun _=>False) n pb db w o d w' o' d' L/\aJ w' w.heap.size iv (fJ es v)/\aJ w' w.heap.size ov (aX es v)/\∀x,iv.ownBlock=some x\/ov.ownBlock=some x->o' x=none
theorem Jj(HW:aP)(h:fN w0 w pb db n o d L gb gen N ob ib vb es){v:Nat}(hv:v<N) :
 Calls prog 144 #[ve gb,FH gb,.int .u32 (v:Int)] w (q8 n pb db w o d L es v):=by
 have oC:=ae (h.rV HW hv);have HO:Hid (∀W o' d',Moved (fun _=>False) n pb db w o d W o' d' L->Calls prog 21 #[ptrTo gb,.int .u32 (v:Int)] W (jD n pb db W o' d' L (aX es v))):=ae (fun W o' d' hm=>(h.moved hm).out HW hv);clear h;unfold ptrTo jD at *;go_enter func144,ntmps144;go_wp2_with fail;refine oC.out.mono ?_;rintro e w1⟨iv,d1,o1,rfl,ej,lp,sY⟩;have hout:=ae (HO.out _ _ _ ej);have e9:=ae ej;have DF:=ae lp;have RJ:=ae sY;clear ej lp sY oC;go_wp2_with fail;refine hout.out.mono ?_;rintro e w2⟨ov,d2,o2,rfl,cT,kD,hf2⟩;have HQ:Hid (q8 n pb db w o d L es v (.returned (.tuple #[iv,ov,.int .i64 0])) w2):=ae ⟨iv,ov,d2,o2,rfl,e9.out.trans cT (by grind),cT.ownsRow DF.out (fun b hb=>⟨RJ.out b hb,fun e=>e⟩),aU kD e9.out.size,fun x hx=>hx.elim (fun e=>cT.free (aL DF.out x e).1 (RJ.out x e)) (hf2 x)⟩;clear cT kD hf2 hout;go_wp2;go_returns;exact HQ.out
theorem NA(h:Ji w o av A K)(v x:Nat)(hx:x<4294967296)(hk:∀b,K b->W.heap[b]? = w.heap[b]?)(hs:w.heap.size<=W.heap.size){t1 t2:TypeId}(QV:W.heap[sv]? = some (.cells #[.int .u32 (v:Int)] t1))(hab:W.heap[ab]? = some (.cells #[av] t2)) :
 Calls prog 200 #[.int .u32 (x:Int),.pointer (some ⟨sv,0,none⟩),.pointer (some ⟨ab,0,none⟩)] W fun e W'=>e=.returned (.bool (x == v || A x))/\Below W.heap.size W W':=by
 obtain⟨f,cs,rfl,hrun,aM⟩:=h.ex;have c0:W.cell? ⟨sv,0,none⟩=some (.int .u32 (v:Int)):=by rw[ar QV];rfl
 have c1:W.cell? ⟨ab,0,none⟩=some (.func (.func f) #[] cs):=by rw[ar hab];rfl
 have hc:=ae (aM W x hk hs hx);clear h aM hk hs QV hab;by_cases hxv:x=v
 ·subst hxv;go_enter func200,ntmps200;go_wp2;go_ret;exact⟨ai,Below.refl _ _⟩
 ·have hz:¬(x:Int)=(v:Int):=by omega
  have HB:Hid ((x == v || A x)=A x):=ae (by grind);rw[HB.out];go_enter func200,ntmps200;go_wp2_with fail;refine hc.out.mono ?_;rintro e W1⟨rfl,hb⟩;have cO:=ae hb;clear hb hc;go_wp2;go_ret;exact⟨by simp_all,cO.out⟩
end
end
section
open Go.RowKit Go.Maps
section
variable {w0 w w' W W':World} {pb db n gb gen N ob ib vb sv ab:Nat} {o o' gY o0:au} {d d' ig:Dsk} {L:aH} {es ins outs acc:List aD} {A:Nat->Bool} {K:Nat->Prop} {av lv iv ov:Value}
structure B0(n pb db:Nat)(w:World)(o:au)(d:Dsk)(L:aH)(W0:World)(K2:Nat->Prop)(lv:Value)(acc:List aD)(W:World)(o':au)(d':Dsk):Prop where
 mv:Moved (fun _=>False) n pb db w o d W o' d' L
 keep:∀b,K2 b->W.heap[b]? = W0.heap[b]? /\ b<W.heap.size/\w.heap.size<=b/\o' b=none
 row:aJ W w.heap.size lv acc
 own:∀b,lv.ownBlock=some b->¬K2 b/\o' b=none
variable {W0:World} {K2:Nat->Prop}
theorem B0.below(h:B0 n pb db w o d L W0 K2 lv acc W o' d')(hb:Below W.heap.size W W'):B0 n pb db w o d L W0 K2 lv acc W' o' d':=
 ⟨h.mv.below hb,fun b hk=>⟨(hb.block b (h.keep b hk).2.1).trans (h.keep b hk).1,Nat.lt_of_lt_of_le (h.keep b hk).2.1 hb.size,(h.keep b hk).2.2⟩,aW h.row hb,h.own⟩
theorem B0.moved(h:B0 n pb db w o d L W0 K2 lv acc W o' d')(hm:Moved (fun _=>False) n pb db W o' d' W' gY ig L):B0 n pb db w o d L W0 K2 lv acc W' gY ig:=
 ⟨h.mv.trans hm (fun _ _ e=>e),fun b hk=>⟨(hm.block (h.keep b hk).2.1 (h.keep b hk).2.2.2 (fun e=>e)).trans (h.keep b hk).1,Nat.lt_of_lt_of_le (h.keep b hk).2.1 hm.size,(h.keep b hk).2.2.1,hm.free (h.keep b hk).2.1 (h.keep b hk).2.2.2⟩,
  hm.ownsRow h.row (fun b hb=>⟨(h.own b hb).2,fun e=>e⟩),fun b hb=>⟨(h.own b hb).1,hm.free (aL h.row b hb).1 (h.own b hb).2⟩⟩
theorem B0.LF(h:B0 n pb db w o d L W0 K2 lv acc W o' d'){y:aD}{J7:Value}{ob:Obj}(hr:aJ W' w.heap.size J7 (acc++[y]))(ha:mr lv (W.alloc ob) W' J7):B0 n pb db w o d L W0 K2 J7 (acc++[y]) W' o' d':=by
 obtain⟨hm,hf,hh,hz⟩:=ha.moved h.mv (fun x hx=>⟨(h.own x hx).2,(aL h.row x hx).2⟩);refine⟨hm,fun b hk=>⟨(hh b (h.keep b hk).2.1 (fun e=>(h.own b e).1 hk)).trans (h.keep b hk).1,Nat.lt_of_lt_of_le (h.keep b hk).2.1 hz,(h.keep b hk).2.2⟩,hr,fun b hb=>⟨fun hk=>?_,(hf b hb).1⟩⟩;rcases ha.2 with e | e
 ·grind [own]
 ·rw[e]at hb;cases hb;have:=(h.keep _ hk).2.1;simp at this;omega
theorem B0.afH(h:B0 n pb db w o d L W0 K2 lv acc W o' d')(x:Nat)(h1:x<W.heap.size)(h2:w.heap.size<=x)(h3:o' x=none)(h4:lv.ownBlock≠some x):B0 n pb db w o d L W (fun b=>K2 b\/b=x) lv acc W o' d':=
 ⟨h.mv,fun b hb=>⟨rfl,hb.elim (fun e=>(h.keep b e).2) (fun e=>by grind)⟩,h.row,fun b hb=>⟨fun e=>e.elim (h.own b hb).1 (fun e=>h4 (e▸hb)),(h.own b hb).2⟩⟩
theorem B0.narrow{J7:Value}{kV:List aD}{x:Nat}(h:B0 n pb db w o d L W0 K2 lv acc W o' d')(k:B0 n pb db w o d L W (fun b=>K2 b\/b=x) J7 kV W' gY ig):B0 n pb db w o d L W0 K2 J7 kV W' gY ig:=
 ⟨k.mv,fun b hb=>⟨(k.keep b (.inl hb)).1.trans (h.keep b hb).1,(k.keep b (.inl hb)).2⟩,k.row,fun b hb=>⟨fun e=>(k.own b hb).1 (.inl e),(k.own b hb).2⟩⟩
def vh(n pb db:Nat)(w:World)(o:au)(d:Dsk)(L:aH)(ak3:List aD)(e:Ending)(w':World):Prop:=
 ∃v d' o',e=.returned (.tuple #[v,.int .i64 0])/\Moved (fun _=>False) n pb db w o d w' o' d' L/\kC w' v ak3/\∀x,v.ownBlock=some x->o' x=none/\w.heap.size<=x/\x<w'.heap.size
theorem TF{w:World}{base:Nat}{l:List aD}{a:Option Addr}{cap:Nat}(h:aJ w base (.slice a l.length cap) l):kC w (.slice a l.length l.length) l:=by
 rcases ck h with⟨rfl,e⟩|⟨g,c,e,-,-,-⟩
 ·cases e;exact⟨_,_,rfl,.inl rfl⟩
 ·cases e;exact⟨_,_,rfl,.inr ⟨g,0,rfl,fun j x hx=>by
   grind [bK]⟩⟩
theorem TG{a:Option Addr}{k cap:Nat}(hk:k<=cap)(w:World):Calls prog 203 #[.slice a k cap] w fun e w'=>e=.returned (.slice a k k)/\w'=w:=by
 go_enter func203,ntmps203;go_wp2;go_ret;simp
theorem rO{α β:Type}{l:List α}{f:α->List β}{j:Nat}{x:α}(h:l[j]? = some x):(l.take (j+1)).flatMap f=(l.take j).flatMap f++f x:=by
 grind [List.take_succ_eq_append_getElem]
theorem gQ{α β:Type}{l:List α}{f:α->Option β}{j:Nat}{x:α}(h:l[j]? = some x):(l.take (j+1)).filterMap f=(l.take j).filterMap f++(f x).toList:=by
 grind [List.take_succ_eq_append_getElem]
theorem Jk{α β:Type}{f:α->List β}{c:Nat}(hf:∀x,(f x).length<=c){l:List α}{i:Nat}(hl:l.length<=i):(l.flatMap f).length<=i*c:=by
 refine Nat.le_trans ?_ (Nat.mul_le_mul_right c hl);induction l generalizing i with
 |nil=>simp
 |cons x l ih=>
   have h1:=ih (Nat.le_refl _);grind [Nat.succ_mul]
theorem sN(HW:aP)(h:fN w0 w pb db n o d L gb gen N ob ib vb es)(ha:Ji w o av A K)(v:UInt32)(hv:v.toNat<N)(xG:(fJ es v.toNat).length*(aX es v.toNat).length<=100000) :
 Calls prog 142 #[ve gb,FH gb,av,.int .u32 (v.toNat:Int)] w (vh n pb db w o d L (nA (aX es) A (fJ es v.toNat) v)):=by
 have H:=ae h;obtain⟨f,cs,rfl,-⟩:=ha.ex;have HA:=ae ha;have HDG:=ae xG;clear h ha xG;obtain⟨R,HR⟩:∃R,Hid (nA (aX es) A (fJ es v.toNat) v=R):=⟨_,ae rfl⟩;rw[HR.out];have BU:=mD Tryz.underlying53 (.func 21) #[.pointer (some ⟨gb,0,none⟩)] #[];have U4:=mD Tryz.underlying53 (.func 22) #[.pointer (some ⟨gb,0,none⟩)] #[];have hn3:=mD Tryz.underlying234 (.func f) #[] cs;have cO:Hid (Below w.heap.size w ((w.alloc (.cells #[.func (.func f) #[] cs] 234)).alloc (.cells #[.int .u32 (v.toNat:Int)] 26))):=ae (aj.alloc ai _);have jg:Hid (((w.alloc (.cells #[.func (.func f) #[] cs] 234)).alloc (.cells #[.int .u32 (v.toNat:Int)] 26)).heap[w.heap.size]? = some (.cells #[.func (.func f) #[] cs] 234)/\((w.alloc (.cells #[.func (.func f) #[] cs] 234)).alloc (.cells #[.int .u32 (v.toNat:Int)] 26)).heap[w.heap.size+1]? = some (.cells #[.int .u32 (v.toNat:Int)] 26)/\((w.alloc (.cells #[.func (.func f) #[] cs] 234)).alloc (.cells #[.int .u32 (v.toNat:Int)] 26)).heap.size=w.heap.size+2):=ae (by
  grind [World.alloc])
 have hb:=ae (Jj HW (H.out.moved (Moved.aV H.out.held.aY cO.out)) hv);have TH:Hid (∀W o' d',Moved (fun _=>False) n pb db w o d W o' d' L->fN w0 W pb db n o' d' L gb gen N ob ib vb es/\Ji W o' (.func (.func f) #[] cs) A K):=ae (fun W o' d' hm=>⟨H.out.moved hm,HA.out.moved hm⟩);unfold q8 ve FH at *;unfold ptrTo at *;go_enter func142,ntmps142;go_wp2_with fail;refine hb.out.mono ?_;rintro e w2⟨iv,ov,d2,o2,rfl,cT,Dl,kD,hf2⟩;obtain⟨ia,ic,rfl⟩:=aA Dl;obtain⟨oa,oc,rfl⟩:=aA kD;obtain⟨M1,OB⟩:∃M,M=(fJ es v.toNat).length:=⟨_,rfl⟩;obtain⟨M2,Qi⟩:∃M,M=(aX es v.toNat).length:=⟨_,rfl⟩;rw[<- OB]at Dl hf2 ⊢;rw[<- Qi]at kD hf2 ⊢;have HM:Hid (M1=(fJ es v.toNat).length/\M2=(aX es v.toNat).length/\M1<=1000/\M2<=1000):=ae ⟨OB,Qi,by rw[OB];exact Nat.le_trans (Bq _ _) H.out.len,by rw[Qi];exact Nat.le_trans (nH _ _) H.out.len⟩;clear OB Qi;rw[jg.out.2.2]at Dl kD;obtain⟨sv,QV⟩:∃x,x=w.heap.size+1:=⟨_,rfl⟩;obtain⟨ab,hab⟩:∃x,x=w.heap.size:=⟨_,rfl⟩;have eV:Hid (B0 n pb db w o d L w2 (fun b=>b=sv\/b=ab\/(Value.slice ia M1 ic).ownBlock=some b\/(Value.slice oa M2 oc).ownBlock=some b) (.slice none 0 0) [] w2 o2 d2):=ae (by
  have hz:=jg.out.2.2;have hz2:=cT.size;have dQ:∀b,w.heap.size<=b->o b=none:=fun b hb=>H.out.held.aY.fresh hb;refine⟨(Moved.aV H.out.held.aY cO.out).trans cT (fun _ _ e=>e),fun b hb=>⟨rfl,?_⟩,World.ownsRow_nil _ _ _ _,fun b hb=>by cases hb⟩;rcases hb with rfl | rfl | e | e
  ·exact⟨af,af,cT.free af (dQ _ af)⟩
  ·exact⟨af,af,cT.free af (dQ _ af)⟩
  ·have:=aL Dl b e;exact⟨this.1,af,hf2 b (.inl e)⟩
  ·have:=aL kD b e;exact⟨this.1,af,hf2 b (.inr e)⟩)
 have HK:Hid (aJ w2 (w.heap.size+2) (.slice ia M1 ic) (fJ es v.toNat)/\aJ w2 (w.heap.size+2) (.slice oa M2 oc) (aX es v.toNat)/\w2.heap[sv]? = some (.cells #[.int .u32 (v.toNat:Int)] 26)/\w2.heap[ab]? = some (.cells #[.func (.func f) #[] cs] 234)):=ae (by
  have dQ:∀b,w.heap.size<=b->o b=none:=fun b hb=>H.out.held.aY.fresh hb;exact⟨Dl,kD,by rw[QV];exact cT.heap jg.out.2.1 (dQ _ af) (fun e=>e),by rw[hab];exact cT.heap jg.out.1 (dQ _ af) (fun e=>e)⟩)
 clear cT Dl kD hf2 cO jg hb BU U4 hn3;go_wp2;rw[<- QV,<- hab];clear QV hab;go_loopw [8,50] (fun vl vi wr=>∃(i:Nat)(acc:List aD)(d':Dsk)(o':au),vi=.int .i64 (i:Int)/\i<=M1/\Hid (B0 n pb db w o d L w2 (fun b=>b=sv\/b=ab\/(Value.slice ia M1 ic).ownBlock=some b\/(Value.slice oa M2 oc).ownBlock=some b) vl acc wr o' d')/\Hid (acc=((fJ es v.toNat).take i).flatMap (fun a=>(aX es v.toNat).filterMap (iT (aX es) A v a)))) (fun _ vi _=>M1-(intOf vi).toNat)
 case atStart=>exact⟨0,[],d2,o2,rfl,Nat.zero_le _,eV,ae rfl⟩
 case round=>
  obtain⟨i,acc,d3,o3,rfl,hi,fF,HA3⟩:=hrel;clear eV;generalize wr=W3 at *;obtain⟨la,lc,rfl⟩:=aA fF.out.row;by_cases hlt:i<M1
  ·have hiz:(i:Int)<(M1:Int):=by omega
   have wi:IntKind.i64.wrap ((i:Int)+1)=((i+1:Nat):Int):=by grind [Hid.out,aw]
   obtain⟨a,ha⟩:∃x,(fJ es v.toNat)[i]? = some x:=⟨_,List.getElem?_eq_getElem (by grind [Hid.out])⟩;have HIA:=ae ha;have HAN:Hid (a.t.toNat<N/\a.t.toNat<4294967296/\a.x.toNat<18446744073709551616):=ae ⟨(H.out.ends a (Nz (List.mem_of_getElem? ha)).1).1,a.t.toNat_lt,a.x.toNat_lt⟩;obtain⟨gi,rfl⟩:∃g,ia=some ⟨g,0,none⟩:=by
    obtain⟨-,⟨h1,h2⟩|⟨g,_,_,h1,_⟩⟩:=HK.out.1
    ·grind
    grind
   have hrow:aJ W3 (w.heap.size+2) (.slice (some ⟨gi,0,none⟩) (fJ es v.toNat).length ic) (fJ es v.toNat):=by rw[<- HM.out.1];exact bH HK.out.1 (fun b hb=>(fF.out.keep b (.inr (.inr (.inl hb)))).1)
   obtain⟨q0,q1,q2,q3⟩:=bK hrow ha;have gD:=ae (fF.out.below (ak.alloc (Nat.le_refl _) (.cells #[.int .u32 (a.t.toNat:Int),.int .u32 (a.h.toNat:Int),.int .u64 (a.x.toNat:Int),.int .u32 (a.m.toNat:Int)] 64)));have U9:Hid ((W3.alloc (.cells #[.int .u32 (a.t.toNat:Int),.int .u32 (a.h.toNat:Int),.int .u64 (a.x.toNat:Int),.int .u32 (a.m.toNat:Int)] 64)).heap[W3.heap.size]? = some (.cells #[.int .u32 (a.t.toNat:Int),.int .u32 (a.h.toNat:Int),.int .u64 (a.x.toNat:Int),.int .u32 (a.m.toNat:Int)] 64)):=ae (heap_alloc_new _ _);obtain⟨xa,hxa⟩:∃x,x=W3.heap.size:=⟨_,rfl⟩;have b7:Hid (B0 n pb db w o d L (W3.alloc (.cells #[.int .u32 (a.t.toNat:Int),.int .u32 (a.h.toNat:Int),.int .u64 (a.x.toNat:Int),.int .u32 (a.m.toNat:Int)] 64)) (fun b=>(b=sv\/b=ab\/(Value.slice (some ⟨gi,0,none⟩) M1 ic).ownBlock=some b\/(Value.slice oa M2 oc).ownBlock=some b)\/b=xa) (.slice la acc.length lc) acc (W3.alloc (.cells #[.int .u32 (a.t.toNat:Int),.int .u32 (a.h.toNat:Int),.int .u64 (a.x.toNat:Int),.int .u32 (a.m.toNat:Int)] 64)) o3 d3):=ae (gD.out.afH xa (by simp_all) (by rw[hxa];exact fF.out.mv.size) (fF.out.mv.aY.fresh af) (fun e=>by have:=(aL fF.out.row _ e).1;omega));rw[<- hxa]at U9;clear hrow ha;go_wp2_with fail;rw[<- hxa];clear q0 q1 q2 q3 hxa;generalize W3.alloc (.cells #[.int .u32 (a.t.toNat:Int),.int .u32 (a.h.toNat:Int),.int .u64 (a.x.toNat:Int),.int .u32 (a.m.toNat:Int)] 64)=W4 at *;have x0:W4.cell? ⟨xa,0,none⟩=some (.int .u32 (a.t.toNat:Int)):=by rw[ar U9.out];rfl
   have x1:=(Array.getElem?_eq_some_iff.1 U9.out).1;go_step3
   go_wp2_with fail;go_step3
   go_wp2_with fail;clear x0 x1;have Pz:Hid (∀lv acc W o' d',B0 n pb db w o d L W4 (fun b=>(b=sv\/b=ab\/(Value.slice (some ⟨gi,0,none⟩) M1 ic).ownBlock=some b\/(Value.slice oa M2 oc).ownBlock=some b)\/b=xa) lv acc W o' d'->(W.heap[sv]? = some (.cells #[.int .u32 (v.toNat:Int)] 26)/\W.heap[ab]? = some (.cells #[.func (.func f) #[] cs] 234))/\W.heap[xa]? = some (.cells #[.int .u32 (a.t.toNat:Int),.int .u32 (a.h.toNat:Int),.int .u64 (a.x.toNat:Int),.int .u32 (a.m.toNat:Int)] 64)/\aJ W (w.heap.size+2) (.slice oa M2 oc) (aX es v.toNat)/\∀x:Nat,x<4294967296->Calls prog 200 #[.int .u32 (x:Int),.pointer (some ⟨sv,0,none⟩),.pointer (some ⟨ab,0,none⟩)] W fun e W'=>e=.returned (.bool (x == v.toNat || A x))/\Below W.heap.size W W'):=ae (fun lv acc W o' d' hs=>by
    have k1:=(hs.keep sv (.inl (.inl rfl))).1.trans ((gD.out.keep sv (.inl rfl)).1.trans HK.out.2.2.1);have k2:=(hs.keep ab (.inl (.inr (.inl rfl)))).1.trans ((gD.out.keep ab (.inr (.inl rfl))).1.trans HK.out.2.2.2);exact⟨⟨k1,k2⟩,(hs.keep xa (.inr rfl)).1.trans U9.out,bH HK.out.2.1 (fun b hb=>(hs.keep b (.inl (.inr (.inr (.inr hb))))).1.trans (gD.out.keep b (.inr (.inr (.inr hb)))).1),fun x hx=>NA (TH.out _ _ _ hs.mv).2 v.toNat x hx (fun _ _=>rfl) (Nat.le_refl _) k1 k2⟩)
   go_loopw [8,58] (fun vl vk wr=>∃(k:Nat)(kV:List aD)(d':Dsk)(o':au),vk=.int .i64 (k:Int)/\k<=M2/\Hid (B0 n pb db w o d L W4 (fun b=>(b=sv\/b=ab\/(Value.slice (some ⟨gi,0,none⟩) M1 ic).ownBlock=some b\/(Value.slice oa M2 oc).ownBlock=some b)\/b=xa) vl kV wr o' d')/\Hid (kV=acc++((aX es v.toNat).take k).filterMap (iT (aX es) A v a))) (fun _ vk _=>M2-(intOf vk).toNat)
   case atStart=>exact⟨0,acc,d3,o3,rfl,Nat.zero_le _,b7,ae ai⟩
   case round=>
    obtain⟨k,kV,d6,o6,rfl,hk,gH,Vb⟩:=hrel;clear b7;generalize wr=W6 at *;obtain⟨ma,mc,rfl⟩:=aA gH.out.row;by_cases hkt:k<M2
    ·have Gj:(k:Int)<(M2:Int):=by omega
     have wk:IntKind.i64.wrap ((k:Int)+1)=((k+1:Nat):Int):=by have:=HM.out;rw[aw]<;>omega
     obtain⟨b,hb⟩:∃x,(aX es v.toNat)[k]? = some x:=⟨_,List.getElem?_eq_getElem (by have:=HM.out;omega)⟩;have NB:=ae hb;have HBN:Hid (b.h.toNat<N/\b.h.toNat<4294967296/\b.x.toNat<18446744073709551616):=ae ⟨(H.out.ends b (Bo (List.mem_of_getElem? hb)).1).2,b.h.toNat_lt,b.x.toNat_lt⟩;obtain⟨gg,rfl⟩:∃g,oa=some ⟨g,0,none⟩:=by
      obtain⟨-,⟨h1,h2⟩|⟨g,_,_,h1,_⟩⟩:=HK.out.2.1
      ·simp_all
      simp_all
     have hrow:aJ W6 (w.heap.size+2) (.slice (some ⟨gg,0,none⟩) (aX es v.toNat).length oc) (aX es v.toNat):=by rw[<- HM.out.2.1];exact(Pz.out _ _ _ _ _ gH.out).2.2.1
     obtain⟨q0,q1,q2,q3⟩:=bK hrow hb;have j5:=ae (gH.out.below (ak.alloc (Nat.le_refl _) (.cells #[.int .u32 (b.t.toNat:Int),.int .u32 (b.h.toNat:Int),.int .u64 (b.x.toNat:Int),.int .u32 (b.m.toNat:Int)] 64)));have WN:Hid ((W6.alloc (.cells #[.int .u32 (b.t.toNat:Int),.int .u32 (b.h.toNat:Int),.int .u64 (b.x.toNat:Int),.int .u32 (b.m.toNat:Int)] 64)).heap[W6.heap.size]? = some (.cells #[.int .u32 (b.t.toNat:Int),.int .u32 (b.h.toNat:Int),.int .u64 (b.x.toNat:Int),.int .u32 (b.m.toNat:Int)] 64)):=ae (heap_alloc_new _ _);clear hrow hb;by_cases c1:a.t.toNat=b.h.toNat
     ·have c1z:(a.t.toNat:Int)=(b.h.toNat:Int):=by omega
      have C1:=ae c1;clear c1;have HN:iT (aX es) A v a b=none:=by unfold iT;exact if_pos (.inl C1.out)
      have LZ:Hid (kV=acc++((aX es v.toNat).take (k+1)).filterMap (iT (aX es) A v a)):=ae (by rw[gQ NB.out,HN,Vb.out];simp);clear HN;go_wp2;go_roundw
      case rel=>exact⟨k+1,kV,d6,o6,by go_num,af,j5,LZ⟩
      case measure=>simp[intOf];omega
     ·have c1z:¬(a.t.toNat:Int)=(b.h.toNat:Int):=by omega
      have C1:=ae c1;clear c1;have hs1:=ae ((Pz.out _ _ _ _ _ j5.out).2.2.2 _ HAN.out.2.1);go_wp2_with fail;refine hs1.out.mono ?_;rintro e w8⟨rfl,P4⟩;have jK:=ae (j5.out.below P4);have abk:=ae ((P4.block _ (Array.getElem?_eq_some_iff.1 WN.out).1).trans WN.out);clear q0 q1 q2 q3 hs1 P4 j5 WN;by_cases c2:(a.t.toNat == v.toNat || A a.t.toNat)=true
      ·rw[c2];have C2:=ae c2;clear c2;have HN:iT (aX es) A v a b=none:=by unfold iT;exact if_pos (.inr (.inl C2.out))
       have LZ:Hid (kV=acc++((aX es v.toNat).take (k+1)).filterMap (iT (aX es) A v a)):=ae (by rw[gQ NB.out,HN,Vb.out];simp);clear HN;go_wp2;go_roundw
       case rel=>exact⟨k+1,kV,d6,o6,by go_num,af,jK,LZ⟩
       case measure=>simp[intOf];omega
      ·have c2f:(a.t.toNat == v.toNat || A a.t.toNat)=false:=by simp_all
       rw[c2f];have C2:=ae c2;clear c2 c2f;have hs2:=ae ((Pz.out _ _ _ _ _ jK.out).2.2.2 _ HBN.out.2.1);go_wp2_with fail;refine hs2.out.mono ?_;rintro e w9⟨rfl,O4⟩;have qs:=ae (jK.out.below O4);have afL:=ae ((O4.block _ (Array.getElem?_eq_some_iff.1 abk.out).1).trans abk.out);clear hs2 O4 jK abk;by_cases c3:(b.h.toNat == v.toNat || A b.h.toNat)=true
       ·rw[c3];have C3:=ae c3;clear c3;have HN:iT (aX es) A v a b=none:=by unfold iT;exact if_pos (.inr (.inr (.inl C3.out)))
        have LZ:Hid (kV=acc++((aX es v.toNat).take (k+1)).filterMap (iT (aX es) A v a)):=ae (by rw[gQ NB.out,HN,Vb.out];simp);clear HN;go_wp2;go_roundw
        case rel=>exact⟨k+1,kV,d6,o6,by go_num,af,qs,LZ⟩
        case measure=>simp[intOf];omega
       ·have c3f:(b.h.toNat == v.toNat || A b.h.toNat)=false:=by simp_all
        rw[c3f];have C3:=ae c3;clear c3 c3f;generalize Gl:W6.heap.size=xb at *;clear Gl;have y2:w9.cell? ⟨xb,2,none⟩=some (.int .u64 (b.x.toNat:Int)):=by rw[ar afL.out];rfl
        have y3:w9.cell? ⟨xa,2,none⟩=some (.int .u64 (a.x.toNat:Int)):=by rw[ar (Pz.out _ _ _ _ _ qs.out).2.1];rfl
        have lq:=ae (I1 a.x.toNat b.x.toNat HAN.out.2.2 HBN.out.2.2 w9);go_wp2_with fail;refine lq.out.mono ?_;rintro e Wo⟨rfl,rfl⟩;clear y2 y3 lq;by_cases iA:a.x.toNat+b.x.toNat<9223372036854775808
        ·obtain⟨X,hX⟩:∃X:UInt64,X.toNat=a.x.toNat+b.x.toNat:=⟨UInt64.ofNat (a.x.toNat+b.x.toNat),by rw[UInt64.toNat_ofNat'];omega⟩;have LS:LJ a.x.toNat b.x.toNat=.tuple #[.int .u64 (X.toNat:Int),.bool true]:=by rw[hX];exact if_pos iA
         rw[LS];have HXS:=ae hX;have Gd:=ae iA;clear LS iA hX;have hout:=ae ((TH.out _ _ _ qs.out.mv).1.out HW HAN.out.1);unfold jD ptrTo at hout;go_wp2_with fail;refine hout.out.mono ?_;rintro e w11⟨ev,d11,o11,rfl,TI,hown,-⟩;obtain⟨ea,ec,rfl⟩:=aA hown;obtain⟨M3,hM3⟩:∃M,M=(aX es a.t.toNat).length:=⟨_,rfl⟩;rw[<- hM3]at hown ⊢;have Br:=ae (qs.out.moved TI);have YK:=ae hown;have eH:Hid (M3=(aX es a.t.toNat).length/\M3<=1000):=ae ⟨hM3,by rw[hM3];exact Nat.le_trans (nH _ _) H.out.len⟩;clear TI hown hM3 hout qs afL;go_wp2_with fail;go_loopw [98] (fun vq wr=>∃q:Nat,vq=.int .i64 (q:Int)/\q<=M3/\Hid (B0 n pb db w o d L W4 (fun b=>(b=sv\/b=ab\/(Value.slice (some ⟨gi,0,none⟩) M1 ic).ownBlock=some b\/(Value.slice (some ⟨gg,0,none⟩) M2 oc).ownBlock=some b)\/b=xa) (.slice ma kV.length mc) kV wr o11 d11)/\Hid (aJ wr Wo.heap.size (.slice ea M3 ec) (aX es a.t.toNat))/\Hid (∀y∈(aX es a.t.toNat).take q,¬(y.h.toNat=b.h.toNat/\y.x.toNat<=X.toNat))) (fun vq _=>M3-(intOf vq).toNat)
         case atStart=>exact⟨0,rfl,Nat.zero_le _,Br,YK,ae ai⟩
         case round=>
          obtain⟨q,rfl,hq,xH,TJ,abl⟩:=hrel;clear Br YK;generalize wr=Wq at *;by_cases hqt:q<M3
          ·have hqz:(q:Int)<(M3:Int):=by omega
           have wq:IntKind.i64.wrap ((q:Int)+1)=((q+1:Nat):Int):=by have:=eH.out;rw[aw]<;>omega
           obtain⟨y,hy⟩:∃x,(aX es a.t.toNat)[q]? = some x:=⟨_,List.getElem?_eq_getElem (by have:=eH.out;omega)⟩;have HY:=ae hy;obtain⟨ge,rfl⟩:∃g,ea=some ⟨g,0,none⟩:=by
            obtain⟨-,⟨h1,h2⟩|⟨g,_,_,h1,_⟩⟩:=TJ.out
            ·simp_all
            simp_all
           have hrow:aJ Wq Wo.heap.size (.slice (some ⟨ge,0,none⟩) (aX es a.t.toNat).length ec) (aX es a.t.toNat):=by rw[<- eH.out.1];assumption
           obtain⟨q0,q1,q2,q3⟩:=bK hrow hy;have afO:Hid (Below Wq.heap.size Wq (Wq.alloc (.cells #[.int .u32 (y.t.toNat:Int),.int .u32 (y.h.toNat:Int),.int .u64 (y.x.toNat:Int),.int .u32 (y.m.toNat:Int)] 64))):=ae aj;have zk:=ae (xH.out.below afO.out);have YL:=ae (aW TJ.out afO.out);clear hrow hy;by_cases e1:y.h.toNat=b.h.toNat/\y.x.toNat<=X.toNat
           ·have z1:((y.h.toNat:Int) == (b.h.toNat:Int))=true:=by simp_all
            have z2:(y.x.toNat:Int)<=(X.toNat:Int):=by omega
            have Dx:Hid (∃x∈aX es a.t.toNat,x.h.toNat=b.h.toNat/\x.x.toNat<=a.x.toNat+b.x.toNat):=ae ⟨y,List.mem_of_getElem? HY.out,e1.1,by rw[<- HXS.out];omega⟩;clear e1;have HN:iT (aX es) A v a b=none:=by unfold iT;exact if_pos (.inr (.inr (.inr (.inr (.inl Dx.out)))))
            have LZ:Hid (kV=acc++((aX es v.toNat).take (k+1)).filterMap (iT (aX es) A v a)):=ae (by rw[gQ NB.out,HN,Vb.out];simp);clear HN;go_wp2;go_roundw
            case rel=>exact⟨k+1,kV,d11,o11,by go_num,af,zk,LZ⟩
            case measure=>simp[intOf];omega
           ·have afP:Hid (∀y∈(aX es a.t.toNat).take (q+1),¬(y.h.toNat=b.h.toNat/\y.x.toNat<=X.toNat)):=ae (fun z hz=>by
             obtain⟨hl,hyy⟩:=List.getElem?_eq_some_iff.1 HY.out;rw[List.take_succ_eq_append_getElem hl,List.mem_append,List.mem_singleton]at hz;rcases hz with hz | rfl
             ·exact abl.out z hz
             simp_all)
            by_cases z0:y.h.toNat=b.h.toNat
            ·have z2:¬(y.x.toNat:Int)<=(X.toNat:Int):=fun h=>e1 ⟨af,af⟩;have z1:((y.h.toNat:Int) == (b.h.toNat:Int))=true:=by simp_all
             clear e1 z0;go_wp2;go_roundw
             case rel=>exact⟨q+1,by go_num,af,zk,YL,afP⟩
             case measure=>simp[intOf];omega
            ·have z1:¬(y.h.toNat:Int)=(b.h.toNat:Int):=by omega
             clear e1 z0;go_wp2;go_roundw
             case rel=>exact⟨q+1,by go_num,af,zk,YL,afP⟩
             case measure=>simp[intOf];omega
          ·have hqz:¬(q:Int)<(M3:Int):=by omega
           have s7:Hid (¬∃x∈aX es a.t.toNat,x.h.toNat=b.h.toNat/\x.x.toNat<=a.x.toNat+b.x.toNat):=ae (fun⟨y,h1,h2⟩=>abl.out y (by rw[List.take_of_length_le (by have:=eH.out;omega)];exact h1) (by rw[HXS.out];exact h2));have hfi:tD w0 Wq pb db n o11 d11 L gb gen N ob ib vb es (fun x=>x == v.toNat || A x) sv ab (fun x=>K x\/x=sv\/x=ab):=by
            obtain⟨hn,hv'⟩:=TH.out _ _ _ xH.out.mv;obtain⟨⟨k1,k2⟩,-,-,-⟩:=Pz.out _ _ _ _ _ xH.out;refine⟨hn.held,hn.need,hn.gr,hn.file,hn.len,hn.top,hn.ends,fun x hx=>?_,fun W x hk hs hx=>NA hv' v.toNat x hx (fun b hb=>hk b (.inl hb)) hs ((hk sv (.inr (.inl rfl))).trans k1) ((hk ab (.inr (.inr rfl))).trans k2)⟩;rcases hx with hx | rfl | rfl
            ·exact hv'.old x hx
            ·exact⟨(xH.out.keep _ (.inl (.inl rfl))).2.1,(xH.out.keep _ (.inl (.inl rfl))).2.2.2⟩
            ·exact⟨(xH.out.keep _ (.inl (.inr (.inl rfl)))).2.1,(xH.out.keep _ (.inl (.inr (.inl rfl)))).2.2.2⟩
           have hf:=ae (Jg HW hfi a.t.toNat b.h.toNat X.toNat HAN.out.1);unfold oY ptrTo at hf;clear hfi TJ abl;go_wp2_with fail;refine hf.out.mono ?_;rintro e J8⟨d13,YM,rfl,Ma⟩;have zk:=ae (xH.out.moved Ma);clear hf Ma xH;by_cases YN:k9 (aX es) (fun x=>x == v.toNat || A x) b.h.toNat X.toNat 16 [(a.t.toNat,0)] []=true
           ·rw[YN];have HFD:Hid (k9 (aX es) (fun x=>x == v.toNat || A x) b.h.toNat (a.x.toNat+b.x.toNat) 16 [(a.t.toNat,0)] []=true):=ae (by rw[<- HXS.out];omega);clear YN;have HN:iT (aX es) A v a b=none:=by unfold iT;exact if_pos (.inr (.inr (.inr (.inr (.inr HFD.out)))))
            have LZ:Hid (kV=acc++((aX es v.toNat).take (k+1)).filterMap (iT (aX es) A v a)):=ae (by rw[gQ NB.out,HN,Vb.out];simp);clear HN;go_wp2;go_roundw
            case rel=>exact⟨k+1,kV,d13,YM,by go_num,af,zk,LZ⟩
            case measure=>simp[intOf];omega
           ·have Ha:k9 (aX es) (fun x=>x == v.toNat || A x) b.h.toNat X.toNat 16 [(a.t.toNat,0)] []=false:=by simp_all
            rw[Ha];have HFD:Hid (¬k9 (aX es) (fun x=>x == v.toNat || A x) b.h.toNat (a.x.toNat+b.x.toNat) 16 [(a.t.toNat,0)] []=true):=ae (by rw[<- HXS.out];omega);have HCF:Hid (iT (aX es) A v a b=some ⟨a.t,b.h,X,v⟩):=ae (by
             have e0:UInt64.ofNat (a.x.toNat+b.x.toNat)=X:=by rw[<- HXS.out];simp
             unfold iT;dsimp only;rw[if_neg,e0];rintro(h | h | h | h | h | h)
             ·omega
             ·exact C2.out h
             ·exact C3.out h
             ·exact h Gd.out
             ·exact s7.out h
             ·exact HFD.out h)
            have HLN:Hid (kV.length<=100000):=ae (by
             have h1:acc.length<=i*M2:=by rw[HA3.out];exact Jk (fun x=>by have:=List.length_filterMap_le (iT (aX es) A v x) (aX es v.toNat);have:=HM.out;omega) (by rw[List.length_take];omega)
             have h2:(((aX es v.toNat).take k).filterMap (iT (aX es) A v a)).length<=k:=Nat.le_trans (List.length_filterMap_le _ _) (by rw[List.length_take];omega);have h3:(i+1)*M2<=M1*M2:=Nat.mul_le_mul_right _ af;rw[Nat.succ_mul]at h3;have h4:=HDG.out;rw[Vb.out,List.length_append];have:=HM.out;rw[<- this.1,<- this.2.1]at h4;omega)
            have MZ:Hid (w.heap.size<=J8.heap.size):=ae zk.out.mv.size;have k5:J8.cell? ⟨sv,0,none⟩=some (.int .u32 (v.toNat:Int)):=by rw[ar (Pz.out _ _ _ _ _ zk.out).1.1];rfl
            clear YN Ha s7;go_wp2_with (at_builtin;refine cQ rfl _ _ rfl w.heap.size _ kV rfl zk.out.row ⟨a.t,b.h,X,v⟩ 1 rfl HLN.out MZ.out ?_);intro l14 w14 afR afS;have tE:=ae (zk.out.LF afR afS);have ak6:Hid (kV++[⟨a.t,b.h,X,v⟩]=acc++((aX es v.toNat).take (k+1)).filterMap (iT (aX es) A v a)):=ae (by rw[gQ NB.out,HCF.out,Vb.out];simp);clear afR afS zk;go_wp2;go_roundw
            case rel=>exact⟨k+1,_,d13,YM,by go_num,af,tE,ak6⟩
            case measure=>simp[intOf];omega
        ·have LS:LJ a.x.toNat b.x.toNat=.tuple #[.int .u64 0,.bool false]:=if_neg iA;rw[LS];have Gd:=ae iA;clear LS iA;have HN:iT (aX es) A v a b=none:=by unfold iT;exact if_pos (.inr (.inr (.inr (.inl Gd.out))))
         have LZ:Hid (kV=acc++((aX es v.toNat).take (k+1)).filterMap (iT (aX es) A v a)):=ae (by rw[gQ NB.out,HN,Vb.out];simp);clear HN;go_wp2;go_roundw
         case rel=>exact⟨k+1,kV,d6,o6,by go_num,af,qs,LZ⟩
         case measure=>simp[intOf];omega
    ·have Gj:¬(k:Int)<(M2:Int):=by omega
     have j5:=ae (gD.out.narrow gH.out);have Ti:Hid (kV=((fJ es v.toNat).take (i+1)).flatMap (fun a=>(aX es v.toNat).filterMap (iT (aX es) A v a))):=ae (by
      rw[rO HIA.out,Vb.out,HA3.out,List.take_of_length_le (l:=aX es v.toNat) (by have:=HM.out;omega)])
     clear gH Vb;go_wp2;go_roundw
     case rel=>exact⟨i+1,kV,d6,o6,by go_num,af,j5,Ti⟩
     case measure=>simp[intOf];omega
  ·have hiz:¬(i:Int)<(M1:Int):=by omega
   have GL:acc.length<=lc:=by
    obtain⟨-,⟨h1,h2⟩|⟨_,_,_,h1,-,-,h7,-⟩⟩:=fF.out.row
    ·omega
    grind
   have HQ:Hid (vh n pb db w o d L R (.returned (.tuple #[.slice la acc.length acc.length,.int .i64 0])) W3):=ae ⟨_,d3,o3,rfl,fF.out.mv,by
    have e:acc=R:=by rw[HA3.out,<- HR.out,List.take_of_length_le (by grind [Hid.out])];rfl
    subst e;exact TF fF.out.row,fun x hx=>by
    cases la with
    |none=>cases hx
    |some p=>exact⟨(fF.out.own x hx).2,(aL fF.out.row x hx).2,(aL fF.out.row x hx).1⟩⟩
   have x9:=ae (TG (a:=la) GL W3);clear GL;go_wp2_with fail;refine x9.out.mono ?_;rintro e w4⟨rfl,rfl⟩;clear x9;go_wp2;go_returns;exact HQ.out
end
end
section
open Go.RowKit Go.Maps
theorem Mb(args:Array Value)(w:World):Sem.run prog (callFunc 143 args) w=.ok (.enter 143 args) w:=by go_simp
theorem Mc(x:Nat)(w:World):Calls prog 143 #[.int .u32 (x:Int)] w fun e w'=>e=.returned (.bool false)/\w'=w:=by
 go_enter func143,ntmps143;go_wp2;go_ret;simp
theorem abm(w:World)(o:au):Ji w o (.func (.func 143) #[] #[]) (fun _=>false) (fun _=>False):=
 ⟨⟨_,_,rfl,Mb,fun W x _ _ _=>(Mc x W).mono fun _ _ ⟨h1,h2⟩=>⟨h1,h2▸Below.refl _ _⟩⟩,(by grind)⟩
section
variable {w0 w w' W:World} {pb db n gb gen N ob ib vb:Nat} {o o':au} {d d':Dsk} {L:aH} {es:List aD}
def Ea(n pb db:Nat)(w:World)(o:au)(d:Dsk)(L:aH)(i k c:Nat)(e:Ending)(w':World):Prop:=
 ∃d' o',e=.returned (.tuple #[.int .i64 (i:Int),.int .i64 (k:Int),.int .i64 (c:Int),.int .i64 0])/\Moved (fun _=>False) n pb db w o d w' o' d' L
theorem Jl(HW:aP)(h:fN w0 w pb db n o d L gb gen N ob ib vb es)(v:UInt32)(hv:v.toNat<N)(xG:(fJ es v.toNat).length*(aX es v.toNat).length<=100000) :
 Calls prog 97 #[ve gb,FH gb,.int .u32 (v.toNat:Int)] w (Ea n pb db w o d L (fJ es v.toNat).length (aX es v.toNat).length (nA (aX es) (fun _=>false) (fJ es v.toNat) v).length):=by
 have tL:=ae (sN HW h (abm w o) v hv xG);have HB:Hid (∀W o' d',Moved (fun _=>False) n pb db w o d W o' d' L->Calls prog 144 #[ve gb,FH gb,.int .u32 (v.toNat:Int)] W (q8 n pb db W o' d' L es v.toNat)):=ae (fun W o' d' hm=>Jj HW (h.moved hm) hv);clear h;generalize nA (aX es) (fun _=>false) (fJ es v.toNat) v=C at *;unfold ve FH at *;unfold ptrTo vh q8 at *;go_enter func97,ntmps97;go_wp2_with fail;refine tL.out.mono ?_;rintro e w1⟨cv,d1,o1,rfl,ej,⟨ca,cc,rfl,-⟩,-⟩;have e9:=ae ej;have hb:=ae (HB.out _ _ _ ej);clear ej tL;go_wp2_with fail;refine hb.out.mono ?_;rintro e w2⟨iv,ov,d2,o2,rfl,cT,Dl,kD,-⟩;obtain⟨ia,ic,rfl⟩:=aA Dl;obtain⟨oa,oc,rfl⟩:=aA kD;have HQ:Hid (Ea n pb db w o d L (fJ es v.toNat).length (aX es v.toNat).length C.length (.returned (.tuple #[.int .i64 ((fJ es v.toNat).length:Int),.int .i64 ((aX es v.toNat).length:Int),.int .i64 (C.length:Int),.int .i64 0])) w2):=ae ⟨d2,o2,rfl,e9.out.trans cT (by grind)⟩;clear cT Dl kD hb;go_wp2;go_returns;exact HQ.out
end
end
end Go.Proofs.YthkkgdpomhhjjaaGreatDoor
